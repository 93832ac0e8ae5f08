/- Part 4 of what the law's proof needs: words, walks of functions and plain facts. -/
import Derived.CallsIn
import Derived.RangeFuncCalls
import Derived.KernelRfl
import Derived.Deep.MidRow
import Derived.Deep.AppendSrc
import Derived.Below
import Derived.Test.YtikmfpjcdcckeaaGreatDoorU01
import Derived.Test.YtikmfpjcdcckeaaGreatDoorU02
import Derived.Test.YtikmfpjcdcckeaaGreatDoorU03
set_option linter.unusedVariables false
set_option linter.unusedSimpArgs false
namespace Go.Proofs.YtikmfpjcdcckeaaGreatDoor.P
open Go.RowKit Go.Proofs.YtikmfpjcdcckeaaGreatDoorW.PrintWords Go.Proofs.YtikmfpjcdcckeaaGreatDoorW.PrintLast Go.Proofs.YtikmfpjcdcckeaaGreatDoorW.PrintMore
attribute [local go_sem] max2_int min2_int max_two min_two max_three min_three max_four min_four
mutual
def tenter_Tight.j0 : Nat → Int → List Int → Bool → List (S43) → List Int → Int → Int → List Int → List (S43) → List Int → Int → Int → List (S36) → Option (List Int × Int)
 | 0, _, _, _, _, _, _, _, _, _, _, _, _, _ => none
 | k + 1, x1, x6, x28, x102000, x102001, x102002, x102003, x103000, x116000, x116001, x116002, x116003, x116004 => if x28 = true then (some (([] : List Int), 7)) else (if 0 ≤ x1 then (if x1 < (x102001.length : Int) then (tenter_Tight.l0 k x6 (wrap64 ((rd x102001 x1) - (wrap64 (x102002 * (wrap64 ((x103000.length : Int) - 1)))))) 0 x103000 (x103000.length : Int) 0 x103000 x116000 x116001 x116002 x116003 x116004) else (none)) else (none))
def tenter_Tight.l0 : Nat → List Int → Int → Int → List Int → Int → Int → List Int → List (S43) → List Int → Int → Int → List (S36) → Option (List Int × Int)
 | 0, _, _, _, _, _, _, _, _, _, _, _, _ => none
 | k + 1, x6, x10, x11, x59, x60, x61, x103000, x116000, x116001, x116002, x116003, x116004 => if x61 < x60 then (if 0 ≤ x61 then (if x61 < (x59.length : Int) then ((tenter_Tight_1.f x61 x103000).bind fun t123 => (if t123 = true then (some (([] : List Int), 7)) else (if 0 ≤ (rd x59 x61) then (if (rd x59 x61) < (x116004.length : Int) then (tenter_Tight.l0 k x6 x10 (wrap64 (x11 + ((rd_T36 x116004 (rd x59 x61)).f1))) x59 x60 (wrap64 (x61 + 1)) x103000 x116000 x116001 x116002 x116003 x116004) else (none)) else (none)))) else (none)) else (none)) else (tenter_Tight.l1 k x6 x10 x11 x103000 (x103000.length : Int) 0 x116000 x116001 x116002 x116003 x116004)
def tenter_Tight.l1 : Nat → List Int → Int → Int → List Int → Int → Int → List (S43) → List Int → Int → Int → List (S36) → Option (List Int × Int)
 | 0, _, _, _, _, _, _, _, _, _, _, _ => none
 | k + 1, x6, x10, x11, x78, x79, x80, x116000, x116001, x116002, x116003, x116004 => if x80 < x79 then (if 0 ≤ x80 then (if x80 < (x78.length : Int) then (if 0 ≤ (rd x78 x80) then (if (rd x78 x80) < (x116004.length : Int) then (if (mx ((rd_T36 x116004 (rd x78 x80)).f0) (wrap64 (x10 - (wrap64 (x11 - ((rd_T36 x116004 (rd x78 x80)).f1)))))) > ((rd_T36 x116004 (rd x78 x80)).f1) then (some (([] : List Int), 9)) else (if x6.length < 17592186044416 then (tenter_Tight.l1 k (x6 ++ [mx ((rd_T36 x116004 (rd x78 x80)).f0) (wrap64 (x10 - (wrap64 (x11 - ((rd_T36 x116004 (rd x78 x80)).f1)))))]) (wrap64 (x10 - (mx ((rd_T36 x116004 (rd x78 x80)).f0) (wrap64 (x10 - (wrap64 (x11 - ((rd_T36 x116004 (rd x78 x80)).f1)))))))) (wrap64 (x11 - ((rd_T36 x116004 (rd x78 x80)).f1))) x78 x79 (wrap64 (x80 + 1)) x116000 x116001 x116002 x116003 x116004) else (none))) else (none)) else (none)) else (none)) else (none)) else (if x10 = 0 then (some (x6, 0)) else (some (([] : List Int), 9)))
end
def tenter_Tight.f (k : Nat) (l0_0 : List (S43)) (l0_1 : List Int) (a0_2 : Int) (a0_3 : Int) (a1 : Int) (l2 : List Int) : Option (List Int × Int) := (tenter_open.f k l0_0 l0_1 a0_2 a0_3).bind fun bt103 => (if bt103.2.2.2.2.2 = 0 then ((tenter_within.f 0 (wrap64 ((l0_1.length : Int) - 1)) (([a1] : List Int))).bind fun t119 => (if t119 = true then (if (l2.length : Int) = 0 then (tenter_Tight.j0 k a1 ([] : List Int) ((l2.length : Int) == 0) l0_0 l0_1 a0_2 a0_3 l2 bt103.1 bt103.2.1 bt103.2.2.1 bt103.2.2.2.1 bt103.2.2.2.2.1) else ((tenter_within.f 0 (wrap64 ((l0_0.length : Int) - 1)) l2).bind fun t120 => (tenter_Tight.j0 k a1 ([] : List Int) (!t120) l0_0 l0_1 a0_2 a0_3 l2 bt103.1 bt103.2.1 bt103.2.2.1 bt103.2.2.2.1 bt103.2.2.2.2.1))) else (tenter_Tight.j0 k a1 ([] : List Int) (!t119) l0_0 l0_1 a0_2 a0_3 l2 bt103.1 bt103.2.1 bt103.2.2.1 bt103.2.2.2.1 bt103.2.2.2.2.1))) else (some (([] : List Int), bt103.2.2.2.2.2)))
theorem tenter_Tight.mono_l : ∀ k, (∀ y0 y1 y2 y3 y4 y5 y6 y7 y8 y9 y10 y11 y12, LeO (tenter_Tight.j0 k y0 y1 y2 y3 y4 y5 y6 y7 y8 y9 y10 y11 y12) (tenter_Tight.j0 (k + 1) y0 y1 y2 y3 y4 y5 y6 y7 y8 y9 y10 y11 y12)) ∧ (∀ y0 y1 y2 y3 y4 y5 y6 y7 y8 y9 y10 y11, LeO (tenter_Tight.l0 k y0 y1 y2 y3 y4 y5 y6 y7 y8 y9 y10 y11) (tenter_Tight.l0 (k + 1) y0 y1 y2 y3 y4 y5 y6 y7 y8 y9 y10 y11)) ∧ (∀ y0 y1 y2 y3 y4 y5 y6 y7 y8 y9 y10, LeO (tenter_Tight.l1 k y0 y1 y2 y3 y4 y5 y6 y7 y8 y9 y10) (tenter_Tight.l1 (k + 1) y0 y1 y2 y3 y4 y5 y6 y7 y8 y9 y10))
 | 0 => ⟨fun _ _ _ _ _ _ _ _ _ _ _ _ _ r h => by simp [tenter_Tight.j0] at h, fun _ _ _ _ _ _ _ _ _ _ _ _ r h => by simp [tenter_Tight.l0] at h, fun _ _ _ _ _ _ _ _ _ _ _ r h => by simp [tenter_Tight.l1] at h⟩
 | k + 1 => by
  obtain ⟨ih0, ih1, ih2⟩ := tenter_Tight.mono_l k
  refine ⟨?_, ?_, ?_⟩
  ·intro y0 y1 y2 y3 y4 y5 y6 y7 y8 y9 y10 y11 y12
   unfold tenter_Tight.j0
   repeat' first
   | (with_reducible exact ih0 _ _ _ _ _ _ _ _ _ _ _ _ _)
   | (with_reducible exact ih1 _ _ _ _ _ _ _ _ _ _ _ _)
   | (with_reducible exact ih2 _ _ _ _ _ _ _ _ _ _ _)
   | (with_reducible exact tenter_open.mono _ _ _ _ _)
   | (with_reducible exact LeO.refl _)
   | (with_reducible exact LeO.none _)
   | (with_reducible refine LeO.ite ?_ ?_)
   | (with_reducible refine LeO.bind ?_ (fun _ => ?_))
   | exact ih0 _ _ _ _ _ _ _ _ _ _ _ _ _
   | exact ih1 _ _ _ _ _ _ _ _ _ _ _ _
   | exact ih2 _ _ _ _ _ _ _ _ _ _ _
   | exact tenter_open.mono _ _ _ _ _
   | exact LeO.none _
   | refine LeO.ite ?_ ?_
   | refine LeO.bind ?_ (fun _ => ?_)
  ·intro y0 y1 y2 y3 y4 y5 y6 y7 y8 y9 y10 y11
   unfold tenter_Tight.l0
   repeat' first
   | (with_reducible exact ih0 _ _ _ _ _ _ _ _ _ _ _ _ _)
   | (with_reducible exact ih1 _ _ _ _ _ _ _ _ _ _ _ _)
   | (with_reducible exact ih2 _ _ _ _ _ _ _ _ _ _ _)
   | (with_reducible exact tenter_open.mono _ _ _ _ _)
   | (with_reducible exact LeO.refl _)
   | (with_reducible exact LeO.none _)
   | (with_reducible refine LeO.ite ?_ ?_)
   | (with_reducible refine LeO.bind ?_ (fun _ => ?_))
   | exact ih0 _ _ _ _ _ _ _ _ _ _ _ _ _
   | exact ih1 _ _ _ _ _ _ _ _ _ _ _ _
   | exact ih2 _ _ _ _ _ _ _ _ _ _ _
   | exact tenter_open.mono _ _ _ _ _
   | exact LeO.none _
   | refine LeO.ite ?_ ?_
   | refine LeO.bind ?_ (fun _ => ?_)
  ·intro y0 y1 y2 y3 y4 y5 y6 y7 y8 y9 y10
   unfold tenter_Tight.l1
   repeat' first
   | (with_reducible exact ih0 _ _ _ _ _ _ _ _ _ _ _ _ _)
   | (with_reducible exact ih1 _ _ _ _ _ _ _ _ _ _ _ _)
   | (with_reducible exact ih2 _ _ _ _ _ _ _ _ _ _ _)
   | (with_reducible exact tenter_open.mono _ _ _ _ _)
   | (with_reducible exact LeO.refl _)
   | (with_reducible exact LeO.none _)
   | (with_reducible refine LeO.ite ?_ ?_)
   | (with_reducible refine LeO.bind ?_ (fun _ => ?_))
   | exact ih0 _ _ _ _ _ _ _ _ _ _ _ _ _
   | exact ih1 _ _ _ _ _ _ _ _ _ _ _ _
   | exact ih2 _ _ _ _ _ _ _ _ _ _ _
   | exact tenter_open.mono _ _ _ _ _
   | exact LeO.none _
   | refine LeO.ite ?_ ?_
   | refine LeO.bind ?_ (fun _ => ?_)
theorem tenter_Tight.mono : ∀ a0 a1 a2 a3 a4 a5 k, LeO (tenter_Tight.f k a0 a1 a2 a3 a4 a5) (tenter_Tight.f (k + 1) a0 a1 a2 a3 a4 a5) := by
 intro a0 a1 a2 a3 a4 a5 k
 obtain ⟨ih0, ih1, ih2⟩ := tenter_Tight.mono_l k
 unfold tenter_Tight.f
 repeat' first
   | (with_reducible exact ih0 _ _ _ _ _ _ _ _ _ _ _ _ _)
   | (with_reducible exact ih1 _ _ _ _ _ _ _ _ _ _ _ _)
   | (with_reducible exact ih2 _ _ _ _ _ _ _ _ _ _ _)
   | (with_reducible exact tenter_open.mono _ _ _ _ _)
   | (with_reducible exact LeO.refl _)
   | (with_reducible exact LeO.none _)
   | (with_reducible refine LeO.ite ?_ ?_)
   | (with_reducible refine LeO.bind ?_ (fun _ => ?_))
   | exact ih0 _ _ _ _ _ _ _ _ _ _ _ _ _
   | exact ih1 _ _ _ _ _ _ _ _ _ _ _ _
   | exact ih2 _ _ _ _ _ _ _ _ _ _ _
   | exact tenter_open.mono _ _ _ _ _
   | exact LeO.none _
   | refine LeO.ite ?_ ?_
   | refine LeO.bind ?_ (fun _ => ?_)
set_option maxHeartbeats 8000000 in
set_option maxRecDepth 100000 in
theorem tenter_Tight.calls (k : Nat) (A0_0 : Option Addr) (c0_0 : Nat) (l0_0 : List (S43)) (A0_1 : Option Addr) (c0_1 : Nat) (l0_1 : List Int) (a0_2 : Int) (a0_3 : Int) (a1 : Int) (A2 : Option Addr) (c2 : Nat) (l2 : List Int) (r1 : List Int) (r2 : Int) (w : World) (hr0_0 : Kd.C k43 w A0_0 l0_0.length l0_0) (hc0_0 : l0_0.length ≤ c0_0) (hr0_1 : Kd.C (Kd.int .i64) w A0_1 l0_1.length l0_1) (hc0_1 : l0_1.length ≤ c0_1) (hr2 : Kd.C (Kd.int .i64) w A2 l2.length l2) (hc2 : l2.length ≤ c2) (h : tenter_Tight.f k l0_0 l0_1 a0_2 a0_3 a1 l2 = some (r1, r2)) :
  Calls Tryz.prog 32 #[.agg #[.slice A0_0 l0_0.length c0_0, .slice A0_1 l0_1.length c0_1, .int .i64 a0_2, .int .i64 a0_3], .int .i64 a1, .slice A2 l2.length c2] w fun e w' => ∃ v0_ : Value, e = .returned (.tuple #[v0_, .int .i64 r2]) ∧ Kd.R (Kd.int .i64) 3 w' w.heap.size (fun _ => True) v0_ r1 ∧ Below w.heap.size w w' := by
 have hu25 := Tryz.underlying25
 have hu96 := Tryz.underlying96
 have hu36 := Tryz.underlying36
 have HR0_0 := Aside0.mk hr0_0
 have HC0_0 := Aside0.mk hc0_0
 clear hr0_0 hc0_0
 have HR0_1 := Aside0.mk hr0_1
 have HC0_1 := Aside0.mk hc0_1
 clear hr0_1 hc0_1
 have HR2 := Aside0.mk hr2
 have HC2 := Aside0.mk hc2
 clear hr2 hc2
 have HB := Aside0.mk (Below.refl w.heap.size w)
 have H : ((tenter_open.f k l0_0 l0_1 a0_2 a0_3).bind fun bt103 => (if bt103.2.2.2.2.2 = 0 then ((tenter_within.f 0 (wrap64 ((l0_1.length : Int) - 1)) (([a1] : List Int))).bind fun t119 => (if t119 = true then (if (l2.length : Int) = 0 then (tenter_Tight.j0 k a1 ([] : List Int) ((l2.length : Int) == 0) l0_0 l0_1 a0_2 a0_3 l2 bt103.1 bt103.2.1 bt103.2.2.1 bt103.2.2.2.1 bt103.2.2.2.2.1) else ((tenter_within.f 0 (wrap64 ((l0_0.length : Int) - 1)) l2).bind fun t120 => (tenter_Tight.j0 k a1 ([] : List Int) (!t120) l0_0 l0_1 a0_2 a0_3 l2 bt103.1 bt103.2.1 bt103.2.2.1 bt103.2.2.2.1 bt103.2.2.2.2.1))) else (tenter_Tight.j0 k a1 ([] : List Int) (!t119) l0_0 l0_1 a0_2 a0_3 l2 bt103.1 bt103.2.1 bt103.2.2.1 bt103.2.2.2.1 bt103.2.2.2.2.1))) else (some (([] : List Int), bt103.2.2.2.2.2)))) = some (r1, r2) := h
 clear h
 obtain ⟨⟨t103, t106, t109, t110, t111, t114⟩, A4, H⟩ := bi H
 by_cases c5 : t114 = 0
 ·rw [if_pos c5] at H
  have c5b0 : (t114 == 0) = true := beq_iff_eq.mpr c5
  have c5b1 : (t114 != 0) = false := bne_eq_false_iff_eq.mpr c5
  clear c5
  obtain ⟨y116, hy116⟩ : ∃ y_ : List Int, y_ = (([a1] : List Int)) := ⟨_, rfl⟩
  replace H : Option.bind (tenter_within.f 0 (wrap64 ((l0_1.length : Int) - 1)) y116) _ = some (r1, r2) := yy hy116 H
  have Ny116 := Aside0.mk hy116
  clear hy116
  obtain ⟨t119, A6, H⟩ := bi H
  have HC7 := Aside0.mk H
  clear H
  go_enter Tryz.func32, Tryz.ntmps32
  go_upto_if 28 with (first | ((with_reducible refine gate_dst (N := 3) rfl ?_); refine bx 3 #[.slice A0_0 l0_0.length c0_0, .slice A0_1 l0_1.length c0_1, .int .i64 a0_2, .int .i64 a0_3] 25 ?_; intro gb101 hg w8 hbox hb; have BK101 := hbox; have GW101 := gs HB hg; have GE101 := gs HB hg; replace HB := bs HB hb; clear hb hbox hg) | ((with_reducible refine gate_dst (N := 5) rfl ?_); refine bx 5 #[.slice A2 l2.length c2] 23 ?_; intro gb102 hg w9 hbox hb; have BK102 := hbox; have GW102 := gs HB hg; have GE102 := gs HB hg; replace HB := bs HB hb; have NB101_102 := nl BK101 hg; have NB102_101 := nr BK101 hg; replace BK101 := bb BK101 hb; clear hb hbox hg; have hnb10 := NB101_102.out; have hnc10 := NB102_101.out; obtain ⟨hcz11_0, hcz11_1, hcz11_2, hcz11_3, hfz11_0, hfz11_1, hfz11_2, hfz11_3⟩ := cf4 BK101) | (go_at_call 57; (with_reducible refine (tenter_open.calls k (fun k_ => k_ < w.heap.size) _ _ l0_0 (fun k_ => k_ < w.heap.size) _ _ l0_1 a0_2 a0_3 t103 t106 t109 t110 t111 t114 _ ?side1 ?side2 A4.out).mono ?_); (case side1 => exact Kd.V_mk HC0_0.out (Kd.F_below (Kd.C_F k43_heap HR0_0.out) (pE HB))); (case side2 => exact Kd.V_mk HC0_1.out (Kd.F_below (Kd.C_F (Kd.heap_int .i64) HR0_1.out) (pE HB))); rintro e w12 ⟨v104, v107, v112, rfl, ho0, ho1, ho2, hb⟩; have HO105 := Aside0.mk (Kd.V_lower (Kd.V_mono (ok' := fun k_ => some k_ ≠ (v112 : Value).ownBlock ∧ k_ ≠ gb101 ∧ k_ ≠ gb102) ho0 (fun k_ hk_ => ⟨hk_.2, Or.elim hk_.1 (fun hs_ => Or.elim hs_ (fun hs_ => fun e_ => Nat.not_le.2 hs_ (by rw [e_]; exact GW101.out)) (fun hs_ => fun e_ => Nat.not_le.2 hs_ (by rw [e_]; exact GW101.out))) (fun hn_ => (Kd.freshB (g := gb101) (o := .cells #[.slice A0_0 l0_0.length c0_0, .slice A0_1 l0_1.length c0_1, .int .i64 a0_2, .int .i64 a0_3] 25 (0, 0)) (pB BK101.out) k_ hn_)), Or.elim hk_.1 (fun hs_ => Or.elim hs_ (fun hs_ => fun e_ => Nat.not_le.2 hs_ (by rw [e_]; exact GW102.out)) (fun hs_ => fun e_ => Nat.not_le.2 hs_ (by rw [e_]; exact GW102.out))) (fun hn_ => (Kd.freshB (g := gb102) (o := .cells #[.slice A2 l2.length c2] 23 (0, 0)) (pB BK102.out) k_ hn_))⟩)) (below_size (pE HB))); have HO108 := Aside0.mk (Kd.V_lower (Kd.V_mono (ok' := fun k_ => some k_ ≠ (v112 : Value).ownBlock ∧ k_ ≠ gb101 ∧ k_ ≠ gb102) ho1 (fun k_ hk_ => ⟨hk_.2, Or.elim hk_.1 (fun hs_ => Or.elim hs_ (fun hs_ => fun e_ => Nat.not_le.2 hs_ (by rw [e_]; exact GW101.out)) (fun hs_ => fun e_ => Nat.not_le.2 hs_ (by rw [e_]; exact GW101.out))) (fun hn_ => (Kd.freshB (g := gb101) (o := .cells #[.slice A0_0 l0_0.length c0_0, .slice A0_1 l0_1.length c0_1, .int .i64 a0_2, .int .i64 a0_3] 25 (0, 0)) (pB BK101.out) k_ hn_)), Or.elim hk_.1 (fun hs_ => Or.elim hs_ (fun hs_ => fun e_ => Nat.not_le.2 hs_ (by rw [e_]; exact GW102.out)) (fun hs_ => fun e_ => Nat.not_le.2 hs_ (by rw [e_]; exact GW102.out))) (fun hn_ => (Kd.freshB (g := gb102) (o := .cells #[.slice A2 l2.length c2] 23 (0, 0)) (pB BK102.out) k_ hn_))⟩)) (below_size (pE HB))); have HO113 := Aside0.mk (Kd.R_lower (Kd.R_mono (ok' := fun k_ => True) ho2 (fun _ hk_ => trivial)) (below_size (pE HB))); replace BK101 := bb BK101 hb; replace BK102 := bb BK102 hb; replace HB := bs HB hb; (try clear hb); (try clear hb2); (try clear hk); (try clear hi); (try clear ho0); (try clear ho1); (try clear ho2)) | ((with_reducible refine gate_dst (N := 8) rfl ?_); refine bx 8 #[.slice none 0 0, .slice none 0 0, .int .i64 0, .int .i64 0, .slice none 0 0] 96 ?_; intro gb115 hg w13 hbox hb; replace HO105 := ve HO105 hg hb; replace HO108 := ve HO108 hg hb; replace HO113 := rb HO113 hb; have BK115 := hbox; have GW115 := gs HB hg; have GE115 := gs HB hg; replace HB := bs HB hb; have NB101_115 := nl BK101 hg; have NB115_101 := nr BK101 hg; replace BK101 := bb BK101 hb; have NB102_115 := nl BK102 hg; have NB115_102 := nr BK102 hg; replace BK102 := bb BK102 hb; clear hb hbox hg; obtain ⟨Ao14, co14, eo14⟩ := Kd.V_slice HO105.out; subst eo14; have hnb15 := NB115_101.out; have hnc15 := NB101_115.out; have hnb16 := NB115_102.out; have hnc16 := NB102_115.out; obtain ⟨hcz17_0, hcz17_1, hcz17_2, hcz17_3, hcz17_4, hfz17_0, hfz17_1, hfz17_2, hfz17_3, hfz17_4⟩ := cf5 BK115; obtain ⟨Ao18, co18, eo18⟩ := Kd.V_slice HO108.out; subst eo18; obtain ⟨Ao19, co19, eo19⟩ := Kd.R_slice HO113.out; subst eo19; obtain ⟨hcz20_0, hcz20_1, hcz20_2, hcz20_3, hfz20_0, hfz20_1, hfz20_2, hfz20_3⟩ := cf4 BK101) | ((with_reducible refine gate_dst (N := 34) rfl ?_); refine Kd.R_lit (Kd.int .i64) _ 3 ?hg (N := 34) ?hd (xs := ([a1] : List Int)) (inner := [.int .i64 a1]) (ok := fun _ => True) (okp := fun _ => True) ?hr ?hp (fun _ hk => hk) trivial (Below.refl _ _) (Nat.le_refl _) (by simp) ?_; (case hd => rfl); (case hg => rfl); (case hr => first | (go_simp; done) | (go_simp; rfl)); (case hp => exact (Reps.one (show Kd.M (Kd.int .i64) _ _ _ a1 [.int .i64 a1] from rfl) (Reps.none _ _))); intro v117 w21 ho22 hb hg_ hnew_; clear hg_ hnew_; (first | rw [← Ny116.out] at ho22 | (simp only [Int.reduceToNat] at ho22; rw [← Ny116.out] at ho22)); replace HO105 := Aside0.mk (Kd.V_elder' (by refine pV ?_; exact (Kd.V_mono (Kd.V_far (p := ⟨gb115, 4, none⟩) (Kd.V_far (p := ⟨gb115, 3, none⟩) (Kd.V_far (p := ⟨gb115, 2, none⟩) (Kd.V_far (p := ⟨gb115, 1, none⟩) (Kd.V_far (p := ⟨gb115, 0, none⟩) (Kd.V_mono HO105.out (fun k_ hk => (⟨hk, hk.2⟩ : _ ∧ k_ ≠ gb115))) (fun _ hk => hk.2) (.slice Ao14 t103.length co14)) (fun _ hk => hk.2) (.slice Ao18 t106.length co18)) (fun _ hk => hk.2) (.int .i64 t109)) (fun _ hk => hk.2) (.int .i64 t110)) (fun _ hk => hk.2) (.slice Ao19 t111.length co19)) (fun _ h_ => h_.1))) (Kd.R_base ho22) hb); replace HO108 := Aside0.mk (Kd.V_elder' (by refine pV ?_; exact (Kd.V_mono (Kd.V_far (p := ⟨gb115, 4, none⟩) (Kd.V_far (p := ⟨gb115, 3, none⟩) (Kd.V_far (p := ⟨gb115, 2, none⟩) (Kd.V_far (p := ⟨gb115, 1, none⟩) (Kd.V_far (p := ⟨gb115, 0, none⟩) (Kd.V_mono HO108.out (fun k_ hk => (⟨hk, hk.2⟩ : _ ∧ k_ ≠ gb115))) (fun _ hk => hk.2) (.slice Ao14 t103.length co14)) (fun _ hk => hk.2) (.slice Ao18 t106.length co18)) (fun _ hk => hk.2) (.int .i64 t109)) (fun _ hk => hk.2) (.int .i64 t110)) (fun _ hk => hk.2) (.slice Ao19 t111.length co19)) (fun _ h_ => h_.1))) (Kd.R_base ho22) hb); replace HO113 := Aside0.mk (Kd.R_below (by refine pR ?_; exact (Kd.R_mono (Kd.R_far (p := ⟨gb115, 4, none⟩) (Kd.R_far (p := ⟨gb115, 3, none⟩) (Kd.R_far (p := ⟨gb115, 2, none⟩) (Kd.R_far (p := ⟨gb115, 1, none⟩) (Kd.R_far (p := ⟨gb115, 0, none⟩) (Kd.R_types HO113.out BK115.out (by decide)) (fun _ hk => hk.2) (.slice Ao14 t103.length co14)) (fun _ hk => hk.2) (.slice Ao18 t106.length co18)) (fun _ hk => hk.2) (.int .i64 t109)) (fun _ hk => hk.2) (.int .i64 t110)) (fun _ hk => hk.2) (.slice Ao19 t111.length co19)) (fun _ h_ => h_.1))) hb); have HO118 := rl ho22 HB; replace BK101 := bf BK101 hb; replace BK102 := bf BK102 hb; replace BK115 := Aside0.mk (blk_below (g := gb115) (o := .cells #[.slice Ao14 t103.length co14, .slice Ao18 t106.length co18, .int .i64 t109, .int .i64 t110, .slice Ao19 t111.length co19] 96 (0, 0)) (by refine pB ?_; refine blk_put (cs := #[.slice Ao14 t103.length co14, .slice Ao18 t106.length co18, .int .i64 t109, .int .i64 t110, .slice none 0 0]) ?_ 4 _ rfl; refine pB ?_; refine blk_put (cs := #[.slice Ao14 t103.length co14, .slice Ao18 t106.length co18, .int .i64 t109, .int .i64 0, .slice none 0 0]) ?_ 3 _ rfl; refine pB ?_; refine blk_put (cs := #[.slice Ao14 t103.length co14, .slice Ao18 t106.length co18, .int .i64 0, .int .i64 0, .slice none 0 0]) ?_ 2 _ rfl; refine pB ?_; refine blk_put (cs := #[.slice Ao14 t103.length co14, .slice none 0 0, .int .i64 0, .int .i64 0, .slice none 0 0]) ?_ 1 _ rfl; refine pB ?_; refine blk_put (cs := #[.slice none 0 0, .slice none 0 0, .int .i64 0, .int .i64 0, .slice none 0 0]) ?_ 0 _ rfl; (with_reducible repeat (first | refine blk_drewN ?_ _ | refine blk_drew ?_ | refine blk_alloc ?_ _)); exact BK115.out) hb); replace HB := bs HB hb; clear hb ho22; obtain ⟨Ao23, co23, eo23⟩ := Kd.R_slice HO118.out; subst eo23) | (go_at_call 55; (with_reducible refine (tenter_within.calls 0 (wrap64 ((l0_1.length : Int) - 1)) _ _ y116 t119 _ ?side1 ?side2 A6.out).mono ?_); (case side1 => exact pC (Kd.R_reads' HO118.out).2.2); (case side2 => exact (Kd.R_reads' HO118.out).2.1); rintro e w24 ⟨rfl, hb⟩; replace HO105 := vb HO105 hb; replace HO108 := vb HO108 hb; replace HO113 := rb HO113 hb; replace HO118 := rb HO118 hb; replace BK101 := bb BK101 hb; replace BK102 := bb BK102 hb; replace BK115 := bb BK115 hb; replace HB := bs HB hb; (try clear hb); (try clear hb2); (try clear hk); (try clear hi)))
  repeat (go_quiet (first | ((with_reducible refine gate_dst (N := 3) rfl ?_); refine bx 3 #[.slice A0_0 l0_0.length c0_0, .slice A0_1 l0_1.length c0_1, .int .i64 a0_2, .int .i64 a0_3] 25 ?_; intro gb101 hg w8 hbox hb; have BK101 := hbox; have GW101 := gs HB hg; have GE101 := gs HB hg; replace HB := bs HB hb; clear hb hbox hg) | ((with_reducible refine gate_dst (N := 5) rfl ?_); refine bx 5 #[.slice A2 l2.length c2] 23 ?_; intro gb102 hg w9 hbox hb; have BK102 := hbox; have GW102 := gs HB hg; have GE102 := gs HB hg; replace HB := bs HB hb; have NB101_102 := nl BK101 hg; have NB102_101 := nr BK101 hg; replace BK101 := bb BK101 hb; clear hb hbox hg; have hnb10 := NB101_102.out; have hnc10 := NB102_101.out; obtain ⟨hcz11_0, hcz11_1, hcz11_2, hcz11_3, hfz11_0, hfz11_1, hfz11_2, hfz11_3⟩ := cf4 BK101) | (go_at_call 57; (with_reducible refine (tenter_open.calls k (fun k_ => k_ < w.heap.size) _ _ l0_0 (fun k_ => k_ < w.heap.size) _ _ l0_1 a0_2 a0_3 t103 t106 t109 t110 t111 t114 _ ?side1 ?side2 A4.out).mono ?_); (case side1 => exact Kd.V_mk HC0_0.out (Kd.F_below (Kd.C_F k43_heap HR0_0.out) (pE HB))); (case side2 => exact Kd.V_mk HC0_1.out (Kd.F_below (Kd.C_F (Kd.heap_int .i64) HR0_1.out) (pE HB))); rintro e w12 ⟨v104, v107, v112, rfl, ho0, ho1, ho2, hb⟩; have HO105 := Aside0.mk (Kd.V_lower (Kd.V_mono (ok' := fun k_ => some k_ ≠ (v112 : Value).ownBlock ∧ k_ ≠ gb101 ∧ k_ ≠ gb102) ho0 (fun k_ hk_ => ⟨hk_.2, Or.elim hk_.1 (fun hs_ => Or.elim hs_ (fun hs_ => fun e_ => Nat.not_le.2 hs_ (by rw [e_]; exact GW101.out)) (fun hs_ => fun e_ => Nat.not_le.2 hs_ (by rw [e_]; exact GW101.out))) (fun hn_ => (Kd.freshB (g := gb101) (o := .cells #[.slice A0_0 l0_0.length c0_0, .slice A0_1 l0_1.length c0_1, .int .i64 a0_2, .int .i64 a0_3] 25 (0, 0)) (pB BK101.out) k_ hn_)), Or.elim hk_.1 (fun hs_ => Or.elim hs_ (fun hs_ => fun e_ => Nat.not_le.2 hs_ (by rw [e_]; exact GW102.out)) (fun hs_ => fun e_ => Nat.not_le.2 hs_ (by rw [e_]; exact GW102.out))) (fun hn_ => (Kd.freshB (g := gb102) (o := .cells #[.slice A2 l2.length c2] 23 (0, 0)) (pB BK102.out) k_ hn_))⟩)) (below_size (pE HB))); have HO108 := Aside0.mk (Kd.V_lower (Kd.V_mono (ok' := fun k_ => some k_ ≠ (v112 : Value).ownBlock ∧ k_ ≠ gb101 ∧ k_ ≠ gb102) ho1 (fun k_ hk_ => ⟨hk_.2, Or.elim hk_.1 (fun hs_ => Or.elim hs_ (fun hs_ => fun e_ => Nat.not_le.2 hs_ (by rw [e_]; exact GW101.out)) (fun hs_ => fun e_ => Nat.not_le.2 hs_ (by rw [e_]; exact GW101.out))) (fun hn_ => (Kd.freshB (g := gb101) (o := .cells #[.slice A0_0 l0_0.length c0_0, .slice A0_1 l0_1.length c0_1, .int .i64 a0_2, .int .i64 a0_3] 25 (0, 0)) (pB BK101.out) k_ hn_)), Or.elim hk_.1 (fun hs_ => Or.elim hs_ (fun hs_ => fun e_ => Nat.not_le.2 hs_ (by rw [e_]; exact GW102.out)) (fun hs_ => fun e_ => Nat.not_le.2 hs_ (by rw [e_]; exact GW102.out))) (fun hn_ => (Kd.freshB (g := gb102) (o := .cells #[.slice A2 l2.length c2] 23 (0, 0)) (pB BK102.out) k_ hn_))⟩)) (below_size (pE HB))); have HO113 := Aside0.mk (Kd.R_lower (Kd.R_mono (ok' := fun k_ => True) ho2 (fun _ hk_ => trivial)) (below_size (pE HB))); replace BK101 := bb BK101 hb; replace BK102 := bb BK102 hb; replace HB := bs HB hb; (try clear hb); (try clear hb2); (try clear hk); (try clear hi); (try clear ho0); (try clear ho1); (try clear ho2)) | ((with_reducible refine gate_dst (N := 8) rfl ?_); refine bx 8 #[.slice none 0 0, .slice none 0 0, .int .i64 0, .int .i64 0, .slice none 0 0] 96 ?_; intro gb115 hg w13 hbox hb; replace HO105 := ve HO105 hg hb; replace HO108 := ve HO108 hg hb; replace HO113 := rb HO113 hb; have BK115 := hbox; have GW115 := gs HB hg; have GE115 := gs HB hg; replace HB := bs HB hb; have NB101_115 := nl BK101 hg; have NB115_101 := nr BK101 hg; replace BK101 := bb BK101 hb; have NB102_115 := nl BK102 hg; have NB115_102 := nr BK102 hg; replace BK102 := bb BK102 hb; clear hb hbox hg; obtain ⟨Ao14, co14, eo14⟩ := Kd.V_slice HO105.out; subst eo14; have hnb15 := NB115_101.out; have hnc15 := NB101_115.out; have hnb16 := NB115_102.out; have hnc16 := NB102_115.out; obtain ⟨hcz17_0, hcz17_1, hcz17_2, hcz17_3, hcz17_4, hfz17_0, hfz17_1, hfz17_2, hfz17_3, hfz17_4⟩ := cf5 BK115; obtain ⟨Ao18, co18, eo18⟩ := Kd.V_slice HO108.out; subst eo18; obtain ⟨Ao19, co19, eo19⟩ := Kd.R_slice HO113.out; subst eo19; obtain ⟨hcz20_0, hcz20_1, hcz20_2, hcz20_3, hfz20_0, hfz20_1, hfz20_2, hfz20_3⟩ := cf4 BK101) | ((with_reducible refine gate_dst (N := 34) rfl ?_); refine Kd.R_lit (Kd.int .i64) _ 3 ?hg (N := 34) ?hd (xs := ([a1] : List Int)) (inner := [.int .i64 a1]) (ok := fun _ => True) (okp := fun _ => True) ?hr ?hp (fun _ hk => hk) trivial (Below.refl _ _) (Nat.le_refl _) (by simp) ?_; (case hd => rfl); (case hg => rfl); (case hr => first | (go_simp; done) | (go_simp; rfl)); (case hp => exact (Reps.one (show Kd.M (Kd.int .i64) _ _ _ a1 [.int .i64 a1] from rfl) (Reps.none _ _))); intro v117 w21 ho22 hb hg_ hnew_; clear hg_ hnew_; (first | rw [← Ny116.out] at ho22 | (simp only [Int.reduceToNat] at ho22; rw [← Ny116.out] at ho22)); replace HO105 := Aside0.mk (Kd.V_elder' (by refine pV ?_; exact (Kd.V_mono (Kd.V_far (p := ⟨gb115, 4, none⟩) (Kd.V_far (p := ⟨gb115, 3, none⟩) (Kd.V_far (p := ⟨gb115, 2, none⟩) (Kd.V_far (p := ⟨gb115, 1, none⟩) (Kd.V_far (p := ⟨gb115, 0, none⟩) (Kd.V_mono HO105.out (fun k_ hk => (⟨hk, hk.2⟩ : _ ∧ k_ ≠ gb115))) (fun _ hk => hk.2) (.slice Ao14 t103.length co14)) (fun _ hk => hk.2) (.slice Ao18 t106.length co18)) (fun _ hk => hk.2) (.int .i64 t109)) (fun _ hk => hk.2) (.int .i64 t110)) (fun _ hk => hk.2) (.slice Ao19 t111.length co19)) (fun _ h_ => h_.1))) (Kd.R_base ho22) hb); replace HO108 := Aside0.mk (Kd.V_elder' (by refine pV ?_; exact (Kd.V_mono (Kd.V_far (p := ⟨gb115, 4, none⟩) (Kd.V_far (p := ⟨gb115, 3, none⟩) (Kd.V_far (p := ⟨gb115, 2, none⟩) (Kd.V_far (p := ⟨gb115, 1, none⟩) (Kd.V_far (p := ⟨gb115, 0, none⟩) (Kd.V_mono HO108.out (fun k_ hk => (⟨hk, hk.2⟩ : _ ∧ k_ ≠ gb115))) (fun _ hk => hk.2) (.slice Ao14 t103.length co14)) (fun _ hk => hk.2) (.slice Ao18 t106.length co18)) (fun _ hk => hk.2) (.int .i64 t109)) (fun _ hk => hk.2) (.int .i64 t110)) (fun _ hk => hk.2) (.slice Ao19 t111.length co19)) (fun _ h_ => h_.1))) (Kd.R_base ho22) hb); replace HO113 := Aside0.mk (Kd.R_below (by refine pR ?_; exact (Kd.R_mono (Kd.R_far (p := ⟨gb115, 4, none⟩) (Kd.R_far (p := ⟨gb115, 3, none⟩) (Kd.R_far (p := ⟨gb115, 2, none⟩) (Kd.R_far (p := ⟨gb115, 1, none⟩) (Kd.R_far (p := ⟨gb115, 0, none⟩) (Kd.R_types HO113.out BK115.out (by decide)) (fun _ hk => hk.2) (.slice Ao14 t103.length co14)) (fun _ hk => hk.2) (.slice Ao18 t106.length co18)) (fun _ hk => hk.2) (.int .i64 t109)) (fun _ hk => hk.2) (.int .i64 t110)) (fun _ hk => hk.2) (.slice Ao19 t111.length co19)) (fun _ h_ => h_.1))) hb); have HO118 := rl ho22 HB; replace BK101 := bf BK101 hb; replace BK102 := bf BK102 hb; replace BK115 := Aside0.mk (blk_below (g := gb115) (o := .cells #[.slice Ao14 t103.length co14, .slice Ao18 t106.length co18, .int .i64 t109, .int .i64 t110, .slice Ao19 t111.length co19] 96 (0, 0)) (by refine pB ?_; refine blk_put (cs := #[.slice Ao14 t103.length co14, .slice Ao18 t106.length co18, .int .i64 t109, .int .i64 t110, .slice none 0 0]) ?_ 4 _ rfl; refine pB ?_; refine blk_put (cs := #[.slice Ao14 t103.length co14, .slice Ao18 t106.length co18, .int .i64 t109, .int .i64 0, .slice none 0 0]) ?_ 3 _ rfl; refine pB ?_; refine blk_put (cs := #[.slice Ao14 t103.length co14, .slice Ao18 t106.length co18, .int .i64 0, .int .i64 0, .slice none 0 0]) ?_ 2 _ rfl; refine pB ?_; refine blk_put (cs := #[.slice Ao14 t103.length co14, .slice none 0 0, .int .i64 0, .int .i64 0, .slice none 0 0]) ?_ 1 _ rfl; refine pB ?_; refine blk_put (cs := #[.slice none 0 0, .slice none 0 0, .int .i64 0, .int .i64 0, .slice none 0 0]) ?_ 0 _ rfl; (with_reducible repeat (first | refine blk_drewN ?_ _ | refine blk_drew ?_ | refine blk_alloc ?_ _)); exact BK115.out) hb); replace HB := bs HB hb; clear hb ho22; obtain ⟨Ao23, co23, eo23⟩ := Kd.R_slice HO118.out; subst eo23) | (go_at_call 55; (with_reducible refine (tenter_within.calls 0 (wrap64 ((l0_1.length : Int) - 1)) _ _ y116 t119 _ ?side1 ?side2 A6.out).mono ?_); (case side1 => exact pC (Kd.R_reads' HO118.out).2.2); (case side2 => exact (Kd.R_reads' HO118.out).2.1); rintro e w24 ⟨rfl, hb⟩; replace HO105 := vb HO105 hb; replace HO108 := vb HO108 hb; replace HO113 := rb HO113 hb; replace HO118 := rb HO118 hb; replace BK101 := bb BK101 hb; replace BK102 := bb BK102 hb; replace BK115 := bb BK115 hb; replace HB := bs HB hb; (try clear hb); (try clear hb2); (try clear hk); (try clear hi))); go_upto_if 28 with (first | ((with_reducible refine gate_dst (N := 3) rfl ?_); refine bx 3 #[.slice A0_0 l0_0.length c0_0, .slice A0_1 l0_1.length c0_1, .int .i64 a0_2, .int .i64 a0_3] 25 ?_; intro gb101 hg w8 hbox hb; have BK101 := hbox; have GW101 := gs HB hg; have GE101 := gs HB hg; replace HB := bs HB hb; clear hb hbox hg) | ((with_reducible refine gate_dst (N := 5) rfl ?_); refine bx 5 #[.slice A2 l2.length c2] 23 ?_; intro gb102 hg w9 hbox hb; have BK102 := hbox; have GW102 := gs HB hg; have GE102 := gs HB hg; replace HB := bs HB hb; have NB101_102 := nl BK101 hg; have NB102_101 := nr BK101 hg; replace BK101 := bb BK101 hb; clear hb hbox hg; have hnb10 := NB101_102.out; have hnc10 := NB102_101.out; obtain ⟨hcz11_0, hcz11_1, hcz11_2, hcz11_3, hfz11_0, hfz11_1, hfz11_2, hfz11_3⟩ := cf4 BK101) | (go_at_call 57; (with_reducible refine (tenter_open.calls k (fun k_ => k_ < w.heap.size) _ _ l0_0 (fun k_ => k_ < w.heap.size) _ _ l0_1 a0_2 a0_3 t103 t106 t109 t110 t111 t114 _ ?side1 ?side2 A4.out).mono ?_); (case side1 => exact Kd.V_mk HC0_0.out (Kd.F_below (Kd.C_F k43_heap HR0_0.out) (pE HB))); (case side2 => exact Kd.V_mk HC0_1.out (Kd.F_below (Kd.C_F (Kd.heap_int .i64) HR0_1.out) (pE HB))); rintro e w12 ⟨v104, v107, v112, rfl, ho0, ho1, ho2, hb⟩; have HO105 := Aside0.mk (Kd.V_lower (Kd.V_mono (ok' := fun k_ => some k_ ≠ (v112 : Value).ownBlock ∧ k_ ≠ gb101 ∧ k_ ≠ gb102) ho0 (fun k_ hk_ => ⟨hk_.2, Or.elim hk_.1 (fun hs_ => Or.elim hs_ (fun hs_ => fun e_ => Nat.not_le.2 hs_ (by rw [e_]; exact GW101.out)) (fun hs_ => fun e_ => Nat.not_le.2 hs_ (by rw [e_]; exact GW101.out))) (fun hn_ => (Kd.freshB (g := gb101) (o := .cells #[.slice A0_0 l0_0.length c0_0, .slice A0_1 l0_1.length c0_1, .int .i64 a0_2, .int .i64 a0_3] 25 (0, 0)) (pB BK101.out) k_ hn_)), Or.elim hk_.1 (fun hs_ => Or.elim hs_ (fun hs_ => fun e_ => Nat.not_le.2 hs_ (by rw [e_]; exact GW102.out)) (fun hs_ => fun e_ => Nat.not_le.2 hs_ (by rw [e_]; exact GW102.out))) (fun hn_ => (Kd.freshB (g := gb102) (o := .cells #[.slice A2 l2.length c2] 23 (0, 0)) (pB BK102.out) k_ hn_))⟩)) (below_size (pE HB))); have HO108 := Aside0.mk (Kd.V_lower (Kd.V_mono (ok' := fun k_ => some k_ ≠ (v112 : Value).ownBlock ∧ k_ ≠ gb101 ∧ k_ ≠ gb102) ho1 (fun k_ hk_ => ⟨hk_.2, Or.elim hk_.1 (fun hs_ => Or.elim hs_ (fun hs_ => fun e_ => Nat.not_le.2 hs_ (by rw [e_]; exact GW101.out)) (fun hs_ => fun e_ => Nat.not_le.2 hs_ (by rw [e_]; exact GW101.out))) (fun hn_ => (Kd.freshB (g := gb101) (o := .cells #[.slice A0_0 l0_0.length c0_0, .slice A0_1 l0_1.length c0_1, .int .i64 a0_2, .int .i64 a0_3] 25 (0, 0)) (pB BK101.out) k_ hn_)), Or.elim hk_.1 (fun hs_ => Or.elim hs_ (fun hs_ => fun e_ => Nat.not_le.2 hs_ (by rw [e_]; exact GW102.out)) (fun hs_ => fun e_ => Nat.not_le.2 hs_ (by rw [e_]; exact GW102.out))) (fun hn_ => (Kd.freshB (g := gb102) (o := .cells #[.slice A2 l2.length c2] 23 (0, 0)) (pB BK102.out) k_ hn_))⟩)) (below_size (pE HB))); have HO113 := Aside0.mk (Kd.R_lower (Kd.R_mono (ok' := fun k_ => True) ho2 (fun _ hk_ => trivial)) (below_size (pE HB))); replace BK101 := bb BK101 hb; replace BK102 := bb BK102 hb; replace HB := bs HB hb; (try clear hb); (try clear hb2); (try clear hk); (try clear hi); (try clear ho0); (try clear ho1); (try clear ho2)) | ((with_reducible refine gate_dst (N := 8) rfl ?_); refine bx 8 #[.slice none 0 0, .slice none 0 0, .int .i64 0, .int .i64 0, .slice none 0 0] 96 ?_; intro gb115 hg w13 hbox hb; replace HO105 := ve HO105 hg hb; replace HO108 := ve HO108 hg hb; replace HO113 := rb HO113 hb; have BK115 := hbox; have GW115 := gs HB hg; have GE115 := gs HB hg; replace HB := bs HB hb; have NB101_115 := nl BK101 hg; have NB115_101 := nr BK101 hg; replace BK101 := bb BK101 hb; have NB102_115 := nl BK102 hg; have NB115_102 := nr BK102 hg; replace BK102 := bb BK102 hb; clear hb hbox hg; obtain ⟨Ao14, co14, eo14⟩ := Kd.V_slice HO105.out; subst eo14; have hnb15 := NB115_101.out; have hnc15 := NB101_115.out; have hnb16 := NB115_102.out; have hnc16 := NB102_115.out; obtain ⟨hcz17_0, hcz17_1, hcz17_2, hcz17_3, hcz17_4, hfz17_0, hfz17_1, hfz17_2, hfz17_3, hfz17_4⟩ := cf5 BK115; obtain ⟨Ao18, co18, eo18⟩ := Kd.V_slice HO108.out; subst eo18; obtain ⟨Ao19, co19, eo19⟩ := Kd.R_slice HO113.out; subst eo19; obtain ⟨hcz20_0, hcz20_1, hcz20_2, hcz20_3, hfz20_0, hfz20_1, hfz20_2, hfz20_3⟩ := cf4 BK101) | ((with_reducible refine gate_dst (N := 34) rfl ?_); refine Kd.R_lit (Kd.int .i64) _ 3 ?hg (N := 34) ?hd (xs := ([a1] : List Int)) (inner := [.int .i64 a1]) (ok := fun _ => True) (okp := fun _ => True) ?hr ?hp (fun _ hk => hk) trivial (Below.refl _ _) (Nat.le_refl _) (by simp) ?_; (case hd => rfl); (case hg => rfl); (case hr => first | (go_simp; done) | (go_simp; rfl)); (case hp => exact (Reps.one (show Kd.M (Kd.int .i64) _ _ _ a1 [.int .i64 a1] from rfl) (Reps.none _ _))); intro v117 w21 ho22 hb hg_ hnew_; clear hg_ hnew_; (first | rw [← Ny116.out] at ho22 | (simp only [Int.reduceToNat] at ho22; rw [← Ny116.out] at ho22)); replace HO105 := Aside0.mk (Kd.V_elder' (by refine pV ?_; exact (Kd.V_mono (Kd.V_far (p := ⟨gb115, 4, none⟩) (Kd.V_far (p := ⟨gb115, 3, none⟩) (Kd.V_far (p := ⟨gb115, 2, none⟩) (Kd.V_far (p := ⟨gb115, 1, none⟩) (Kd.V_far (p := ⟨gb115, 0, none⟩) (Kd.V_mono HO105.out (fun k_ hk => (⟨hk, hk.2⟩ : _ ∧ k_ ≠ gb115))) (fun _ hk => hk.2) (.slice Ao14 t103.length co14)) (fun _ hk => hk.2) (.slice Ao18 t106.length co18)) (fun _ hk => hk.2) (.int .i64 t109)) (fun _ hk => hk.2) (.int .i64 t110)) (fun _ hk => hk.2) (.slice Ao19 t111.length co19)) (fun _ h_ => h_.1))) (Kd.R_base ho22) hb); replace HO108 := Aside0.mk (Kd.V_elder' (by refine pV ?_; exact (Kd.V_mono (Kd.V_far (p := ⟨gb115, 4, none⟩) (Kd.V_far (p := ⟨gb115, 3, none⟩) (Kd.V_far (p := ⟨gb115, 2, none⟩) (Kd.V_far (p := ⟨gb115, 1, none⟩) (Kd.V_far (p := ⟨gb115, 0, none⟩) (Kd.V_mono HO108.out (fun k_ hk => (⟨hk, hk.2⟩ : _ ∧ k_ ≠ gb115))) (fun _ hk => hk.2) (.slice Ao14 t103.length co14)) (fun _ hk => hk.2) (.slice Ao18 t106.length co18)) (fun _ hk => hk.2) (.int .i64 t109)) (fun _ hk => hk.2) (.int .i64 t110)) (fun _ hk => hk.2) (.slice Ao19 t111.length co19)) (fun _ h_ => h_.1))) (Kd.R_base ho22) hb); replace HO113 := Aside0.mk (Kd.R_below (by refine pR ?_; exact (Kd.R_mono (Kd.R_far (p := ⟨gb115, 4, none⟩) (Kd.R_far (p := ⟨gb115, 3, none⟩) (Kd.R_far (p := ⟨gb115, 2, none⟩) (Kd.R_far (p := ⟨gb115, 1, none⟩) (Kd.R_far (p := ⟨gb115, 0, none⟩) (Kd.R_types HO113.out BK115.out (by decide)) (fun _ hk => hk.2) (.slice Ao14 t103.length co14)) (fun _ hk => hk.2) (.slice Ao18 t106.length co18)) (fun _ hk => hk.2) (.int .i64 t109)) (fun _ hk => hk.2) (.int .i64 t110)) (fun _ hk => hk.2) (.slice Ao19 t111.length co19)) (fun _ h_ => h_.1))) hb); have HO118 := rl ho22 HB; replace BK101 := bf BK101 hb; replace BK102 := bf BK102 hb; replace BK115 := Aside0.mk (blk_below (g := gb115) (o := .cells #[.slice Ao14 t103.length co14, .slice Ao18 t106.length co18, .int .i64 t109, .int .i64 t110, .slice Ao19 t111.length co19] 96 (0, 0)) (by refine pB ?_; refine blk_put (cs := #[.slice Ao14 t103.length co14, .slice Ao18 t106.length co18, .int .i64 t109, .int .i64 t110, .slice none 0 0]) ?_ 4 _ rfl; refine pB ?_; refine blk_put (cs := #[.slice Ao14 t103.length co14, .slice Ao18 t106.length co18, .int .i64 t109, .int .i64 0, .slice none 0 0]) ?_ 3 _ rfl; refine pB ?_; refine blk_put (cs := #[.slice Ao14 t103.length co14, .slice Ao18 t106.length co18, .int .i64 0, .int .i64 0, .slice none 0 0]) ?_ 2 _ rfl; refine pB ?_; refine blk_put (cs := #[.slice Ao14 t103.length co14, .slice none 0 0, .int .i64 0, .int .i64 0, .slice none 0 0]) ?_ 1 _ rfl; refine pB ?_; refine blk_put (cs := #[.slice none 0 0, .slice none 0 0, .int .i64 0, .int .i64 0, .slice none 0 0]) ?_ 0 _ rfl; (with_reducible repeat (first | refine blk_drewN ?_ _ | refine blk_drew ?_ | refine blk_alloc ?_ _)); exact BK115.out) hb); replace HB := bs HB hb; clear hb ho22; obtain ⟨Ao23, co23, eo23⟩ := Kd.R_slice HO118.out; subst eo23) | (go_at_call 55; (with_reducible refine (tenter_within.calls 0 (wrap64 ((l0_1.length : Int) - 1)) _ _ y116 t119 _ ?side1 ?side2 A6.out).mono ?_); (case side1 => exact pC (Kd.R_reads' HO118.out).2.2); (case side2 => exact (Kd.R_reads' HO118.out).2.1); rintro e w24 ⟨rfl, hb⟩; replace HO105 := vb HO105 hb; replace HO108 := vb HO108 hb; replace HO113 := rb HO113 hb; replace HO118 := rb HO118 hb; replace BK101 := bb BK101 hb; replace BK102 := bb BK102 hb; replace BK115 := bb BK115 hb; replace HB := bs HB hb; (try clear hb); (try clear hb2); (try clear hk); (try clear hi))))
  (try simp only [Act.put, List.setIfInBounds_toArray, List.set_cons_zero, List.set_cons_succ])
  go_cut [28] (fun v28 wc => ∃ (kq : Nat) (x28_6 : Bool), v28 = .bool x28_6 ∧ Aside0 (tenter_Tight.j0 kq a1 ([] : List Int) x28_6 l0_0 l0_1 a0_2 a0_3 l2 t103 t106 t109 t110 t111 = some (r1, r2)) ∧ Aside0 (kq ≤ k) ∧ Aside0 (Kd.R (Kd.int .i64) 3 wc w.heap.size (fun _ => True) (.slice none 0 0) ([] : List Int)) ∧ Aside0 (Kd.V k43 43 wc w.heap.size (fun k_ => some k_ ≠ ((.slice none 0 0) : Value).ownBlock ∧ some k_ ≠ ((.slice Ao19 t111.length co19) : Value).ownBlock ∧ k_ ≠ gb101 ∧ k_ ≠ gb102 ∧ k_ ≠ gb115) (.slice Ao14 t103.length co14) t103) ∧ Aside0 (Kd.V (Kd.int .i64) 3 wc w.heap.size (fun k_ => some k_ ≠ ((.slice none 0 0) : Value).ownBlock ∧ some k_ ≠ ((.slice Ao19 t111.length co19) : Value).ownBlock ∧ k_ ≠ gb101 ∧ k_ ≠ gb102 ∧ k_ ≠ gb115) (.slice Ao18 t106.length co18) t106) ∧ Aside0 (Kd.R k36 36 wc w.heap.size (fun _ => True) (.slice Ao19 t111.length co19) t111) ∧ Aside0 (wc.heap[gb101]? = some (.cells #[(.slice A0_0 l0_0.length c0_0), (.slice A0_1 l0_1.length c0_1), .int .i64 a0_2, .int .i64 a0_3] 25 (0, 0))) ∧ Aside0 (wc.heap[gb102]? = some (.cells #[(.slice A2 l2.length c2)] 23 (0, 0))) ∧ Aside0 (wc.heap[gb115]? = some (.cells #[(.slice Ao14 t103.length co14), (.slice Ao18 t106.length co18), .int .i64 t109, .int .i64 t110, (.slice Ao19 t111.length co19)] 96 (0, 0))) ∧ Aside0 (Below w.heap.size w wc))
  case first =>
   have H := HC7.out
   clear HC7
   by_cases c25 : t119 = true
   ·subst c25
    rw [if_pos rfl] at H
    by_cases c26 : (l2.length : Int) = 0
    ·rw [if_pos c26] at H
     have c26b0 : ((l2.length : Int) == 0) = true := beq_iff_eq.mpr c26
     have c26b1 : ((l2.length : Int) != 0) = false := bne_eq_false_iff_eq.mpr c26
     clear c26
     (first | rw [c26b0] | (simp only [i64_w, i32_w]; rw [c26b0]) | skip)
     have H' := Aside0.mk H
     clear H
     have hnb27 := NB102_101.out
     have hnc27 := NB101_102.out
     have hnb28 := NB102_115.out
     have hnc28 := NB115_102.out
     obtain ⟨hcz29_0, hfz29_0⟩ := cf1 BK102
     go_wp2
     repeat (go_quiet (fail); try go_wp2)
     go_meet
     case rel => exact ⟨_, (((l2.length : Int) == 0)), (by first | rfl | (simp; done) | (simp [*]; done)), H', ⟨by first | omega | exact Nat.le_refl _⟩, ⟨by first | exact Kd.R_nil _ _ _ _ _ | exact Kd.N_nil _ _ _ _ _ | exact Kd.V_nil _ _ _ _ _ | exact Kd.Q_nil _ _ _ _ _ | exact Kd.S_nil _ _ _ _ _⟩, ⟨by (with_reducible repeat (first | apply Kd.V_alloc | apply Kd.V_drewN | apply Kd.V_drew)); exact Kd.V_mono HO105.out (fun _ hk => ⟨(by simp [Value.ownBlock]), ⟨hk.1.1.1, ⟨hk.1.1.2.1, ⟨hk.1.1.2.2, hk.1.2⟩⟩⟩⟩)⟩, ⟨by (with_reducible repeat (first | apply Kd.V_alloc | apply Kd.V_drewN | apply Kd.V_drew)); exact Kd.V_mono HO108.out (fun _ hk => ⟨(by simp [Value.ownBlock]), ⟨hk.1.1.1, ⟨hk.1.1.2.1, ⟨hk.1.1.2.2, hk.1.2⟩⟩⟩⟩)⟩, ⟨by (with_reducible repeat (first | apply Kd.R_alloc | apply Kd.R_drewN | apply Kd.R_drew)); exact HO113.out⟩, ⟨by (with_reducible repeat (first | refine blk_drewN ?_ _ | refine blk_drew ?_ | refine blk_alloc ?_ _)); exact BK101.out⟩, ⟨by (with_reducible repeat (first | refine blk_drewN ?_ _ | refine blk_drew ?_ | refine blk_alloc ?_ _)); exact BK102.out⟩, ⟨by (with_reducible repeat (first | refine blk_drewN ?_ _ | refine blk_drew ?_ | refine blk_alloc ?_ _)); exact BK115.out⟩, ⟨pE HB⟩⟩
    ·rw [if_neg c26] at H
     have c26b0 : ((l2.length : Int) == 0) = false := beq_eq_false_iff_ne.mpr c26
     have c26b1 : ((l2.length : Int) != 0) = true := bne_iff_ne.mpr c26
     have c26b2 : ¬ (l2 = []) := fun h_ => c26 (by rw [h_]; rfl)
     (first | rw [c26b0] | (simp only [i64_w, i32_w]; rw [c26b0]) | skip)
     obtain ⟨t120, A30, H⟩ := bi H
     have H' := Aside0.mk H
     clear H
     have hnb31 := NB102_101.out
     have hnc31 := NB101_102.out
     have hnb32 := NB102_115.out
     have hnc32 := NB115_102.out
     obtain ⟨hcz33_0, hfz33_0⟩ := cf1 BK102
     have hnb34 := NB101_115.out
     have hnc34 := NB115_101.out
     obtain ⟨hcz35_0, hcz35_1, hcz35_2, hcz35_3, hfz35_0, hfz35_1, hfz35_2, hfz35_3⟩ := cf4 BK101
     go_wp2_with (first | (go_at_call 55; (with_reducible refine (tenter_within.calls 0 (wrap64 ((l0_0.length : Int) - 1)) _ _ l2 t120 _ ?side1 ?side2 A30.out).mono ?_); (case side1 => exact pC (Kd.C_below HR2.out HB.out)); (case side2 => exact HC2.out); rintro e w36 ⟨rfl, hb⟩; replace HO105 := vb HO105 hb; replace HO108 := vb HO108 hb; replace HO113 := rb HO113 hb; replace HO118 := rb HO118 hb; replace BK101 := bb BK101 hb; replace BK102 := bb BK102 hb; replace BK115 := bb BK115 hb; replace HB := bs HB hb; (try clear hb); (try clear hb2); (try clear hk); (try clear hi)))
     repeat (go_quiet (first | (go_at_call 55; (with_reducible refine (tenter_within.calls 0 (wrap64 ((l0_0.length : Int) - 1)) _ _ l2 t120 _ ?side1 ?side2 A30.out).mono ?_); (case side1 => exact pC (Kd.C_below HR2.out HB.out)); (case side2 => exact HC2.out); rintro e w36 ⟨rfl, hb⟩; replace HO105 := vb HO105 hb; replace HO108 := vb HO108 hb; replace HO113 := rb HO113 hb; replace HO118 := rb HO118 hb; replace BK101 := bb BK101 hb; replace BK102 := bb BK102 hb; replace BK115 := bb BK115 hb; replace HB := bs HB hb; (try clear hb); (try clear hb2); (try clear hk); (try clear hi))); try go_wp2_with (first | (go_at_call 55; (with_reducible refine (tenter_within.calls 0 (wrap64 ((l0_0.length : Int) - 1)) _ _ l2 t120 _ ?side1 ?side2 A30.out).mono ?_); (case side1 => exact pC (Kd.C_below HR2.out HB.out)); (case side2 => exact HC2.out); rintro e w36 ⟨rfl, hb⟩; replace HO105 := vb HO105 hb; replace HO108 := vb HO108 hb; replace HO113 := rb HO113 hb; replace HO118 := rb HO118 hb; replace BK101 := bb BK101 hb; replace BK102 := bb BK102 hb; replace BK115 := bb BK115 hb; replace HB := bs HB hb; (try clear hb); (try clear hb2); (try clear hk); (try clear hi))))
     go_meet
     case rel => exact ⟨_, (!t120), (by first | rfl | (simp; done) | (simp [*]; done)), H', ⟨by first | omega | exact Nat.le_refl _⟩, ⟨by first | exact Kd.R_nil _ _ _ _ _ | exact Kd.N_nil _ _ _ _ _ | exact Kd.V_nil _ _ _ _ _ | exact Kd.Q_nil _ _ _ _ _ | exact Kd.S_nil _ _ _ _ _⟩, ⟨by (with_reducible repeat (first | apply Kd.V_alloc | apply Kd.V_drewN | apply Kd.V_drew)); exact Kd.V_mono HO105.out (fun _ hk => ⟨(by simp [Value.ownBlock]), ⟨hk.1.1.1, ⟨hk.1.1.2.1, ⟨hk.1.1.2.2, hk.1.2⟩⟩⟩⟩)⟩, ⟨by (with_reducible repeat (first | apply Kd.V_alloc | apply Kd.V_drewN | apply Kd.V_drew)); exact Kd.V_mono HO108.out (fun _ hk => ⟨(by simp [Value.ownBlock]), ⟨hk.1.1.1, ⟨hk.1.1.2.1, ⟨hk.1.1.2.2, hk.1.2⟩⟩⟩⟩)⟩, ⟨by (with_reducible repeat (first | apply Kd.R_alloc | apply Kd.R_drewN | apply Kd.R_drew)); exact HO113.out⟩, ⟨by (with_reducible repeat (first | refine blk_drewN ?_ _ | refine blk_drew ?_ | refine blk_alloc ?_ _)); exact BK101.out⟩, ⟨by (with_reducible repeat (first | refine blk_drewN ?_ _ | refine blk_drew ?_ | refine blk_alloc ?_ _)); exact BK102.out⟩, ⟨by (with_reducible repeat (first | refine blk_drewN ?_ _ | refine blk_drew ?_ | refine blk_alloc ?_ _)); exact BK115.out⟩, ⟨pE HB⟩⟩
   ·replace c25 := Bool.eq_false_iff.mpr c25
    subst c25
    rw [if_neg (show ¬ (false = true) by decide)] at H
    have H' := Aside0.mk H
    clear H
    go_wp2
    repeat (go_quiet (fail); try go_wp2)
    go_meet
    case rel => exact ⟨_, (!false), (by first | rfl | (simp; done) | (simp [*]; done)), H', ⟨by first | omega | exact Nat.le_refl _⟩, ⟨by first | exact Kd.R_nil _ _ _ _ _ | exact Kd.N_nil _ _ _ _ _ | exact Kd.V_nil _ _ _ _ _ | exact Kd.Q_nil _ _ _ _ _ | exact Kd.S_nil _ _ _ _ _⟩, ⟨by (with_reducible repeat (first | apply Kd.V_alloc | apply Kd.V_drewN | apply Kd.V_drew)); exact Kd.V_mono HO105.out (fun _ hk => ⟨(by simp [Value.ownBlock]), ⟨hk.1.1.1, ⟨hk.1.1.2.1, ⟨hk.1.1.2.2, hk.1.2⟩⟩⟩⟩)⟩, ⟨by (with_reducible repeat (first | apply Kd.V_alloc | apply Kd.V_drewN | apply Kd.V_drew)); exact Kd.V_mono HO108.out (fun _ hk => ⟨(by simp [Value.ownBlock]), ⟨hk.1.1.1, ⟨hk.1.1.2.1, ⟨hk.1.1.2.2, hk.1.2⟩⟩⟩⟩)⟩, ⟨by (with_reducible repeat (first | apply Kd.R_alloc | apply Kd.R_drewN | apply Kd.R_drew)); exact HO113.out⟩, ⟨by (with_reducible repeat (first | refine blk_drewN ?_ _ | refine blk_drew ?_ | refine blk_alloc ?_ _)); exact BK101.out⟩, ⟨by (with_reducible repeat (first | refine blk_drewN ?_ _ | refine blk_drew ?_ | refine blk_alloc ?_ _)); exact BK102.out⟩, ⟨by (with_reducible repeat (first | refine blk_drewN ?_ _ | refine blk_drew ?_ | refine blk_alloc ?_ _)); exact BK115.out⟩, ⟨pE HB⟩⟩
  case rest =>
   clear HC7
   try clear c1
   try clear c2
   try clear p2
   try clear c3
   try clear c5
   try clear c5b0
   try clear c5b1
   try clear p6
   try clear c10
   try clear c15
   try clear c16
   try clear c25
   try clear c26
   try clear c26b0
   try clear c26b1
   try clear c26b2
   try clear c27
   try clear c28
   try clear c31
   try clear c32
   try clear c34
   try clear hcz11_0
   try clear hcz11_1
   try clear hcz11_2
   try clear hcz11_3
   try clear hcz17_0
   try clear hcz17_1
   try clear hcz17_2
   try clear hcz17_3
   try clear hcz17_4
   try clear hcz20_0
   try clear hcz20_1
   try clear hcz20_2
   try clear hcz20_3
   try clear hcz29_0
   try clear hcz33_0
   try clear hcz35_0
   try clear hcz35_1
   try clear hcz35_2
   try clear hcz35_3
   try clear hfz11_0
   try clear hfz11_1
   try clear hfz11_2
   try clear hfz11_3
   try clear hfz17_0
   try clear hfz17_1
   try clear hfz17_2
   try clear hfz17_3
   try clear hfz17_4
   try clear hfz20_0
   try clear hfz20_1
   try clear hfz20_2
   try clear hfz20_3
   try clear hfz29_0
   try clear hfz33_0
   try clear hfz35_0
   try clear hfz35_1
   try clear hfz35_2
   try clear hfz35_3
   obtain ⟨kq, x28_6, rfl, HA, HJ6, HO_6, HO_116000, HO_116001, HO_116004, BK101, BK102, BK115, HB⟩ := hcut
   cases kq with
   | zero => exact absurd HA.out (by simp [tenter_Tight.j0])
   | succ kj6 =>
    have H := HA.out
    clear HA
    simp only [tenter_Tight.j0] at H
    by_cases c37 : x28_6 = true
    ·subst c37
     rw [if_pos rfl] at H
     simp only [Option.some.injEq, Prod.mk.injEq] at H
     obtain ⟨rfl, rfl⟩ := H
     go_wp2
     repeat (go_quiet (fail); try go_wp2)
     go_ret2
     exact ⟨_, eT, by first | exact Kd.R_nil _ _ _ _ _ | exact Kd.N_nil _ _ _ _ _ | exact Kd.V_nil _ _ _ _ _ | exact Kd.Q_nil _ _ _ _ _ | exact Kd.S_nil _ _ _ _ _, pE HB⟩
    ·replace c37 := Bool.eq_false_iff.mpr c37
     subst c37
     rw [if_neg (show ¬ (false = true) by decide)] at H
     by_cases c38 : 0 ≤ a1
     ·rw [if_pos c38] at H
      have c38b0 : decide (0 ≤ a1) = true := decide_eq_true c38
      clear c38
      by_cases c39 : a1 < (l0_1.length : Int)
      ·rw [if_pos c39] at H
       have c39b0 : decide (a1 < (l0_1.length : Int)) = true := decide_eq_true c39
       clear c39
       have H' := Aside0.mk H
       clear H
       have hnb40 := NB101_102.out
       have hnc40 := NB102_101.out
       have hnb41 := NB101_115.out
       have hnc41 := NB115_101.out
       obtain ⟨hcz42_0, hcz42_1, hcz42_2, hcz42_3, hfz42_0, hfz42_1, hfz42_2, hfz42_3⟩ := cf4 BK101
       have p121 : 0 ≤ (a1 : Int) := dT
       have q121 : a1 < (l0_1.length : Int) := dT
       obtain ⟨ad121, e121, hx121_0⟩ := Kd.at_int HR0_1.out a1 p121 q121
       cases e121
       replace hx121_0 := cut_ HB hx121_0
       replace p121 := eq_true p121
       replace q121 := eq_true q121
       have hnb43 := NB102_115.out
       have hnc43 := NB115_102.out
       obtain ⟨hcz44_0, hfz44_0⟩ := cf1 BK102
       go_wp2
       repeat (go_quiet (fail); try go_wp2)
       go_loopg [6, 11, 61] kj6 (fun kq v6 v11 v61 w' => ∃ (x6_2 : List Int) (x11_2 : Int) (x61_2 : Int), v11 = .int .i64 x11_2 ∧ v61 = .int .i64 x61_2 ∧ Aside0 (tenter_Tight.l0 kq x6_2 (wrap64 ((rd l0_1 a1) - (wrap64 (a0_2 * (wrap64 ((l2.length : Int) - 1)))))) x11_2 l2 (l2.length : Int) x61_2 l2 t103 t106 t109 t110 t111 = some (r1, r2)) ∧ Aside0 (kq ≤ kj6) ∧ Aside0 (Kd.R (Kd.int .i64) 3 w' w.heap.size (fun _ => True) v6 x6_2) ∧ Aside0 (Kd.V k43 43 w' w.heap.size (fun k_ => some k_ ≠ (v6 : Value).ownBlock ∧ some k_ ≠ ((.slice Ao19 t111.length co19) : Value).ownBlock ∧ k_ ≠ gb101 ∧ k_ ≠ gb102 ∧ k_ ≠ gb115) (.slice Ao14 t103.length co14) t103) ∧ Aside0 (Kd.V (Kd.int .i64) 3 w' w.heap.size (fun k_ => some k_ ≠ (v6 : Value).ownBlock ∧ some k_ ≠ ((.slice Ao19 t111.length co19) : Value).ownBlock ∧ k_ ≠ gb101 ∧ k_ ≠ gb102 ∧ k_ ≠ gb115) (.slice Ao18 t106.length co18) t106) ∧ Aside0 (Kd.R k36 36 w' w.heap.size (fun _ => True) (.slice Ao19 t111.length co19) t111) ∧ Aside0 (w'.heap[gb101]? = some (.cells #[(.slice A0_0 l0_0.length c0_0), (.slice (some ad121) l0_1.length c0_1), .int .i64 a0_2, .int .i64 a0_3] 25 (0, 0))) ∧ Aside0 (w'.heap[gb102]? = some (.cells #[(.slice A2 l2.length c2)] 23 (0, 0))) ∧ Aside0 (w'.heap[gb115]? = some (.cells #[(.slice Ao14 t103.length co14), (.slice Ao18 t106.length co18), .int .i64 t109, .int .i64 t110, (.slice Ao19 t111.length co19)] 96 (0, 0))) ∧ Aside0 (Below w.heap.size w w'))
       case atStart => exact ⟨(([] : List Int)), (0), (0), (by first | rfl | (simp; done) | (simp [*]; done)), (by first | rfl | (simp; done) | (simp [*]; done)), H', ⟨Nat.le_refl _⟩, ⟨by (with_reducible repeat (first | apply Kd.R_alloc | apply Kd.R_drewN | apply Kd.R_drew)); exact HO_6.out⟩, ⟨by (with_reducible repeat (first | apply Kd.V_alloc | apply Kd.V_drewN | apply Kd.V_drew)); exact HO_116000.out⟩, ⟨by (with_reducible repeat (first | apply Kd.V_alloc | apply Kd.V_drewN | apply Kd.V_drew)); exact HO_116001.out⟩, ⟨by (with_reducible repeat (first | apply Kd.R_alloc | apply Kd.R_drewN | apply Kd.R_drew)); exact HO_116004.out⟩, ⟨by (with_reducible repeat (first | refine blk_drewN ?_ _ | refine blk_drew ?_ | refine blk_alloc ?_ _)); exact BK101.out⟩, ⟨by (with_reducible repeat (first | refine blk_drewN ?_ _ | refine blk_drew ?_ | refine blk_alloc ?_ _)); exact BK102.out⟩, ⟨by (with_reducible repeat (first | refine blk_drewN ?_ _ | refine blk_drew ?_ | refine blk_alloc ?_ _)); exact BK115.out⟩, ⟨pE HB⟩⟩
       case round =>
        clear H'
        try clear c1
        try clear p1
        try clear q1
        try clear hx1
        try clear c2
        try clear p2
        try clear c3
        try clear c4
        try clear c5
        try clear c5b0
        try clear c5b1
        try clear p6
        try clear c10
        try clear p12
        try clear q12
        try clear hx12
        try clear c15
        try clear c16
        try clear c25
        try clear c26
        try clear c26b0
        try clear c26b1
        try clear c26b2
        try clear c27
        try clear c28
        try clear c31
        try clear c32
        try clear c34
        try clear c37
        try clear c38
        try clear c38b0
        try clear c39
        try clear c39b0
        try clear c40
        try clear c41
        try clear c43
        try clear hcz11_0
        try clear hcz11_1
        try clear hcz11_2
        try clear hcz11_3
        try clear hcz17_0
        try clear hcz17_1
        try clear hcz17_2
        try clear hcz17_3
        try clear hcz17_4
        try clear hcz20_0
        try clear hcz20_1
        try clear hcz20_2
        try clear hcz20_3
        try clear hcz29_0
        try clear hcz33_0
        try clear hcz35_0
        try clear hcz35_1
        try clear hcz35_2
        try clear hcz35_3
        try clear hcz42_0
        try clear hcz42_1
        try clear hcz42_2
        try clear hcz42_3
        try clear hcz44_0
        try clear hfz11_0
        try clear hfz11_1
        try clear hfz11_2
        try clear hfz11_3
        try clear hfz17_0
        try clear hfz17_1
        try clear hfz17_2
        try clear hfz17_3
        try clear hfz17_4
        try clear hfz20_0
        try clear hfz20_1
        try clear hfz20_2
        try clear hfz20_3
        try clear hfz29_0
        try clear hfz33_0
        try clear hfz35_0
        try clear hfz35_1
        try clear hfz35_2
        try clear hfz35_3
        try clear hfz42_0
        try clear hfz42_1
        try clear hfz42_2
        try clear hfz42_3
        try clear hfz44_0
        try clear hx121_0
        try clear p121
        try clear p2
        try clear p6
        try clear q121
        obtain ⟨x6_2, x11_2, x61_2, rfl, rfl, HA, HK2, HO_6, HO_116000, HO_116001, HO_116004, BK101, BK102, BK115, HB⟩ := hrel
        cases gk with
        | zero => exact absurd HA.out (by simp [tenter_Tight.l0])
        | succ k2 =>
         have H := HA.out
         clear HA
         simp only [tenter_Tight.l0] at H
         by_cases c45 : x61_2 < (l2.length : Int)
         ·rw [if_pos c45] at H
          have c45b0 : decide (x61_2 < (l2.length : Int)) = true := decide_eq_true c45
          clear c45
          by_cases c46 : 0 ≤ x61_2
          ·rw [if_pos c46] at H
           have c46b0 : decide (0 ≤ x61_2) = true := decide_eq_true c46
           clear c46
           by_cases c47 : x61_2 < (l2.length : Int)
           ·rw [if_pos c47] at H
            have c47b0 : decide (x61_2 < (l2.length : Int)) = true := decide_eq_true c47
            clear c47
            obtain ⟨t123, A48, H⟩ := bi H
            by_cases c49 : t123 = true
            ·subst c49
             rw [if_pos rfl] at H
             simp only [Option.some.injEq, Prod.mk.injEq] at H
             obtain ⟨rfl, rfl⟩ := H
             have p122 : 0 ≤ (x61_2 : Int) := dT
             have q122 : x61_2 < (l2.length : Int) := dT
             obtain ⟨ad122, e122, hx122_0⟩ := Kd.at_int HR2.out x61_2 p122 q122
             cases e122
             replace hx122_0 := cut_ HB hx122_0
             replace p122 := eq_true p122
             replace q122 := eq_true q122
             go_wp2_with (first | (go_at_call 77; (with_reducible refine (tenter_Tight_1.calls x61_2 gb102 (some ad122) c2 l2 true _ ?side1 ?side2 ?side3 A48.out).mono ?_); (case side1 => exact pB BK102.out); (case side2 => exact pC (Kd.C_below HR2.out HB.out)); (case side3 => exact HC2.out); rintro e w' ⟨rfl, ⟨nd, rfl⟩⟩; (try first | exact ⟨rfl, _, World.drewN_drewN _ _ _⟩ | exact ⟨rfl, _, Eq.trans (World.drewN_drewN _ _ _) (congrArg (World.drewN _) (Nat.add_assoc _ _ _))⟩)))
             repeat (go_quiet (first | (go_at_call 77; (with_reducible refine (tenter_Tight_1.calls x61_2 gb102 (some ad122) c2 l2 true _ ?side1 ?side2 ?side3 A48.out).mono ?_); (case side1 => exact pB BK102.out); (case side2 => exact pC (Kd.C_below HR2.out HB.out)); (case side3 => exact HC2.out); rintro e w' ⟨rfl, ⟨nd, rfl⟩⟩; (try first | exact ⟨rfl, _, World.drewN_drewN _ _ _⟩ | exact ⟨rfl, _, Eq.trans (World.drewN_drewN _ _ _) (congrArg (World.drewN _) (Nat.add_assoc _ _ _))⟩))); try go_wp2_with (first | (go_at_call 77; (with_reducible refine (tenter_Tight_1.calls x61_2 gb102 (some ad122) c2 l2 true _ ?side1 ?side2 ?side3 A48.out).mono ?_); (case side1 => exact pB BK102.out); (case side2 => exact pC (Kd.C_below HR2.out HB.out)); (case side3 => exact HC2.out); rintro e w' ⟨rfl, ⟨nd, rfl⟩⟩; (try first | exact ⟨rfl, _, World.drewN_drewN _ _ _⟩ | exact ⟨rfl, _, Eq.trans (World.drewN_drewN _ _ _) (congrArg (World.drewN _) (Nat.add_assoc _ _ _))⟩))))
             go_ret2
             exact ⟨_, eT, by first | exact Kd.R_nil _ _ _ _ _ | exact Kd.N_nil _ _ _ _ _ | exact Kd.V_nil _ _ _ _ _ | exact Kd.Q_nil _ _ _ _ _ | exact Kd.S_nil _ _ _ _ _, pE HB⟩
            ·replace c49 := Bool.eq_false_iff.mpr c49
             subst c49
             rw [if_neg (show ¬ (false = true) by decide)] at H
             by_cases c50 : 0 ≤ (rd l2 x61_2)
             ·rw [if_pos c50] at H
              have c50b0 : decide (0 ≤ (rd l2 x61_2)) = true := decide_eq_true c50
              clear c50
              by_cases c51 : (rd l2 x61_2) < (t111.length : Int)
              ·rw [if_pos c51] at H
               have c51b0 : decide ((rd l2 x61_2) < (t111.length : Int)) = true := decide_eq_true c51
               clear c51
               have H' := Aside0.mk H
               clear H
               have p122 : 0 ≤ (x61_2 : Int) := dT
               have q122 : x61_2 < (l2.length : Int) := dT
               obtain ⟨ad122, e122, hx122_0⟩ := Kd.at_int HR2.out x61_2 p122 q122
               cases e122
               replace hx122_0 := cut_ HB hx122_0
               replace p122 := eq_true p122
               replace q122 := eq_true q122
               go_wp2_with (first | (go_at_call 77; (with_reducible refine (tenter_Tight_1.calls x61_2 gb102 (some ad122) c2 l2 false _ ?side1 ?side2 ?side3 A48.out).mono ?_); (case side1 => exact pB BK102.out); (case side2 => exact pC (Kd.C_below HR2.out HB.out)); (case side3 => exact HC2.out); rintro e w' ⟨rfl, ⟨nd, rfl⟩⟩; (try first | exact ⟨rfl, _, World.drewN_drewN _ _ _⟩ | exact ⟨rfl, _, Eq.trans (World.drewN_drewN _ _ _) (congrArg (World.drewN _) (Nat.add_assoc _ _ _))⟩); have hnb52 := NB115_101.out; have hnc52 := NB101_115.out; have hnb53 := NB115_102.out; have hnc53 := NB102_115.out; obtain ⟨hcz54_0, hcz54_1, hcz54_2, hcz54_3, hcz54_4, hfz54_0, hfz54_1, hfz54_2, hfz54_3, hfz54_4⟩ := cf5 BK115; have p124 : 0 ≤ ((rd l2 x61_2) : Int) := dT; have q124 : (rd l2 x61_2) < (t111.length : Int) := dT; obtain ⟨ad124, e124, hx124_0, hx124_1⟩ := at_T36 (Kd.R_reads' HO_116004.out).2.2 (rd l2 x61_2) p124 q124; cases e124; replace p124 := eq_true p124; replace q124 := eq_true q124))
               repeat (go_quiet (first | (go_at_call 77; (with_reducible refine (tenter_Tight_1.calls x61_2 gb102 (some ad122) c2 l2 false _ ?side1 ?side2 ?side3 A48.out).mono ?_); (case side1 => exact pB BK102.out); (case side2 => exact pC (Kd.C_below HR2.out HB.out)); (case side3 => exact HC2.out); rintro e w' ⟨rfl, ⟨nd, rfl⟩⟩; (try first | exact ⟨rfl, _, World.drewN_drewN _ _ _⟩ | exact ⟨rfl, _, Eq.trans (World.drewN_drewN _ _ _) (congrArg (World.drewN _) (Nat.add_assoc _ _ _))⟩); have hnb52 := NB115_101.out; have hnc52 := NB101_115.out; have hnb53 := NB115_102.out; have hnc53 := NB102_115.out; obtain ⟨hcz54_0, hcz54_1, hcz54_2, hcz54_3, hcz54_4, hfz54_0, hfz54_1, hfz54_2, hfz54_3, hfz54_4⟩ := cf5 BK115; have p124 : 0 ≤ ((rd l2 x61_2) : Int) := dT; have q124 : (rd l2 x61_2) < (t111.length : Int) := dT; obtain ⟨ad124, e124, hx124_0, hx124_1⟩ := at_T36 (Kd.R_reads' HO_116004.out).2.2 (rd l2 x61_2) p124 q124; cases e124; replace p124 := eq_true p124; replace q124 := eq_true q124)); try go_wp2_with (first | (go_at_call 77; (with_reducible refine (tenter_Tight_1.calls x61_2 gb102 (some ad122) c2 l2 false _ ?side1 ?side2 ?side3 A48.out).mono ?_); (case side1 => exact pB BK102.out); (case side2 => exact pC (Kd.C_below HR2.out HB.out)); (case side3 => exact HC2.out); rintro e w' ⟨rfl, ⟨nd, rfl⟩⟩; (try first | exact ⟨rfl, _, World.drewN_drewN _ _ _⟩ | exact ⟨rfl, _, Eq.trans (World.drewN_drewN _ _ _) (congrArg (World.drewN _) (Nat.add_assoc _ _ _))⟩); have hnb52 := NB115_101.out; have hnc52 := NB101_115.out; have hnb53 := NB115_102.out; have hnc53 := NB102_115.out; obtain ⟨hcz54_0, hcz54_1, hcz54_2, hcz54_3, hcz54_4, hfz54_0, hfz54_1, hfz54_2, hfz54_3, hfz54_4⟩ := cf5 BK115; have p124 : 0 ≤ ((rd l2 x61_2) : Int) := dT; have q124 : (rd l2 x61_2) < (t111.length : Int) := dT; obtain ⟨ad124, e124, hx124_0, hx124_1⟩ := at_T36 (Kd.R_reads' HO_116004.out).2.2 (rd l2 x61_2) p124 q124; cases e124; replace p124 := eq_true p124; replace q124 := eq_true q124)))
               go_roundg k2
               case measure => have := HJ6.out; have := HK2.out; omega
               case rel => exact ⟨(x6_2), (wrap64 (x11_2 + ((rd_T36 t111 (rd l2 x61_2)).f1))), (wrap64 (x61_2 + 1)), (by first | rfl | (simp; done) | (simp [*]; done)), (by first | rfl | (simp; done) | (simp [*]; done)), H', ⟨by have := HJ6.out; have := HK2.out; omega⟩, ⟨by (with_reducible repeat (first | apply Kd.R_alloc | apply Kd.R_drewN | apply Kd.R_drew)); exact HO_6.out⟩, ⟨by (with_reducible repeat (first | apply Kd.V_alloc | apply Kd.V_drewN | apply Kd.V_drew)); exact HO_116000.out⟩, ⟨by (with_reducible repeat (first | apply Kd.V_alloc | apply Kd.V_drewN | apply Kd.V_drew)); exact HO_116001.out⟩, ⟨by (with_reducible repeat (first | apply Kd.R_alloc | apply Kd.R_drewN | apply Kd.R_drew)); exact HO_116004.out⟩, ⟨by (with_reducible repeat (first | refine blk_drewN ?_ _ | refine blk_drew ?_ | refine blk_alloc ?_ _)); exact BK101.out⟩, ⟨by (with_reducible repeat (first | refine blk_drewN ?_ _ | refine blk_drew ?_ | refine blk_alloc ?_ _)); exact BK102.out⟩, ⟨by (with_reducible repeat (first | refine blk_drewN ?_ _ | refine blk_drew ?_ | refine blk_alloc ?_ _)); exact BK115.out⟩, ⟨pE HB⟩⟩
              ·rw [if_neg c51] at H
               exact absurd H (by simp)
             ·rw [if_neg c50] at H
              exact absurd H (by simp)
           ·rw [if_neg c47] at H
            exact absurd H (by simp)
          ·rw [if_neg c46] at H
           exact absurd H (by simp)
         ·rw [if_neg c45] at H
          have c45b0 : decide (x61_2 < (l2.length : Int)) = false := decide_eq_false c45
          clear c45
          have H' := Aside0.mk H
          clear H
          have hnb55 := NB102_101.out
          have hnc55 := NB101_102.out
          have hnb56 := NB102_115.out
          have hnc56 := NB115_102.out
          obtain ⟨hcz57_0, hfz57_0⟩ := cf1 BK102
          go_wp2
          repeat (go_quiet (fail); try go_wp2)
          go_loopg [6, 10, 11, 80] k2 (fun kq v6 v10 v11 v80 w' => ∃ (x6_3 : List Int) (x10_3 : Int) (x11_3 : Int) (x80_3 : Int), v10 = .int .i64 x10_3 ∧ v11 = .int .i64 x11_3 ∧ v80 = .int .i64 x80_3 ∧ Aside0 (tenter_Tight.l1 kq x6_3 x10_3 x11_3 l2 (l2.length : Int) x80_3 t103 t106 t109 t110 t111 = some (r1, r2)) ∧ Aside0 (kq ≤ k2) ∧ Aside0 (Kd.R (Kd.int .i64) 3 w' w.heap.size (fun _ => True) v6 x6_3) ∧ Aside0 (Kd.V k43 43 w' w.heap.size (fun k_ => some k_ ≠ (v6 : Value).ownBlock ∧ some k_ ≠ ((.slice Ao19 t111.length co19) : Value).ownBlock ∧ k_ ≠ gb101 ∧ k_ ≠ gb102 ∧ k_ ≠ gb115) (.slice Ao14 t103.length co14) t103) ∧ Aside0 (Kd.V (Kd.int .i64) 3 w' w.heap.size (fun k_ => some k_ ≠ (v6 : Value).ownBlock ∧ some k_ ≠ ((.slice Ao19 t111.length co19) : Value).ownBlock ∧ k_ ≠ gb101 ∧ k_ ≠ gb102 ∧ k_ ≠ gb115) (.slice Ao18 t106.length co18) t106) ∧ Aside0 (Kd.R k36 36 w' w.heap.size (fun _ => True) (.slice Ao19 t111.length co19) t111) ∧ Aside0 (w'.heap[gb101]? = some (.cells #[(.slice A0_0 l0_0.length c0_0), (.slice (some ad121) l0_1.length c0_1), .int .i64 a0_2, .int .i64 a0_3] 25 (0, 0))) ∧ Aside0 (w'.heap[gb102]? = some (.cells #[(.slice A2 l2.length c2)] 23 (0, 0))) ∧ Aside0 (w'.heap[gb115]? = some (.cells #[(.slice Ao14 t103.length co14), (.slice Ao18 t106.length co18), .int .i64 t109, .int .i64 t110, (.slice Ao19 t111.length co19)] 96 (0, 0))) ∧ Aside0 (Below w.heap.size w w'))
          case atStart => exact ⟨(x6_2), ((wrap64 ((rd l0_1 a1) - (wrap64 (a0_2 * (wrap64 ((l2.length : Int) - 1))))))), (x11_2), (0), (by first | rfl | (simp; done) | (simp [*]; done)), (by first | rfl | (simp; done) | (simp [*]; done)), (by first | rfl | (simp; done) | (simp [*]; done)), H', ⟨Nat.le_refl _⟩, ⟨by (with_reducible repeat (first | apply Kd.R_alloc | apply Kd.R_drewN | apply Kd.R_drew)); exact HO_6.out⟩, ⟨by (with_reducible repeat (first | apply Kd.V_alloc | apply Kd.V_drewN | apply Kd.V_drew)); exact HO_116000.out⟩, ⟨by (with_reducible repeat (first | apply Kd.V_alloc | apply Kd.V_drewN | apply Kd.V_drew)); exact HO_116001.out⟩, ⟨by (with_reducible repeat (first | apply Kd.R_alloc | apply Kd.R_drewN | apply Kd.R_drew)); exact HO_116004.out⟩, ⟨by (with_reducible repeat (first | refine blk_drewN ?_ _ | refine blk_drew ?_ | refine blk_alloc ?_ _)); exact BK101.out⟩, ⟨by (with_reducible repeat (first | refine blk_drewN ?_ _ | refine blk_drew ?_ | refine blk_alloc ?_ _)); exact BK102.out⟩, ⟨by (with_reducible repeat (first | refine blk_drewN ?_ _ | refine blk_drew ?_ | refine blk_alloc ?_ _)); exact BK115.out⟩, ⟨pE HB⟩⟩
          case round =>
           clear H'
           try clear c1
           try clear p1
           try clear q1
           try clear hx1
           try clear c2
           try clear p2
           try clear c3
           try clear c4
           try clear c5
           try clear c5b0
           try clear c5b1
           try clear p6
           try clear c10
           try clear p12
           try clear q12
           try clear hx12
           try clear c15
           try clear c16
           try clear c25
           try clear c26
           try clear c26b0
           try clear c26b1
           try clear c26b2
           try clear c27
           try clear c28
           try clear c31
           try clear c32
           try clear c34
           try clear c37
           try clear c38
           try clear c38b0
           try clear c39
           try clear c39b0
           try clear c40
           try clear c41
           try clear c43
           try clear c45
           try clear c45b0
           try clear c46
           try clear c46b0
           try clear c47
           try clear c47b0
           try clear c49
           try clear c50
           try clear c50b0
           try clear c51
           try clear c51b0
           try clear c52
           try clear c53
           try clear c55
           try clear c56
           try clear hcz11_0
           try clear hcz11_1
           try clear hcz11_2
           try clear hcz11_3
           try clear hcz17_0
           try clear hcz17_1
           try clear hcz17_2
           try clear hcz17_3
           try clear hcz17_4
           try clear hcz20_0
           try clear hcz20_1
           try clear hcz20_2
           try clear hcz20_3
           try clear hcz29_0
           try clear hcz33_0
           try clear hcz35_0
           try clear hcz35_1
           try clear hcz35_2
           try clear hcz35_3
           try clear hcz42_0
           try clear hcz42_1
           try clear hcz42_2
           try clear hcz42_3
           try clear hcz44_0
           try clear hcz54_0
           try clear hcz54_1
           try clear hcz54_2
           try clear hcz54_3
           try clear hcz54_4
           try clear hcz57_0
           try clear hfz11_0
           try clear hfz11_1
           try clear hfz11_2
           try clear hfz11_3
           try clear hfz17_0
           try clear hfz17_1
           try clear hfz17_2
           try clear hfz17_3
           try clear hfz17_4
           try clear hfz20_0
           try clear hfz20_1
           try clear hfz20_2
           try clear hfz20_3
           try clear hfz29_0
           try clear hfz33_0
           try clear hfz35_0
           try clear hfz35_1
           try clear hfz35_2
           try clear hfz35_3
           try clear hfz42_0
           try clear hfz42_1
           try clear hfz42_2
           try clear hfz42_3
           try clear hfz44_0
           try clear hfz54_0
           try clear hfz54_1
           try clear hfz54_2
           try clear hfz54_3
           try clear hfz54_4
           try clear hfz57_0
           try clear hx121_0
           try clear hx122_0
           try clear hx124_0
           try clear hx124_1
           try clear p1
           try clear p12
           try clear p121
           try clear p122
           try clear p124
           try clear p2
           try clear p6
           try clear q1
           try clear q12
           try clear q121
           try clear q122
           try clear q124
           obtain ⟨x6_3, x10_3, x11_3, x80_3, rfl, rfl, rfl, HA, HK3, HO_6, HO_116000, HO_116001, HO_116004, BK101, BK102, BK115, HB⟩ := hrel
           cases gk with
           | zero => exact absurd HA.out (by simp [tenter_Tight.l1])
           | succ k3 =>
            have H := HA.out
            clear HA
            simp only [tenter_Tight.l1] at H
            by_cases c58 : x80_3 < (l2.length : Int)
            ·rw [if_pos c58] at H
             have c58b0 : decide (x80_3 < (l2.length : Int)) = true := decide_eq_true c58
             clear c58
             by_cases c59 : 0 ≤ x80_3
             ·rw [if_pos c59] at H
              have c59b0 : decide (0 ≤ x80_3) = true := decide_eq_true c59
              clear c59
              by_cases c60 : x80_3 < (l2.length : Int)
              ·rw [if_pos c60] at H
               have c60b0 : decide (x80_3 < (l2.length : Int)) = true := decide_eq_true c60
               clear c60
               by_cases c61 : 0 ≤ (rd l2 x80_3)
               ·rw [if_pos c61] at H
                have c61b0 : decide (0 ≤ (rd l2 x80_3)) = true := decide_eq_true c61
                clear c61
                by_cases c62 : (rd l2 x80_3) < (t111.length : Int)
                ·rw [if_pos c62] at H
                 have c62b0 : decide ((rd l2 x80_3) < (t111.length : Int)) = true := decide_eq_true c62
                 clear c62
                 obtain ⟨ji63, hji63⟩ : ∃ j_ : Int, (mx ((rd_T36 t111 (rd l2 x80_3)).f0) (wrap64 (x10_3 - (wrap64 (x11_3 - ((rd_T36 t111 (rd l2 x80_3)).f1)))))) = j_ := ⟨_, rfl⟩
                 replace H : (if (ji63) > ((rd_T36 t111 (rd l2 x80_3)).f1) then (some (([] : List Int), 9)) else (if x6_3.length < 17592186044416 then (tenter_Tight.l1 k3 (x6_3 ++ [ji63]) (wrap64 (x10_3 - (ji63))) (wrap64 (x11_3 - ((rd_T36 t111 (rd l2 x80_3)).f1))) l2 (l2.length : Int) (wrap64 (x80_3 + 1)) t103 t106 t109 t110 t111) else (none))) = some (r1, r2) := by first | (rw [hji63] at H; exact H) | (simp only [hji63] at H ⊢; exact H)
                 have hji63_ : (if ((rd_T36 t111 (rd l2 x80_3)).f0) < (wrap64 (x10_3 - (wrap64 (x11_3 - ((rd_T36 t111 (rd l2 x80_3)).f1))))) then (wrap64 (x10_3 - (wrap64 (x11_3 - ((rd_T36 t111 (rd l2 x80_3)).f1))))) else ((rd_T36 t111 (rd l2 x80_3)).f0)) = ji63 := hji63
                 by_cases c64 : (ji63) > ((rd_T36 t111 (rd l2 x80_3)).f1)
                 ·rw [if_pos c64] at H
                  have c64b0 : decide (((rd_T36 t111 (rd l2 x80_3)).f1) < (ji63)) = true := decide_eq_true c64
                  clear c64
                  simp only [Option.some.injEq, Prod.mk.injEq] at H
                  obtain ⟨rfl, rfl⟩ := H
                  have p125 : 0 ≤ (x80_3 : Int) := dT
                  have q125 : x80_3 < (l2.length : Int) := dT
                  obtain ⟨ad125, e125, hx125_0⟩ := Kd.at_int HR2.out x80_3 p125 q125
                  cases e125
                  replace hx125_0 := cut_ HB hx125_0
                  replace p125 := eq_true p125
                  replace q125 := eq_true q125
                  have hnb65 := NB115_101.out
                  have hnc65 := NB101_115.out
                  have hnb66 := NB115_102.out
                  have hnc66 := NB102_115.out
                  obtain ⟨_, _, _, _, _, _, _, _, _, _⟩ := cf5 BK115
                  have p126 : 0 ≤ ((rd l2 x80_3) : Int) := dT
                  have q126 : (rd l2 x80_3) < (t111.length : Int) := dT
                  obtain ⟨ad126, e126, hx126_0, hx126_1⟩ := at_T36 (Kd.R_reads' HO_116004.out).2.2 (rd l2 x80_3) p126 q126
                  cases e126
                  replace p126 := eq_true p126
                  replace q126 := eq_true q126
                  go_wp2_with (first | ((with_reducible refine gate_dst (N := 16) rfl ?_); refine bx 16 #[.int .i64 0, .int .i64 0] 36 ?_; intro gb127 hg w68 hbox hb; replace HO_6 := rb HO_6 hb; replace HO_116000 := ve HO_116000 hg hb; replace HO_116001 := ve HO_116001 hg hb; replace HO_116004 := Aside0.mk (Kd.R_below (Kd.R_elderB (pR HO_116004.out) gb127 (Nat.le_of_eq hg.symm)) hb); have BK127 := hbox; have GW127 := gs HB hg; have GE127 := gs HB hg; replace HB := bs HB hb; have NB101_127 := nl BK101 hg; have NB127_101 := nr BK101 hg; replace BK101 := bb BK101 hb; have NB102_127 := nl BK102 hg; have NB127_102 := nr BK102 hg; replace BK102 := bb BK102 hb; have NB115_127 := nl BK115 hg; have NB127_115 := nr BK115 hg; replace BK115 := bb BK115 hb; clear hb hbox hg; have hnb69 := NB127_101.out; have hnc69 := NB101_127.out; have hnb70 := NB127_102.out; have hnc70 := NB102_127.out; have hnb71 := NB127_115.out; have hnc71 := NB115_127.out; obtain ⟨hcz72_0, hcz72_1, hfz72_0, hfz72_1⟩ := cf2 BK127))
                  repeat (go_quiet (first | ((with_reducible refine gate_dst (N := 16) rfl ?_); refine bx 16 #[.int .i64 0, .int .i64 0] 36 ?_; intro gb127 hg w68 hbox hb; replace HO_6 := rb HO_6 hb; replace HO_116000 := ve HO_116000 hg hb; replace HO_116001 := ve HO_116001 hg hb; replace HO_116004 := Aside0.mk (Kd.R_below (Kd.R_elderB (pR HO_116004.out) gb127 (Nat.le_of_eq hg.symm)) hb); have BK127 := hbox; have GW127 := gs HB hg; have GE127 := gs HB hg; replace HB := bs HB hb; have NB101_127 := nl BK101 hg; have NB127_101 := nr BK101 hg; replace BK101 := bb BK101 hb; have NB102_127 := nl BK102 hg; have NB127_102 := nr BK102 hg; replace BK102 := bb BK102 hb; have NB115_127 := nl BK115 hg; have NB127_115 := nr BK115 hg; replace BK115 := bb BK115 hb; clear hb hbox hg; have hnb69 := NB127_101.out; have hnc69 := NB101_127.out; have hnb70 := NB127_102.out; have hnc70 := NB102_127.out; have hnb71 := NB127_115.out; have hnc71 := NB115_127.out; obtain ⟨hcz72_0, hcz72_1, hfz72_0, hfz72_1⟩ := cf2 BK127)); try go_wp2_with (first | ((with_reducible refine gate_dst (N := 16) rfl ?_); refine bx 16 #[.int .i64 0, .int .i64 0] 36 ?_; intro gb127 hg w68 hbox hb; replace HO_6 := rb HO_6 hb; replace HO_116000 := ve HO_116000 hg hb; replace HO_116001 := ve HO_116001 hg hb; replace HO_116004 := Aside0.mk (Kd.R_below (Kd.R_elderB (pR HO_116004.out) gb127 (Nat.le_of_eq hg.symm)) hb); have BK127 := hbox; have GW127 := gs HB hg; have GE127 := gs HB hg; replace HB := bs HB hb; have NB101_127 := nl BK101 hg; have NB127_101 := nr BK101 hg; replace BK101 := bb BK101 hb; have NB102_127 := nl BK102 hg; have NB127_102 := nr BK102 hg; replace BK102 := bb BK102 hb; have NB115_127 := nl BK115 hg; have NB127_115 := nr BK115 hg; replace BK115 := bb BK115 hb; clear hb hbox hg; have hnb69 := NB127_101.out; have hnc69 := NB101_127.out; have hnb70 := NB127_102.out; have hnc70 := NB102_127.out; have hnb71 := NB127_115.out; have hnc71 := NB115_127.out; obtain ⟨hcz72_0, hcz72_1, hfz72_0, hfz72_1⟩ := cf2 BK127)))
                  go_ret2
                  exact ⟨_, by first | rfl | (simp [errW_none, errW_some] <;> rfl) | (simp only [← hji63]; first | rfl | (simp [errW_none, errW_some] <;> rfl)) | (simp [*, errW_none, errW_some] <;> rfl), by first | exact Kd.R_nil _ _ _ _ _ | exact Kd.N_nil _ _ _ _ _ | exact Kd.V_nil _ _ _ _ _ | exact Kd.Q_nil _ _ _ _ _ | exact Kd.S_nil _ _ _ _ _, pE HB⟩
                 ·rw [if_neg c64] at H
                  have c64b0 : decide (((rd_T36 t111 (rd l2 x80_3)).f1) < (ji63)) = false := decide_eq_false c64
                  clear c64
                  by_cases c73 : x6_3.length < 17592186044416
                  ·rw [if_pos c73] at H
                   have LMc73 := Aside0.mk c73
                   clear c73
                   obtain ⟨y128, hy128⟩ : ∃ y_ : List Int, y_ = (x6_3 ++ [ji63]) := ⟨_, rfl⟩
                   replace H : (tenter_Tight.l1 k3 y128 (wrap64 (x10_3 - (ji63))) (wrap64 (x11_3 - ((rd_T36 t111 (rd l2 x80_3)).f1))) l2 (l2.length : Int) (wrap64 (x80_3 + 1)) t103 t106 t109 t110 t111) = some (r1, r2) := yy hy128 H
                   have Ny128 := Aside0.mk hy128
                   clear hy128
                   have H' := Aside0.mk H
                   clear H
                   have p125 : 0 ≤ (x80_3 : Int) := dT
                   have q125 : x80_3 < (l2.length : Int) := dT
                   obtain ⟨ad125, e125, hx125_0⟩ := Kd.at_int HR2.out x80_3 p125 q125
                   cases e125
                   replace hx125_0 := cut_ HB hx125_0
                   replace p125 := eq_true p125
                   replace q125 := eq_true q125
                   have hnb74 := NB115_101.out
                   have hnc74 := NB101_115.out
                   have hnb75 := NB115_102.out
                   have hnc75 := NB102_115.out
                   obtain ⟨_, _, _, _, _, _, _, _, _, _⟩ := cf5 BK115
                   have p126 : 0 ≤ ((rd l2 x80_3) : Int) := dT
                   have q126 : (rd l2 x80_3) < (t111.length : Int) := dT
                   obtain ⟨ad126, e126, hx126_0, hx126_1⟩ := at_T36 (Kd.R_reads' HO_116004.out).2.2 (rd l2 x80_3) p126 q126
                   cases e126
                   replace p126 := eq_true p126
                   replace q126 := eq_true q126
                   go_wp2_with (first | ((with_reducible refine gate_dst (N := 16) rfl ?_); refine bx 16 #[.int .i64 0, .int .i64 0] 36 ?_; intro gb127 hg w77 hbox hb; replace HO_6 := rb HO_6 hb; replace HO_116000 := ve HO_116000 hg hb; replace HO_116001 := ve HO_116001 hg hb; replace HO_116004 := Aside0.mk (Kd.R_below (Kd.R_elderB (pR HO_116004.out) gb127 (Nat.le_of_eq hg.symm)) hb); have BK127 := hbox; have GW127 := gs HB hg; have GE127 := gs HB hg; replace HB := bs HB hb; have NB101_127 := nl BK101 hg; have NB127_101 := nr BK101 hg; replace BK101 := bb BK101 hb; have NB102_127 := nl BK102 hg; have NB127_102 := nr BK102 hg; replace BK102 := bb BK102 hb; have NB115_127 := nl BK115 hg; have NB127_115 := nr BK115 hg; replace BK115 := bb BK115 hb; clear hb hbox hg; have hnb78 := NB127_101.out; have hnc78 := NB101_127.out; have hnb79 := NB127_102.out; have hnc79 := NB102_127.out; have hnb80 := NB127_115.out; have hnc80 := NB115_127.out; obtain ⟨hcz81_0, hcz81_1, hfz81_0, hfz81_1⟩ := cf2 BK127) | ((with_reducible refine gate_builtin (b := .append) (xs := #[.tmp 103, .tmp 105]) rfl ?_); at_builtin; refine Kd.R_append (Kd.int .i64) (w0 := w) w.heap.size rfl (.tmp 103) (.tmp 105) 23 3 (.int .i64 0) 8 rfl Tryz.underlying23 info3 rfl (by decide) (by omega) u6 x6_3 ji63 [.int .i64 ji63] (fun _ => True) (fun _ => False) rfl (by first | (go_simp; done) | (go_simp; rfl)) ?aP (fun _ hk => hk.elim) ?aF ?aO ?aB ?aS ?aL ?_; (case aP => exact rfl); (case aB => exact (pE HB)); (case aF => exact (fun _ _ => trivial)); (case aO => exact (by refine pR ?_; exact Kd.R_mono (Kd.R_far (p := ⟨gb127, 1, none⟩) (Kd.R_far (p := ⟨gb127, 0, none⟩) (Kd.R_types HO_6.out BK127.out (by decide)) (fun _ hk => hk.2) (.int .i64 ((rd_T36 t111 (rd l2 x80_3)).f0))) (fun _ hk => hk.2) (.int .i64 ((rd_T36 t111 (rd l2 x80_3)).f1))) (fun _ hk => trivial))); (case aS => exact (below_size (pE HB))); (case aL => have := LMc73.out; omega); intro v129 w82 ho hb hg hat; rw [← Ny128.out] at ho; replace HO_116000 := Aside0.mk (Kd.V_afterv (ok := (fun k_ => some k_ ≠ (.slice (some ad126) t111.length co19 : Value).ownBlock ∧ k_ ≠ gb101 ∧ k_ ≠ gb102 ∧ k_ ≠ gb115 ∧ k_ ≠ gb127)) (by refine pV ?_; exact Kd.V_mono (Kd.V_far (p := ⟨gb127, 1, none⟩) (Kd.V_far (p := ⟨gb127, 0, none⟩) (Kd.V_mono HO_116000.out (fun k_ hk => (⟨hk, hk.2⟩ : _ ∧ k_ ≠ gb127))) (fun _ hk => hk.2) (.int .i64 ((rd_T36 t111 (rd l2 x80_3)).f0))) (fun _ hk => hk.2) (.int .i64 ((rd_T36 t111 (rd l2 x80_3)).f1))) (fun _ hk => ⟨⟨hk.1.1.2.1, ⟨hk.1.1.2.2.1, ⟨hk.1.1.2.2.2.1, ⟨hk.1.1.2.2.2.2, hk.1.2⟩⟩⟩⟩, hk.1.1.1⟩)) hg hat); replace HO_116001 := Aside0.mk (Kd.V_afterv (ok := (fun k_ => some k_ ≠ (.slice (some ad126) t111.length co19 : Value).ownBlock ∧ k_ ≠ gb101 ∧ k_ ≠ gb102 ∧ k_ ≠ gb115 ∧ k_ ≠ gb127)) (by refine pV ?_; exact Kd.V_mono (Kd.V_far (p := ⟨gb127, 1, none⟩) (Kd.V_far (p := ⟨gb127, 0, none⟩) (Kd.V_mono HO_116001.out (fun k_ hk => (⟨hk, hk.2⟩ : _ ∧ k_ ≠ gb127))) (fun _ hk => hk.2) (.int .i64 ((rd_T36 t111 (rd l2 x80_3)).f0))) (fun _ hk => hk.2) (.int .i64 ((rd_T36 t111 (rd l2 x80_3)).f1))) (fun _ hk => ⟨⟨hk.1.1.2.1, ⟨hk.1.1.2.2.1, ⟨hk.1.1.2.2.2.1, ⟨hk.1.1.2.2.2.2, hk.1.2⟩⟩⟩⟩, hk.1.1.1⟩)) hg hat); replace HO_116004 := Aside0.mk (Kd.R_over' (by refine pR ?_; exact (Kd.R_mono (Kd.R_far (p := ⟨gb127, 1, none⟩) (Kd.R_far (p := ⟨gb127, 0, none⟩) (Kd.R_mono HO_116004.out (fun k_ hk => (⟨hk, hk.2⟩ : _ ∧ k_ ≠ gb127))) (fun _ hk => hk.2) (.int .i64 ((rd_T36 t111 (rd l2 x80_3)).f0))) (fun _ hk => hk.2) (.int .i64 ((rd_T36 t111 (rd l2 x80_3)).f1))) (fun _ h_ => h_.1))) (Kd.R_typed (by refine pR ?_; exact (Kd.R_mono (Kd.R_far (p := ⟨gb127, 1, none⟩) (Kd.R_far (p := ⟨gb127, 0, none⟩) (Kd.R_types HO_6.out BK127.out (by decide)) (fun _ hk => hk.2) (.int .i64 ((rd_T36 t111 (rd l2 x80_3)).f0))) (fun _ hk => hk.2) (.int .i64 ((rd_T36 t111 (rd l2 x80_3)).f1))) (fun _ h_ => h_.1)))) (by decide) hg); replace BK101 := Aside0.mk (blk_grown (g := gb101) (o := .cells #[.slice A0_0 l0_0.length c0_0, .slice (some ad121) l0_1.length c0_1, .int .i64 a0_2, .int .i64 a0_3] 25 (0, 0)) (pF BK101) hg (Kd.R_ne HO_6.out BK101.out (by decide))); replace BK102 := Aside0.mk (blk_grown (g := gb102) (o := .cells #[.slice (some ad125) l2.length c2] 23 (0, 0)) (pF BK102) hg (Kd.R_ne HO_6.out BK102.out (by decide))); replace BK115 := Aside0.mk (blk_grown (g := gb115) (o := .cells #[.slice Ao14 t103.length co14, .slice Ao18 t106.length co18, .int .i64 t109, .int .i64 t110, .slice (some ad126) t111.length co19] 96 (0, 0)) (pF BK115) hg (Kd.R_ne HO_6.out BK115.out (by decide))); replace BK127 := Aside0.mk (blk_grown (g := gb127) (o := .cells #[.int .i64 ((rd_T36 t111 (rd l2 x80_3)).f0), .int .i64 ((rd_T36 t111 (rd l2 x80_3)).f1)] 36 (0, 0)) (by refine pB ?_; refine blk_put (cs := #[.int .i64 ((rd_T36 t111 (rd l2 x80_3)).f0), .int .i64 0]) ?_ 1 _ rfl; refine pB ?_; refine blk_put (cs := #[.int .i64 0, .int .i64 0]) ?_ 0 _ rfl; (with_reducible repeat (first | refine blk_drewN ?_ _ | refine blk_drew ?_ | refine blk_alloc ?_ _)); exact BK127.out) hg (Kd.R_ne HO_6.out BK127.out (by decide))); replace HB := Aside0.mk (hb); have HO130 := Aside0.mk (ho); clear HO_6; clear ho hb hg hat))
                   repeat (go_quiet (first | ((with_reducible refine gate_dst (N := 16) rfl ?_); refine bx 16 #[.int .i64 0, .int .i64 0] 36 ?_; intro gb127 hg w77 hbox hb; replace HO_6 := rb HO_6 hb; replace HO_116000 := ve HO_116000 hg hb; replace HO_116001 := ve HO_116001 hg hb; replace HO_116004 := Aside0.mk (Kd.R_below (Kd.R_elderB (pR HO_116004.out) gb127 (Nat.le_of_eq hg.symm)) hb); have BK127 := hbox; have GW127 := gs HB hg; have GE127 := gs HB hg; replace HB := bs HB hb; have NB101_127 := nl BK101 hg; have NB127_101 := nr BK101 hg; replace BK101 := bb BK101 hb; have NB102_127 := nl BK102 hg; have NB127_102 := nr BK102 hg; replace BK102 := bb BK102 hb; have NB115_127 := nl BK115 hg; have NB127_115 := nr BK115 hg; replace BK115 := bb BK115 hb; clear hb hbox hg; have hnb78 := NB127_101.out; have hnc78 := NB101_127.out; have hnb79 := NB127_102.out; have hnc79 := NB102_127.out; have hnb80 := NB127_115.out; have hnc80 := NB115_127.out; obtain ⟨hcz81_0, hcz81_1, hfz81_0, hfz81_1⟩ := cf2 BK127) | ((with_reducible refine gate_builtin (b := .append) (xs := #[.tmp 103, .tmp 105]) rfl ?_); at_builtin; refine Kd.R_append (Kd.int .i64) (w0 := w) w.heap.size rfl (.tmp 103) (.tmp 105) 23 3 (.int .i64 0) 8 rfl Tryz.underlying23 info3 rfl (by decide) (by omega) u6 x6_3 ji63 [.int .i64 ji63] (fun _ => True) (fun _ => False) rfl (by first | (go_simp; done) | (go_simp; rfl)) ?aP (fun _ hk => hk.elim) ?aF ?aO ?aB ?aS ?aL ?_; (case aP => exact rfl); (case aB => exact (pE HB)); (case aF => exact (fun _ _ => trivial)); (case aO => exact (by refine pR ?_; exact Kd.R_mono (Kd.R_far (p := ⟨gb127, 1, none⟩) (Kd.R_far (p := ⟨gb127, 0, none⟩) (Kd.R_types HO_6.out BK127.out (by decide)) (fun _ hk => hk.2) (.int .i64 ((rd_T36 t111 (rd l2 x80_3)).f0))) (fun _ hk => hk.2) (.int .i64 ((rd_T36 t111 (rd l2 x80_3)).f1))) (fun _ hk => trivial))); (case aS => exact (below_size (pE HB))); (case aL => have := LMc73.out; omega); intro v129 w82 ho hb hg hat; rw [← Ny128.out] at ho; replace HO_116000 := Aside0.mk (Kd.V_afterv (ok := (fun k_ => some k_ ≠ (.slice (some ad126) t111.length co19 : Value).ownBlock ∧ k_ ≠ gb101 ∧ k_ ≠ gb102 ∧ k_ ≠ gb115 ∧ k_ ≠ gb127)) (by refine pV ?_; exact Kd.V_mono (Kd.V_far (p := ⟨gb127, 1, none⟩) (Kd.V_far (p := ⟨gb127, 0, none⟩) (Kd.V_mono HO_116000.out (fun k_ hk => (⟨hk, hk.2⟩ : _ ∧ k_ ≠ gb127))) (fun _ hk => hk.2) (.int .i64 ((rd_T36 t111 (rd l2 x80_3)).f0))) (fun _ hk => hk.2) (.int .i64 ((rd_T36 t111 (rd l2 x80_3)).f1))) (fun _ hk => ⟨⟨hk.1.1.2.1, ⟨hk.1.1.2.2.1, ⟨hk.1.1.2.2.2.1, ⟨hk.1.1.2.2.2.2, hk.1.2⟩⟩⟩⟩, hk.1.1.1⟩)) hg hat); replace HO_116001 := Aside0.mk (Kd.V_afterv (ok := (fun k_ => some k_ ≠ (.slice (some ad126) t111.length co19 : Value).ownBlock ∧ k_ ≠ gb101 ∧ k_ ≠ gb102 ∧ k_ ≠ gb115 ∧ k_ ≠ gb127)) (by refine pV ?_; exact Kd.V_mono (Kd.V_far (p := ⟨gb127, 1, none⟩) (Kd.V_far (p := ⟨gb127, 0, none⟩) (Kd.V_mono HO_116001.out (fun k_ hk => (⟨hk, hk.2⟩ : _ ∧ k_ ≠ gb127))) (fun _ hk => hk.2) (.int .i64 ((rd_T36 t111 (rd l2 x80_3)).f0))) (fun _ hk => hk.2) (.int .i64 ((rd_T36 t111 (rd l2 x80_3)).f1))) (fun _ hk => ⟨⟨hk.1.1.2.1, ⟨hk.1.1.2.2.1, ⟨hk.1.1.2.2.2.1, ⟨hk.1.1.2.2.2.2, hk.1.2⟩⟩⟩⟩, hk.1.1.1⟩)) hg hat); replace HO_116004 := Aside0.mk (Kd.R_over' (by refine pR ?_; exact (Kd.R_mono (Kd.R_far (p := ⟨gb127, 1, none⟩) (Kd.R_far (p := ⟨gb127, 0, none⟩) (Kd.R_mono HO_116004.out (fun k_ hk => (⟨hk, hk.2⟩ : _ ∧ k_ ≠ gb127))) (fun _ hk => hk.2) (.int .i64 ((rd_T36 t111 (rd l2 x80_3)).f0))) (fun _ hk => hk.2) (.int .i64 ((rd_T36 t111 (rd l2 x80_3)).f1))) (fun _ h_ => h_.1))) (Kd.R_typed (by refine pR ?_; exact (Kd.R_mono (Kd.R_far (p := ⟨gb127, 1, none⟩) (Kd.R_far (p := ⟨gb127, 0, none⟩) (Kd.R_types HO_6.out BK127.out (by decide)) (fun _ hk => hk.2) (.int .i64 ((rd_T36 t111 (rd l2 x80_3)).f0))) (fun _ hk => hk.2) (.int .i64 ((rd_T36 t111 (rd l2 x80_3)).f1))) (fun _ h_ => h_.1)))) (by decide) hg); replace BK101 := Aside0.mk (blk_grown (g := gb101) (o := .cells #[.slice A0_0 l0_0.length c0_0, .slice (some ad121) l0_1.length c0_1, .int .i64 a0_2, .int .i64 a0_3] 25 (0, 0)) (pF BK101) hg (Kd.R_ne HO_6.out BK101.out (by decide))); replace BK102 := Aside0.mk (blk_grown (g := gb102) (o := .cells #[.slice (some ad125) l2.length c2] 23 (0, 0)) (pF BK102) hg (Kd.R_ne HO_6.out BK102.out (by decide))); replace BK115 := Aside0.mk (blk_grown (g := gb115) (o := .cells #[.slice Ao14 t103.length co14, .slice Ao18 t106.length co18, .int .i64 t109, .int .i64 t110, .slice (some ad126) t111.length co19] 96 (0, 0)) (pF BK115) hg (Kd.R_ne HO_6.out BK115.out (by decide))); replace BK127 := Aside0.mk (blk_grown (g := gb127) (o := .cells #[.int .i64 ((rd_T36 t111 (rd l2 x80_3)).f0), .int .i64 ((rd_T36 t111 (rd l2 x80_3)).f1)] 36 (0, 0)) (by refine pB ?_; refine blk_put (cs := #[.int .i64 ((rd_T36 t111 (rd l2 x80_3)).f0), .int .i64 0]) ?_ 1 _ rfl; refine pB ?_; refine blk_put (cs := #[.int .i64 0, .int .i64 0]) ?_ 0 _ rfl; (with_reducible repeat (first | refine blk_drewN ?_ _ | refine blk_drew ?_ | refine blk_alloc ?_ _)); exact BK127.out) hg (Kd.R_ne HO_6.out BK127.out (by decide))); replace HB := Aside0.mk (hb); have HO130 := Aside0.mk (ho); clear HO_6; clear ho hb hg hat)); try go_wp2_with (first | ((with_reducible refine gate_dst (N := 16) rfl ?_); refine bx 16 #[.int .i64 0, .int .i64 0] 36 ?_; intro gb127 hg w77 hbox hb; replace HO_6 := rb HO_6 hb; replace HO_116000 := ve HO_116000 hg hb; replace HO_116001 := ve HO_116001 hg hb; replace HO_116004 := Aside0.mk (Kd.R_below (Kd.R_elderB (pR HO_116004.out) gb127 (Nat.le_of_eq hg.symm)) hb); have BK127 := hbox; have GW127 := gs HB hg; have GE127 := gs HB hg; replace HB := bs HB hb; have NB101_127 := nl BK101 hg; have NB127_101 := nr BK101 hg; replace BK101 := bb BK101 hb; have NB102_127 := nl BK102 hg; have NB127_102 := nr BK102 hg; replace BK102 := bb BK102 hb; have NB115_127 := nl BK115 hg; have NB127_115 := nr BK115 hg; replace BK115 := bb BK115 hb; clear hb hbox hg; have hnb78 := NB127_101.out; have hnc78 := NB101_127.out; have hnb79 := NB127_102.out; have hnc79 := NB102_127.out; have hnb80 := NB127_115.out; have hnc80 := NB115_127.out; obtain ⟨hcz81_0, hcz81_1, hfz81_0, hfz81_1⟩ := cf2 BK127) | ((with_reducible refine gate_builtin (b := .append) (xs := #[.tmp 103, .tmp 105]) rfl ?_); at_builtin; refine Kd.R_append (Kd.int .i64) (w0 := w) w.heap.size rfl (.tmp 103) (.tmp 105) 23 3 (.int .i64 0) 8 rfl Tryz.underlying23 info3 rfl (by decide) (by omega) u6 x6_3 ji63 [.int .i64 ji63] (fun _ => True) (fun _ => False) rfl (by first | (go_simp; done) | (go_simp; rfl)) ?aP (fun _ hk => hk.elim) ?aF ?aO ?aB ?aS ?aL ?_; (case aP => exact rfl); (case aB => exact (pE HB)); (case aF => exact (fun _ _ => trivial)); (case aO => exact (by refine pR ?_; exact Kd.R_mono (Kd.R_far (p := ⟨gb127, 1, none⟩) (Kd.R_far (p := ⟨gb127, 0, none⟩) (Kd.R_types HO_6.out BK127.out (by decide)) (fun _ hk => hk.2) (.int .i64 ((rd_T36 t111 (rd l2 x80_3)).f0))) (fun _ hk => hk.2) (.int .i64 ((rd_T36 t111 (rd l2 x80_3)).f1))) (fun _ hk => trivial))); (case aS => exact (below_size (pE HB))); (case aL => have := LMc73.out; omega); intro v129 w82 ho hb hg hat; rw [← Ny128.out] at ho; replace HO_116000 := Aside0.mk (Kd.V_afterv (ok := (fun k_ => some k_ ≠ (.slice (some ad126) t111.length co19 : Value).ownBlock ∧ k_ ≠ gb101 ∧ k_ ≠ gb102 ∧ k_ ≠ gb115 ∧ k_ ≠ gb127)) (by refine pV ?_; exact Kd.V_mono (Kd.V_far (p := ⟨gb127, 1, none⟩) (Kd.V_far (p := ⟨gb127, 0, none⟩) (Kd.V_mono HO_116000.out (fun k_ hk => (⟨hk, hk.2⟩ : _ ∧ k_ ≠ gb127))) (fun _ hk => hk.2) (.int .i64 ((rd_T36 t111 (rd l2 x80_3)).f0))) (fun _ hk => hk.2) (.int .i64 ((rd_T36 t111 (rd l2 x80_3)).f1))) (fun _ hk => ⟨⟨hk.1.1.2.1, ⟨hk.1.1.2.2.1, ⟨hk.1.1.2.2.2.1, ⟨hk.1.1.2.2.2.2, hk.1.2⟩⟩⟩⟩, hk.1.1.1⟩)) hg hat); replace HO_116001 := Aside0.mk (Kd.V_afterv (ok := (fun k_ => some k_ ≠ (.slice (some ad126) t111.length co19 : Value).ownBlock ∧ k_ ≠ gb101 ∧ k_ ≠ gb102 ∧ k_ ≠ gb115 ∧ k_ ≠ gb127)) (by refine pV ?_; exact Kd.V_mono (Kd.V_far (p := ⟨gb127, 1, none⟩) (Kd.V_far (p := ⟨gb127, 0, none⟩) (Kd.V_mono HO_116001.out (fun k_ hk => (⟨hk, hk.2⟩ : _ ∧ k_ ≠ gb127))) (fun _ hk => hk.2) (.int .i64 ((rd_T36 t111 (rd l2 x80_3)).f0))) (fun _ hk => hk.2) (.int .i64 ((rd_T36 t111 (rd l2 x80_3)).f1))) (fun _ hk => ⟨⟨hk.1.1.2.1, ⟨hk.1.1.2.2.1, ⟨hk.1.1.2.2.2.1, ⟨hk.1.1.2.2.2.2, hk.1.2⟩⟩⟩⟩, hk.1.1.1⟩)) hg hat); replace HO_116004 := Aside0.mk (Kd.R_over' (by refine pR ?_; exact (Kd.R_mono (Kd.R_far (p := ⟨gb127, 1, none⟩) (Kd.R_far (p := ⟨gb127, 0, none⟩) (Kd.R_mono HO_116004.out (fun k_ hk => (⟨hk, hk.2⟩ : _ ∧ k_ ≠ gb127))) (fun _ hk => hk.2) (.int .i64 ((rd_T36 t111 (rd l2 x80_3)).f0))) (fun _ hk => hk.2) (.int .i64 ((rd_T36 t111 (rd l2 x80_3)).f1))) (fun _ h_ => h_.1))) (Kd.R_typed (by refine pR ?_; exact (Kd.R_mono (Kd.R_far (p := ⟨gb127, 1, none⟩) (Kd.R_far (p := ⟨gb127, 0, none⟩) (Kd.R_types HO_6.out BK127.out (by decide)) (fun _ hk => hk.2) (.int .i64 ((rd_T36 t111 (rd l2 x80_3)).f0))) (fun _ hk => hk.2) (.int .i64 ((rd_T36 t111 (rd l2 x80_3)).f1))) (fun _ h_ => h_.1)))) (by decide) hg); replace BK101 := Aside0.mk (blk_grown (g := gb101) (o := .cells #[.slice A0_0 l0_0.length c0_0, .slice (some ad121) l0_1.length c0_1, .int .i64 a0_2, .int .i64 a0_3] 25 (0, 0)) (pF BK101) hg (Kd.R_ne HO_6.out BK101.out (by decide))); replace BK102 := Aside0.mk (blk_grown (g := gb102) (o := .cells #[.slice (some ad125) l2.length c2] 23 (0, 0)) (pF BK102) hg (Kd.R_ne HO_6.out BK102.out (by decide))); replace BK115 := Aside0.mk (blk_grown (g := gb115) (o := .cells #[.slice Ao14 t103.length co14, .slice Ao18 t106.length co18, .int .i64 t109, .int .i64 t110, .slice (some ad126) t111.length co19] 96 (0, 0)) (pF BK115) hg (Kd.R_ne HO_6.out BK115.out (by decide))); replace BK127 := Aside0.mk (blk_grown (g := gb127) (o := .cells #[.int .i64 ((rd_T36 t111 (rd l2 x80_3)).f0), .int .i64 ((rd_T36 t111 (rd l2 x80_3)).f1)] 36 (0, 0)) (by refine pB ?_; refine blk_put (cs := #[.int .i64 ((rd_T36 t111 (rd l2 x80_3)).f0), .int .i64 0]) ?_ 1 _ rfl; refine pB ?_; refine blk_put (cs := #[.int .i64 0, .int .i64 0]) ?_ 0 _ rfl; (with_reducible repeat (first | refine blk_drewN ?_ _ | refine blk_drew ?_ | refine blk_alloc ?_ _)); exact BK127.out) hg (Kd.R_ne HO_6.out BK127.out (by decide))); replace HB := Aside0.mk (hb); have HO130 := Aside0.mk (ho); clear HO_6; clear ho hb hg hat)))
                   go_roundg k3
                   case measure => have := HJ6.out; have := HK2.out; have := HK3.out; omega
                   case rel => exact ⟨(y128), (wrap64 (x10_3 - (ji63))), (wrap64 (x11_3 - ((rd_T36 t111 (rd l2 x80_3)).f1))), (wrap64 (x80_3 + 1)), (by first | rfl | (simp; done) | (simp only [← hji63] <;> (first | rfl | simp)) | (simp [*]; done)), (by first | rfl | (simp; done) | (simp [*]; done)), (by first | rfl | (simp; done) | (simp [*]; done)), H', ⟨by have := HJ6.out; have := HK2.out; have := HK3.out; omega⟩, ⟨by (with_reducible repeat (first | apply Kd.R_alloc | apply Kd.R_drewN | apply Kd.R_drew)); exact HO130.out⟩, ⟨by (with_reducible repeat (first | apply Kd.V_alloc | apply Kd.V_drewN | apply Kd.V_drew)); exact Kd.V_mono HO_116000.out (fun _ hk => ⟨hk.2, ⟨hk.1.1, ⟨hk.1.2.1, ⟨hk.1.2.2.1, hk.1.2.2.2.1⟩⟩⟩⟩)⟩, ⟨by (with_reducible repeat (first | apply Kd.V_alloc | apply Kd.V_drewN | apply Kd.V_drew)); exact Kd.V_mono HO_116001.out (fun _ hk => ⟨hk.2, ⟨hk.1.1, ⟨hk.1.2.1, ⟨hk.1.2.2.1, hk.1.2.2.2.1⟩⟩⟩⟩)⟩, ⟨by (with_reducible repeat (first | apply Kd.R_alloc | apply Kd.R_drewN | apply Kd.R_drew)); exact Kd.R_mono HO_116004.out (fun _ hk => trivial)⟩, ⟨by (with_reducible repeat (first | refine blk_drewN ?_ _ | refine blk_drew ?_ | refine blk_alloc ?_ _)); exact BK101.out⟩, ⟨by (with_reducible repeat (first | refine blk_drewN ?_ _ | refine blk_drew ?_ | refine blk_alloc ?_ _)); exact BK102.out⟩, ⟨by (with_reducible repeat (first | refine blk_drewN ?_ _ | refine blk_drew ?_ | refine blk_alloc ?_ _)); exact BK115.out⟩, ⟨pE HB⟩⟩
                  ·rw [if_neg c73] at H
                   exact absurd H (by simp)
                ·rw [if_neg c62] at H
                 exact absurd H (by simp)
               ·rw [if_neg c61] at H
                exact absurd H (by simp)
              ·rw [if_neg c60] at H
               exact absurd H (by simp)
             ·rw [if_neg c59] at H
              exact absurd H (by simp)
            ·rw [if_neg c58] at H
             have c58b0 : decide (x80_3 < (l2.length : Int)) = false := decide_eq_false c58
             clear c58
             by_cases c83 : x10_3 = 0
             ·rw [if_pos c83] at H
              have c83b0 : (x10_3 == 0) = true := beq_iff_eq.mpr c83
              have c83b1 : (x10_3 != 0) = false := bne_eq_false_iff_eq.mpr c83
              clear c83
              simp only [Option.some.injEq, Prod.mk.injEq] at H
              obtain ⟨rfl, rfl⟩ := H
              go_wp2
              repeat (go_quiet (fail); try go_wp2)
              go_ret2
              exact ⟨_, eT, by (with_reducible repeat (first | apply Kd.R_alloc | apply Kd.R_drewN | apply Kd.R_drew)); exact HO_6.out, pE HB⟩
             ·rw [if_neg c83] at H
              have c83b0 : (x10_3 == 0) = false := beq_eq_false_iff_ne.mpr c83
              have c83b1 : (x10_3 != 0) = true := bne_iff_ne.mpr c83
              simp only [Option.some.injEq, Prod.mk.injEq] at H
              obtain ⟨rfl, rfl⟩ := H
              go_wp2
              repeat (go_quiet (fail); try go_wp2)
              go_ret2
              exact ⟨_, eT, by first | exact Kd.R_nil _ _ _ _ _ | exact Kd.N_nil _ _ _ _ _ | exact Kd.V_nil _ _ _ _ _ | exact Kd.Q_nil _ _ _ _ _ | exact Kd.S_nil _ _ _ _ _, pE HB⟩
      ·rw [if_neg c39] at H
       exact absurd H (by simp)
     ·rw [if_neg c38] at H
      exact absurd H (by simp)
 ·rw [if_neg c5] at H
  have c5b0 : (t114 == 0) = false := beq_eq_false_iff_ne.mpr c5
  have c5b1 : (t114 != 0) = true := bne_iff_ne.mpr c5
  simp only [Option.some.injEq, Prod.mk.injEq] at H
  obtain ⟨rfl, rfl⟩ := H
  go_enter Tryz.func32, Tryz.ntmps32
  go_wp2_with (first | ((with_reducible refine gate_dst (N := 3) rfl ?_); refine bx 3 #[.slice A0_0 l0_0.length c0_0, .slice A0_1 l0_1.length c0_1, .int .i64 a0_2, .int .i64 a0_3] 25 ?_; intro gb101 hg w84 hbox hb; have BK101 := hbox; have GW101 := gs HB hg; have GE101 := gs HB hg; replace HB := bs HB hb; clear hb hbox hg) | ((with_reducible refine gate_dst (N := 5) rfl ?_); refine bx 5 #[.slice A2 l2.length c2] 23 ?_; intro gb102 hg w85 hbox hb; have BK102 := hbox; have GW102 := gs HB hg; have GE102 := gs HB hg; replace HB := bs HB hb; have NB101_102 := nl BK101 hg; have NB102_101 := nr BK101 hg; replace BK101 := bb BK101 hb; clear hb hbox hg; have hnb86 := NB101_102.out; have hnc86 := NB102_101.out; obtain ⟨hcz87_0, hcz87_1, hcz87_2, hcz87_3, hfz87_0, hfz87_1, hfz87_2, hfz87_3⟩ := cf4 BK101) | (go_at_call 57; (with_reducible refine (tenter_open.calls k (fun k_ => k_ < w.heap.size) _ _ l0_0 (fun k_ => k_ < w.heap.size) _ _ l0_1 a0_2 a0_3 t103 t106 t109 t110 t111 t114 _ ?side1 ?side2 A4.out).mono ?_); (case side1 => exact Kd.V_mk HC0_0.out (Kd.F_below (Kd.C_F k43_heap HR0_0.out) (pE HB))); (case side2 => exact Kd.V_mk HC0_1.out (Kd.F_below (Kd.C_F (Kd.heap_int .i64) HR0_1.out) (pE HB))); rintro e w88 ⟨v104, v107, v112, rfl, ho0, ho1, ho2, hb⟩; have HO105 := Aside0.mk (Kd.V_lower (Kd.V_mono (ok' := fun k_ => some k_ ≠ (v112 : Value).ownBlock ∧ k_ ≠ gb101 ∧ k_ ≠ gb102) ho0 (fun k_ hk_ => ⟨hk_.2, Or.elim hk_.1 (fun hs_ => Or.elim hs_ (fun hs_ => fun e_ => Nat.not_le.2 hs_ (by rw [e_]; exact GW101.out)) (fun hs_ => fun e_ => Nat.not_le.2 hs_ (by rw [e_]; exact GW101.out))) (fun hn_ => (Kd.freshB (g := gb101) (o := .cells #[.slice A0_0 l0_0.length c0_0, .slice A0_1 l0_1.length c0_1, .int .i64 a0_2, .int .i64 a0_3] 25 (0, 0)) (pB BK101.out) k_ hn_)), Or.elim hk_.1 (fun hs_ => Or.elim hs_ (fun hs_ => fun e_ => Nat.not_le.2 hs_ (by rw [e_]; exact GW102.out)) (fun hs_ => fun e_ => Nat.not_le.2 hs_ (by rw [e_]; exact GW102.out))) (fun hn_ => (Kd.freshB (g := gb102) (o := .cells #[.slice A2 l2.length c2] 23 (0, 0)) (pB BK102.out) k_ hn_))⟩)) (below_size (pE HB))); have HO108 := Aside0.mk (Kd.V_lower (Kd.V_mono (ok' := fun k_ => some k_ ≠ (v112 : Value).ownBlock ∧ k_ ≠ gb101 ∧ k_ ≠ gb102) ho1 (fun k_ hk_ => ⟨hk_.2, Or.elim hk_.1 (fun hs_ => Or.elim hs_ (fun hs_ => fun e_ => Nat.not_le.2 hs_ (by rw [e_]; exact GW101.out)) (fun hs_ => fun e_ => Nat.not_le.2 hs_ (by rw [e_]; exact GW101.out))) (fun hn_ => (Kd.freshB (g := gb101) (o := .cells #[.slice A0_0 l0_0.length c0_0, .slice A0_1 l0_1.length c0_1, .int .i64 a0_2, .int .i64 a0_3] 25 (0, 0)) (pB BK101.out) k_ hn_)), Or.elim hk_.1 (fun hs_ => Or.elim hs_ (fun hs_ => fun e_ => Nat.not_le.2 hs_ (by rw [e_]; exact GW102.out)) (fun hs_ => fun e_ => Nat.not_le.2 hs_ (by rw [e_]; exact GW102.out))) (fun hn_ => (Kd.freshB (g := gb102) (o := .cells #[.slice A2 l2.length c2] 23 (0, 0)) (pB BK102.out) k_ hn_))⟩)) (below_size (pE HB))); have HO113 := Aside0.mk (Kd.R_lower (Kd.R_mono (ok' := fun k_ => True) ho2 (fun _ hk_ => trivial)) (below_size (pE HB))); replace BK101 := bb BK101 hb; replace BK102 := bb BK102 hb; replace HB := bs HB hb; (try clear hb); (try clear hb2); (try clear hk); (try clear hi); (try clear ho0); (try clear ho1); (try clear ho2)) | ((with_reducible refine gate_dst (N := 8) rfl ?_); refine bx 8 #[.slice none 0 0, .slice none 0 0, .int .i64 0, .int .i64 0, .slice none 0 0] 96 ?_; intro gb115 hg w89 hbox hb; replace HO105 := ve HO105 hg hb; replace HO108 := ve HO108 hg hb; replace HO113 := rb HO113 hb; have BK115 := hbox; have GW115 := gs HB hg; have GE115 := gs HB hg; replace HB := bs HB hb; have NB101_115 := nl BK101 hg; have NB115_101 := nr BK101 hg; replace BK101 := bb BK101 hb; have NB102_115 := nl BK102 hg; have NB115_102 := nr BK102 hg; replace BK102 := bb BK102 hb; clear hb hbox hg; obtain ⟨Ao90, co90, eo90⟩ := Kd.V_slice HO105.out; subst eo90; have hnb91 := NB115_101.out; have hnc91 := NB101_115.out; have hnb92 := NB115_102.out; have hnc92 := NB102_115.out; obtain ⟨hcz93_0, hcz93_1, hcz93_2, hcz93_3, hcz93_4, hfz93_0, hfz93_1, hfz93_2, hfz93_3, hfz93_4⟩ := cf5 BK115; obtain ⟨Ao94, co94, eo94⟩ := Kd.V_slice HO108.out; subst eo94; obtain ⟨Ao95, co95, eo95⟩ := Kd.R_slice HO113.out; subst eo95))
  repeat (go_quiet (first | ((with_reducible refine gate_dst (N := 3) rfl ?_); refine bx 3 #[.slice A0_0 l0_0.length c0_0, .slice A0_1 l0_1.length c0_1, .int .i64 a0_2, .int .i64 a0_3] 25 ?_; intro gb101 hg w84 hbox hb; have BK101 := hbox; have GW101 := gs HB hg; have GE101 := gs HB hg; replace HB := bs HB hb; clear hb hbox hg) | ((with_reducible refine gate_dst (N := 5) rfl ?_); refine bx 5 #[.slice A2 l2.length c2] 23 ?_; intro gb102 hg w85 hbox hb; have BK102 := hbox; have GW102 := gs HB hg; have GE102 := gs HB hg; replace HB := bs HB hb; have NB101_102 := nl BK101 hg; have NB102_101 := nr BK101 hg; replace BK101 := bb BK101 hb; clear hb hbox hg; have hnb86 := NB101_102.out; have hnc86 := NB102_101.out; obtain ⟨hcz87_0, hcz87_1, hcz87_2, hcz87_3, hfz87_0, hfz87_1, hfz87_2, hfz87_3⟩ := cf4 BK101) | (go_at_call 57; (with_reducible refine (tenter_open.calls k (fun k_ => k_ < w.heap.size) _ _ l0_0 (fun k_ => k_ < w.heap.size) _ _ l0_1 a0_2 a0_3 t103 t106 t109 t110 t111 t114 _ ?side1 ?side2 A4.out).mono ?_); (case side1 => exact Kd.V_mk HC0_0.out (Kd.F_below (Kd.C_F k43_heap HR0_0.out) (pE HB))); (case side2 => exact Kd.V_mk HC0_1.out (Kd.F_below (Kd.C_F (Kd.heap_int .i64) HR0_1.out) (pE HB))); rintro e w88 ⟨v104, v107, v112, rfl, ho0, ho1, ho2, hb⟩; have HO105 := Aside0.mk (Kd.V_lower (Kd.V_mono (ok' := fun k_ => some k_ ≠ (v112 : Value).ownBlock ∧ k_ ≠ gb101 ∧ k_ ≠ gb102) ho0 (fun k_ hk_ => ⟨hk_.2, Or.elim hk_.1 (fun hs_ => Or.elim hs_ (fun hs_ => fun e_ => Nat.not_le.2 hs_ (by rw [e_]; exact GW101.out)) (fun hs_ => fun e_ => Nat.not_le.2 hs_ (by rw [e_]; exact GW101.out))) (fun hn_ => (Kd.freshB (g := gb101) (o := .cells #[.slice A0_0 l0_0.length c0_0, .slice A0_1 l0_1.length c0_1, .int .i64 a0_2, .int .i64 a0_3] 25 (0, 0)) (pB BK101.out) k_ hn_)), Or.elim hk_.1 (fun hs_ => Or.elim hs_ (fun hs_ => fun e_ => Nat.not_le.2 hs_ (by rw [e_]; exact GW102.out)) (fun hs_ => fun e_ => Nat.not_le.2 hs_ (by rw [e_]; exact GW102.out))) (fun hn_ => (Kd.freshB (g := gb102) (o := .cells #[.slice A2 l2.length c2] 23 (0, 0)) (pB BK102.out) k_ hn_))⟩)) (below_size (pE HB))); have HO108 := Aside0.mk (Kd.V_lower (Kd.V_mono (ok' := fun k_ => some k_ ≠ (v112 : Value).ownBlock ∧ k_ ≠ gb101 ∧ k_ ≠ gb102) ho1 (fun k_ hk_ => ⟨hk_.2, Or.elim hk_.1 (fun hs_ => Or.elim hs_ (fun hs_ => fun e_ => Nat.not_le.2 hs_ (by rw [e_]; exact GW101.out)) (fun hs_ => fun e_ => Nat.not_le.2 hs_ (by rw [e_]; exact GW101.out))) (fun hn_ => (Kd.freshB (g := gb101) (o := .cells #[.slice A0_0 l0_0.length c0_0, .slice A0_1 l0_1.length c0_1, .int .i64 a0_2, .int .i64 a0_3] 25 (0, 0)) (pB BK101.out) k_ hn_)), Or.elim hk_.1 (fun hs_ => Or.elim hs_ (fun hs_ => fun e_ => Nat.not_le.2 hs_ (by rw [e_]; exact GW102.out)) (fun hs_ => fun e_ => Nat.not_le.2 hs_ (by rw [e_]; exact GW102.out))) (fun hn_ => (Kd.freshB (g := gb102) (o := .cells #[.slice A2 l2.length c2] 23 (0, 0)) (pB BK102.out) k_ hn_))⟩)) (below_size (pE HB))); have HO113 := Aside0.mk (Kd.R_lower (Kd.R_mono (ok' := fun k_ => True) ho2 (fun _ hk_ => trivial)) (below_size (pE HB))); replace BK101 := bb BK101 hb; replace BK102 := bb BK102 hb; replace HB := bs HB hb; (try clear hb); (try clear hb2); (try clear hk); (try clear hi); (try clear ho0); (try clear ho1); (try clear ho2)) | ((with_reducible refine gate_dst (N := 8) rfl ?_); refine bx 8 #[.slice none 0 0, .slice none 0 0, .int .i64 0, .int .i64 0, .slice none 0 0] 96 ?_; intro gb115 hg w89 hbox hb; replace HO105 := ve HO105 hg hb; replace HO108 := ve HO108 hg hb; replace HO113 := rb HO113 hb; have BK115 := hbox; have GW115 := gs HB hg; have GE115 := gs HB hg; replace HB := bs HB hb; have NB101_115 := nl BK101 hg; have NB115_101 := nr BK101 hg; replace BK101 := bb BK101 hb; have NB102_115 := nl BK102 hg; have NB115_102 := nr BK102 hg; replace BK102 := bb BK102 hb; clear hb hbox hg; obtain ⟨Ao90, co90, eo90⟩ := Kd.V_slice HO105.out; subst eo90; have hnb91 := NB115_101.out; have hnc91 := NB101_115.out; have hnb92 := NB115_102.out; have hnc92 := NB102_115.out; obtain ⟨hcz93_0, hcz93_1, hcz93_2, hcz93_3, hcz93_4, hfz93_0, hfz93_1, hfz93_2, hfz93_3, hfz93_4⟩ := cf5 BK115; obtain ⟨Ao94, co94, eo94⟩ := Kd.V_slice HO108.out; subst eo94; obtain ⟨Ao95, co95, eo95⟩ := Kd.R_slice HO113.out; subst eo95)); try go_wp2_with (first | ((with_reducible refine gate_dst (N := 3) rfl ?_); refine bx 3 #[.slice A0_0 l0_0.length c0_0, .slice A0_1 l0_1.length c0_1, .int .i64 a0_2, .int .i64 a0_3] 25 ?_; intro gb101 hg w84 hbox hb; have BK101 := hbox; have GW101 := gs HB hg; have GE101 := gs HB hg; replace HB := bs HB hb; clear hb hbox hg) | ((with_reducible refine gate_dst (N := 5) rfl ?_); refine bx 5 #[.slice A2 l2.length c2] 23 ?_; intro gb102 hg w85 hbox hb; have BK102 := hbox; have GW102 := gs HB hg; have GE102 := gs HB hg; replace HB := bs HB hb; have NB101_102 := nl BK101 hg; have NB102_101 := nr BK101 hg; replace BK101 := bb BK101 hb; clear hb hbox hg; have hnb86 := NB101_102.out; have hnc86 := NB102_101.out; obtain ⟨hcz87_0, hcz87_1, hcz87_2, hcz87_3, hfz87_0, hfz87_1, hfz87_2, hfz87_3⟩ := cf4 BK101) | (go_at_call 57; (with_reducible refine (tenter_open.calls k (fun k_ => k_ < w.heap.size) _ _ l0_0 (fun k_ => k_ < w.heap.size) _ _ l0_1 a0_2 a0_3 t103 t106 t109 t110 t111 t114 _ ?side1 ?side2 A4.out).mono ?_); (case side1 => exact Kd.V_mk HC0_0.out (Kd.F_below (Kd.C_F k43_heap HR0_0.out) (pE HB))); (case side2 => exact Kd.V_mk HC0_1.out (Kd.F_below (Kd.C_F (Kd.heap_int .i64) HR0_1.out) (pE HB))); rintro e w88 ⟨v104, v107, v112, rfl, ho0, ho1, ho2, hb⟩; have HO105 := Aside0.mk (Kd.V_lower (Kd.V_mono (ok' := fun k_ => some k_ ≠ (v112 : Value).ownBlock ∧ k_ ≠ gb101 ∧ k_ ≠ gb102) ho0 (fun k_ hk_ => ⟨hk_.2, Or.elim hk_.1 (fun hs_ => Or.elim hs_ (fun hs_ => fun e_ => Nat.not_le.2 hs_ (by rw [e_]; exact GW101.out)) (fun hs_ => fun e_ => Nat.not_le.2 hs_ (by rw [e_]; exact GW101.out))) (fun hn_ => (Kd.freshB (g := gb101) (o := .cells #[.slice A0_0 l0_0.length c0_0, .slice A0_1 l0_1.length c0_1, .int .i64 a0_2, .int .i64 a0_3] 25 (0, 0)) (pB BK101.out) k_ hn_)), Or.elim hk_.1 (fun hs_ => Or.elim hs_ (fun hs_ => fun e_ => Nat.not_le.2 hs_ (by rw [e_]; exact GW102.out)) (fun hs_ => fun e_ => Nat.not_le.2 hs_ (by rw [e_]; exact GW102.out))) (fun hn_ => (Kd.freshB (g := gb102) (o := .cells #[.slice A2 l2.length c2] 23 (0, 0)) (pB BK102.out) k_ hn_))⟩)) (below_size (pE HB))); have HO108 := Aside0.mk (Kd.V_lower (Kd.V_mono (ok' := fun k_ => some k_ ≠ (v112 : Value).ownBlock ∧ k_ ≠ gb101 ∧ k_ ≠ gb102) ho1 (fun k_ hk_ => ⟨hk_.2, Or.elim hk_.1 (fun hs_ => Or.elim hs_ (fun hs_ => fun e_ => Nat.not_le.2 hs_ (by rw [e_]; exact GW101.out)) (fun hs_ => fun e_ => Nat.not_le.2 hs_ (by rw [e_]; exact GW101.out))) (fun hn_ => (Kd.freshB (g := gb101) (o := .cells #[.slice A0_0 l0_0.length c0_0, .slice A0_1 l0_1.length c0_1, .int .i64 a0_2, .int .i64 a0_3] 25 (0, 0)) (pB BK101.out) k_ hn_)), Or.elim hk_.1 (fun hs_ => Or.elim hs_ (fun hs_ => fun e_ => Nat.not_le.2 hs_ (by rw [e_]; exact GW102.out)) (fun hs_ => fun e_ => Nat.not_le.2 hs_ (by rw [e_]; exact GW102.out))) (fun hn_ => (Kd.freshB (g := gb102) (o := .cells #[.slice A2 l2.length c2] 23 (0, 0)) (pB BK102.out) k_ hn_))⟩)) (below_size (pE HB))); have HO113 := Aside0.mk (Kd.R_lower (Kd.R_mono (ok' := fun k_ => True) ho2 (fun _ hk_ => trivial)) (below_size (pE HB))); replace BK101 := bb BK101 hb; replace BK102 := bb BK102 hb; replace HB := bs HB hb; (try clear hb); (try clear hb2); (try clear hk); (try clear hi); (try clear ho0); (try clear ho1); (try clear ho2)) | ((with_reducible refine gate_dst (N := 8) rfl ?_); refine bx 8 #[.slice none 0 0, .slice none 0 0, .int .i64 0, .int .i64 0, .slice none 0 0] 96 ?_; intro gb115 hg w89 hbox hb; replace HO105 := ve HO105 hg hb; replace HO108 := ve HO108 hg hb; replace HO113 := rb HO113 hb; have BK115 := hbox; have GW115 := gs HB hg; have GE115 := gs HB hg; replace HB := bs HB hb; have NB101_115 := nl BK101 hg; have NB115_101 := nr BK101 hg; replace BK101 := bb BK101 hb; have NB102_115 := nl BK102 hg; have NB115_102 := nr BK102 hg; replace BK102 := bb BK102 hb; clear hb hbox hg; obtain ⟨Ao90, co90, eo90⟩ := Kd.V_slice HO105.out; subst eo90; have hnb91 := NB115_101.out; have hnc91 := NB101_115.out; have hnb92 := NB115_102.out; have hnc92 := NB102_115.out; obtain ⟨hcz93_0, hcz93_1, hcz93_2, hcz93_3, hcz93_4, hfz93_0, hfz93_1, hfz93_2, hfz93_3, hfz93_4⟩ := cf5 BK115; obtain ⟨Ao94, co94, eo94⟩ := Kd.V_slice HO108.out; subst eo94; obtain ⟨Ao95, co95, eo95⟩ := Kd.R_slice HO113.out; subst eo95)))
  go_ret2
  exact ⟨_, eT, by first | exact Kd.R_nil _ _ _ _ _ | exact Kd.N_nil _ _ _ _ _ | exact Kd.V_nil _ _ _ _ _ | exact Kd.Q_nil _ _ _ _ _ | exact Kd.S_nil _ _ _ _ _, pE HB⟩
mutual
def walkmillref05_Tight.l0 : Nat → Int → List Int → Int → Int → Int → List (S43) → List Int → Int → Int → Int → Int → Option (List Int × Bool)
 | 0, _, _, _, _, _, _, _, _, _, _, _ => none
 | k + 1, x1, x2, x9, x10, x11, x102000, x102001, x102002, x102003, x109000, x109001 => if x11 < (x2.length : Int) then (if 0 ≤ x11 then ((walkmillref05_Hangs.f x102000 x102001 x102002 x102003 (rd x2 x11)).bind fun bt110 => (if bt110.1 > bt110.2 then (some (([] : List Int), false)) else (walkmillref05_Tight.l0 k x1 x2 (wrap64 ((wrap64 (x9 + x102002)) + bt110.1)) (wrap64 ((wrap64 (x10 + x102002)) + bt110.2)) (wrap64 (x11 + 1)) x102000 x102001 x102002 x102003 x109000 x109001))) else (none)) else (walkmillref05_Tight.l1 k x1 x2 x9 x10 x109000 x102000 x102001 x102002 x102003 x109000 x109001)
def walkmillref05_Tight.l1 : Nat → Int → List Int → Int → Int → Int → List (S43) → List Int → Int → Int → Int → Int → Option (List Int × Bool)
 | 0, _, _, _, _, _, _, _, _, _, _, _ => none
 | k + 1, x1, x2, x9, x10, x13, x102000, x102001, x102002, x102003, x109000, x109001 => if x13 ≤ x109001 then ((walkmillref05_In.f (wrap64 (x1 - x13)) x9 x10).bind fun t113 => (if t113 = true then (if (x2.length : Int) > 1 then (walkmillref05_Tight.j2 k x1 x2 x9 x10 x13 (wrap64 ((wrap64 (x1 - x13)) - x102002)) x102000 x102001 x102002 x102003 x109000 x109001) else (walkmillref05_Tight.j2 k x1 x2 x9 x10 x13 (wrap64 (x1 - x13)) x102000 x102001 x102002 x102003 x109000 x109001)) else (walkmillref05_Tight.l1 k x1 x2 x9 x10 (wrap64 (x13 + 1)) x102000 x102001 x102002 x102003 x109000 x109001))) else (some (([] : List Int), false))
def walkmillref05_Tight.j2 : Nat → Int → List Int → Int → Int → Int → Int → List (S43) → List Int → Int → Int → Int → Int → Option (List Int × Bool)
 | 0, _, _, _, _, _, _, _, _, _, _, _, _ => none
 | k + 1, x1, x2, x9, x10, x13, x14, x102000, x102001, x102002, x102003, x109000, x109001 => if 1 ≤ (x2.length : Int) then ((walkmillref05_Tight.f k x102000 x102001 x102002 x102003 x14 (x2.drop 1)).bind fun bt115 => (if bt115.2 = true then ((some (([x13] : List Int) : List Int)).bind fun y119 => (if y119.length + bt115.1.length < 17592186044416 then (some ((y119 ++ bt115.1), true)) else (none))) else (walkmillref05_Tight.l1 k x1 x2 x9 x10 (wrap64 (x13 + 1)) x102000 x102001 x102002 x102003 x109000 x109001))) else (none)
def walkmillref05_Tight.f : Nat → List (S43) → List Int → Int → Int → Int → List Int → Option (List Int × Bool)
 | 0, _, _, _, _, _, _ => none
 | k + 1, l0_0, l0_1, a0_2, a0_3, a1, l2 => if (l2.length : Int) = 0 then (some ((([] : List Int)), (a1 == 0))) else (if 0 < (l2.length : Int) then ((walkmillref05_Hangs.f l0_0 l0_1 a0_2 a0_3 (rd l2 0)).bind fun bt106 => (walkmillref05_Tight.l0 k a1 l2 0 0 1 l0_0 l0_1 a0_2 a0_3 bt106.1 bt106.2)) else (none))
end
theorem walkmillref05_Tight.mono_l : ∀ k, (∀ y0 y1 y2 y3 y4 y5, LeO (walkmillref05_Tight.f k y0 y1 y2 y3 y4 y5) (walkmillref05_Tight.f (k + 1) y0 y1 y2 y3 y4 y5)) ∧ (∀ y0 y1 y2 y3 y4 y5 y6 y7 y8 y9 y10, LeO (walkmillref05_Tight.l0 k y0 y1 y2 y3 y4 y5 y6 y7 y8 y9 y10) (walkmillref05_Tight.l0 (k + 1) y0 y1 y2 y3 y4 y5 y6 y7 y8 y9 y10)) ∧ (∀ y0 y1 y2 y3 y4 y5 y6 y7 y8 y9 y10, LeO (walkmillref05_Tight.l1 k y0 y1 y2 y3 y4 y5 y6 y7 y8 y9 y10) (walkmillref05_Tight.l1 (k + 1) y0 y1 y2 y3 y4 y5 y6 y7 y8 y9 y10)) ∧ (∀ y0 y1 y2 y3 y4 y5 y6 y7 y8 y9 y10 y11, LeO (walkmillref05_Tight.j2 k y0 y1 y2 y3 y4 y5 y6 y7 y8 y9 y10 y11) (walkmillref05_Tight.j2 (k + 1) y0 y1 y2 y3 y4 y5 y6 y7 y8 y9 y10 y11))
 | 0 => ⟨fun _ _ _ _ _ _ r h => by simp [walkmillref05_Tight.f] at h, fun _ _ _ _ _ _ _ _ _ _ _ r h => by simp [walkmillref05_Tight.l0] at h, fun _ _ _ _ _ _ _ _ _ _ _ r h => by simp [walkmillref05_Tight.l1] at h, fun _ _ _ _ _ _ _ _ _ _ _ _ r h => by simp [walkmillref05_Tight.j2] at h⟩
 | k + 1 => by
  obtain ⟨ih0, ih1, ih2, ih3⟩ := walkmillref05_Tight.mono_l k
  refine ⟨?_, ?_, ?_, ?_⟩
  ·intro y0 y1 y2 y3 y4 y5
   unfold walkmillref05_Tight.f
   repeat' first
   | (with_reducible exact ih0 _ _ _ _ _ _)
   | (with_reducible exact ih1 _ _ _ _ _ _ _ _ _ _ _)
   | (with_reducible exact ih2 _ _ _ _ _ _ _ _ _ _ _)
   | (with_reducible exact ih3 _ _ _ _ _ _ _ _ _ _ _ _)
   | (with_reducible exact LeO.refl _)
   | (with_reducible exact LeO.none _)
   | (with_reducible refine LeO.ite ?_ ?_)
   | (with_reducible refine LeO.bind ?_ (fun _ => ?_))
   | exact ih0 _ _ _ _ _ _
   | exact ih1 _ _ _ _ _ _ _ _ _ _ _
   | exact ih2 _ _ _ _ _ _ _ _ _ _ _
   | exact ih3 _ _ _ _ _ _ _ _ _ _ _ _
   | exact LeO.none _
   | refine LeO.ite ?_ ?_
   | refine LeO.bind ?_ (fun _ => ?_)
  ·intro y0 y1 y2 y3 y4 y5 y6 y7 y8 y9 y10
   unfold walkmillref05_Tight.l0
   repeat' first
   | (with_reducible exact ih0 _ _ _ _ _ _)
   | (with_reducible exact ih1 _ _ _ _ _ _ _ _ _ _ _)
   | (with_reducible exact ih2 _ _ _ _ _ _ _ _ _ _ _)
   | (with_reducible exact ih3 _ _ _ _ _ _ _ _ _ _ _ _)
   | (with_reducible exact LeO.refl _)
   | (with_reducible exact LeO.none _)
   | (with_reducible refine LeO.ite ?_ ?_)
   | (with_reducible refine LeO.bind ?_ (fun _ => ?_))
   | exact ih0 _ _ _ _ _ _
   | exact ih1 _ _ _ _ _ _ _ _ _ _ _
   | exact ih2 _ _ _ _ _ _ _ _ _ _ _
   | exact ih3 _ _ _ _ _ _ _ _ _ _ _ _
   | exact LeO.none _
   | refine LeO.ite ?_ ?_
   | refine LeO.bind ?_ (fun _ => ?_)
  ·intro y0 y1 y2 y3 y4 y5 y6 y7 y8 y9 y10
   unfold walkmillref05_Tight.l1
   repeat' first
   | (with_reducible exact ih0 _ _ _ _ _ _)
   | (with_reducible exact ih1 _ _ _ _ _ _ _ _ _ _ _)
   | (with_reducible exact ih2 _ _ _ _ _ _ _ _ _ _ _)
   | (with_reducible exact ih3 _ _ _ _ _ _ _ _ _ _ _ _)
   | (with_reducible exact LeO.refl _)
   | (with_reducible exact LeO.none _)
   | (with_reducible refine LeO.ite ?_ ?_)
   | (with_reducible refine LeO.bind ?_ (fun _ => ?_))
   | exact ih0 _ _ _ _ _ _
   | exact ih1 _ _ _ _ _ _ _ _ _ _ _
   | exact ih2 _ _ _ _ _ _ _ _ _ _ _
   | exact ih3 _ _ _ _ _ _ _ _ _ _ _ _
   | exact LeO.none _
   | refine LeO.ite ?_ ?_
   | refine LeO.bind ?_ (fun _ => ?_)
  ·intro y0 y1 y2 y3 y4 y5 y6 y7 y8 y9 y10 y11
   unfold walkmillref05_Tight.j2
   repeat' first
   | (with_reducible exact ih0 _ _ _ _ _ _)
   | (with_reducible exact ih1 _ _ _ _ _ _ _ _ _ _ _)
   | (with_reducible exact ih2 _ _ _ _ _ _ _ _ _ _ _)
   | (with_reducible exact ih3 _ _ _ _ _ _ _ _ _ _ _ _)
   | (with_reducible exact LeO.refl _)
   | (with_reducible exact LeO.none _)
   | (with_reducible refine LeO.ite ?_ ?_)
   | (with_reducible refine LeO.bind ?_ (fun _ => ?_))
   | exact ih0 _ _ _ _ _ _
   | exact ih1 _ _ _ _ _ _ _ _ _ _ _
   | exact ih2 _ _ _ _ _ _ _ _ _ _ _
   | exact ih3 _ _ _ _ _ _ _ _ _ _ _ _
   | exact LeO.none _
   | refine LeO.ite ?_ ?_
   | refine LeO.bind ?_ (fun _ => ?_)
theorem walkmillref05_Tight.mono : ∀ a0 a1 a2 a3 a4 a5 k, LeO (walkmillref05_Tight.f k a0 a1 a2 a3 a4 a5) (walkmillref05_Tight.f (k + 1) a0 a1 a2 a3 a4 a5) := by
 intro a0 a1 a2 a3 a4 a5 k
 obtain ⟨ih0, ih1, ih2, ih3⟩ := walkmillref05_Tight.mono_l k
 exact ih0 a0 a1 a2 a3 a4 a5
def walkmillref05_Tight.T8 : Bool × List (List Nat × List Nat) := (true, [([], []), ([], []), ([], []), ([1, 2], [1, 2]), ([3], [3]), ([0, 4], [0, 4]), ([], []), ([6, 5, 5, 0, 1, 2, 3, 4, 5, 6], [5, 6])])
def walkmillref05_Tight.B8 : List Nat := [0, 0, 0, 6, 14, 31, 0, 127]
theorem walkmillref05_Tight.tab8 : rtab .any (opsOf Tryz.f33 8) = walkmillref05_Tight.T8 := by kernel_rfl
theorem walkmillref05_Tight.bits8 : waitsOk walkmillref05_Tight.T8.2 walkmillref05_Tight.B8 = true := by kernel_rfl
def walkmillref05_Tight.T11 : Bool × List (List Nat × List Nat) := (true, [([], []), ([], []), ([1], [1]), ([0, 2], [0, 2]), ([], []), ([4], [4]), ([3, 5], [3, 5]), ([], []), ([], []), ([8], [8]), ([7, 9], [7, 9]), ([], []), ([11], [11]), ([10, 12], [10, 12]), ([6, 0, 1, 2, 3, 4, 5, 6], [0, 6]), ([13, 14, 0, 1, 2, 3, 4, 5, 6, 7, 8, 9, 10, 11, 12, 13, 14], [7, 13])])
def walkmillref05_Tight.B11 : List Nat := [0, 0, 2, 7, 0, 16, 63, 0, 0, 256, 896, 0, 2048, 8064, 127, 32767]
theorem walkmillref05_Tight.tab11 : rtab .any (opsOf Tryz.f33 11) = walkmillref05_Tight.T11 := by kernel_rfl
theorem walkmillref05_Tight.bits11 : waitsOk walkmillref05_Tight.T11.2 walkmillref05_Tight.B11 = true := by kernel_rfl
def walkmillref05_Tight.T19 : Bool × List (List Nat × List Nat) := (true, [([], []), ([], []), ([], []), ([2], [2]), ([0, 1, 3], [0, 1, 3]), ([4], [4]), ([5], [5]), ([5], [5]), ([6, 4, 0, 1, 2, 3, 4, 5, 6], [6]), ([7, 8, 0, 1, 2, 3, 4, 5, 6, 7, 8], [7])])
def walkmillref05_Tight.B19 : List Nat := [0, 0, 0, 4, 15, 31, 63, 63, 127, 511]
theorem walkmillref05_Tight.tab19 : rtab .any (opsOf Tryz.f33 19) = walkmillref05_Tight.T19 := by kernel_rfl
theorem walkmillref05_Tight.bits19 : waitsOk walkmillref05_Tight.T19.2 walkmillref05_Tight.B19 = true := by kernel_rfl
set_option maxHeartbeats 8000000 in
set_option maxRecDepth 100000 in
theorem walkmillref05_Tight.calls (k : Nat) : ∀ (A0_0 : Option Addr) (c0_0 : Nat) (l0_0 : List (S43)) (A0_1 : Option Addr) (c0_1 : Nat) (l0_1 : List Int) (a0_2 : Int) (a0_3 : Int) (a1 : Int) (A2 : Option Addr) (c2 : Nat) (l2 : List Int) (r1 : List Int) (r2 : Bool) (w : World) (hr0_0 : Kd.C k43 w A0_0 l0_0.length l0_0) (hc0_0 : l0_0.length ≤ c0_0) (hr0_1 : Kd.C (Kd.int .i64) w A0_1 l0_1.length l0_1) (hc0_1 : l0_1.length ≤ c0_1) (hr2 : Kd.C (Kd.int .i64) w A2 l2.length l2) (hc2 : l2.length ≤ c2) (h : walkmillref05_Tight.f k l0_0 l0_1 a0_2 a0_3 a1 l2 = some (r1, r2)),
  Calls Tryz.prog 33 #[.agg #[.slice A0_0 l0_0.length c0_0, .slice A0_1 l0_1.length c0_1, .int .i64 a0_2, .int .i64 a0_3], .int .i64 a1, .slice A2 l2.length c2] w fun e w' => ∃ v0_ : Value, e = .returned (.tuple #[v0_, .bool r2]) ∧ Kd.R (Kd.int .i64) 3 w' w.heap.size (fun _ => True) v0_ r1 ∧ Below w.heap.size w w' := by
 induction k using Nat.strongRecOn with
 | _ k ih =>
 intro A0_0 c0_0 l0_0 A0_1 c0_1 l0_1 a0_2 a0_3 a1 A2 c2 l2 r1 r2 w hr0_0 hc0_0 hr0_1 hc0_1 hr2 hc2 h
 cases k with
 | zero => exact absurd h (by simp [walkmillref05_Tight.f])
 | succ k =>
 simp only [walkmillref05_Tight.f] at h
 have hu25 := Tryz.underlying25
 have hu36 := Tryz.underlying36
 have HR0_0 := Aside0.mk hr0_0
 have HC0_0 := Aside0.mk hc0_0
 clear hr0_0 hc0_0
 have HR0_1 := Aside0.mk hr0_1
 have HC0_1 := Aside0.mk hc0_1
 clear hr0_1 hc0_1
 have HR2 := Aside0.mk hr2
 have HC2 := Aside0.mk hc2
 clear hr2 hc2
 have HB := Aside0.mk (Below.refl w.heap.size w)
 have H : (if (l2.length : Int) = 0 then (some ((([] : List Int)), (a1 == 0))) else (if 0 < (l2.length : Int) then ((walkmillref05_Hangs.f l0_0 l0_1 a0_2 a0_3 (rd l2 0)).bind fun bt106 => (walkmillref05_Tight.l0 k a1 l2 0 0 1 l0_0 l0_1 a0_2 a0_3 bt106.1 bt106.2)) else (none))) = some (r1, r2) := h
 clear h
 by_cases c4 : (l2.length : Int) = 0
 ·rw [if_pos c4] at H
  have c4b0 : ((l2.length : Int) == 0) = true := beq_iff_eq.mpr c4
  have c4b1 : ((l2.length : Int) != 0) = false := bne_eq_false_iff_eq.mpr c4
  clear c4
  obtain ⟨y102, hy102⟩ : ∃ y_ : List Int, y_ = (([] : List Int)) := ⟨_, rfl⟩
  replace H : (some (y102, (a1 == 0))) = some (r1, r2) := yy hy102 H
  have Ny102 := Aside0.mk hy102
  clear hy102
  simp only [Option.some.injEq, Prod.mk.injEq] at H
  obtain ⟨rfl, rfl⟩ := H
  go_enter Tryz.func33, Tryz.ntmps33
  go_wp2_with (first | ((with_reducible refine gate_dst (N := 3) rfl ?_); refine bx 3 #[.slice A0_0 l0_0.length c0_0, .slice A0_1 l0_1.length c0_1, .int .i64 a0_2, .int .i64 a0_3] 25 ?_; intro gb101 hg w5 hbox hb; have BK101 := hbox; have GW101 := gs HB hg; have GE101 := gs HB hg; replace HB := bs HB hb; clear hb hbox hg) | ((with_reducible refine gate_dst (N := 20) rfl ?_); refine Kd.R_lit (Kd.int .i64) _ 3 ?hg (N := 20) ?hd (xs := ([] : List Int)) (inner := []) (ok := fun _ => True) (okp := fun _ => True) ?hr ?hp (fun _ hk => hk) trivial (Below.refl _ _) (Nat.le_refl _) (by simp) ?_; (case hd => rfl); (case hg => rfl); (case hr => first | (go_simp; done) | (go_simp; rfl)); (case hp => exact (Reps.none _ _)); intro v103 w6 ho7 hb hg_ hnew_; clear hg_ hnew_; (first | rw [← Ny102.out] at ho7 | (simp only [Int.reduceToNat] at ho7; rw [← Ny102.out] at ho7)); have HO104 := rl ho7 HB; replace BK101 := bb BK101 hb; replace HB := bs HB hb; clear hb ho7))
  go_ret2
  exact ⟨_, eT, by (with_reducible repeat (first | apply Kd.R_alloc | apply Kd.R_drewN | apply Kd.R_drew)); exact HO104.out, pE HB⟩
 ·rw [if_neg c4] at H
  have c4b0 : ((l2.length : Int) == 0) = false := beq_eq_false_iff_ne.mpr c4
  have c4b1 : ((l2.length : Int) != 0) = true := bne_iff_ne.mpr c4
  have c4b2 : ¬ (l2 = []) := fun h_ => c4 (by rw [h_]; rfl)
  by_cases c8 : 0 < (l2.length : Int)
  ·rw [if_pos c8] at H
   have c8b0 : decide (0 < (l2.length : Int)) = true := decide_eq_true c8
   have c8b1 : decide (0 < l2.length) = true := decide_eq_true (by omega)
   clear c8
   obtain ⟨⟨t106, t107⟩, A9, H⟩ := bi H
   have H' := Aside0.mk H
   clear H
   go_enter Tryz.func33, Tryz.ntmps33
   try go_wp2_with (first | ((with_reducible refine gate_dst (N := 3) rfl ?_); refine bx 3 #[.slice A0_0 l0_0.length c0_0, .slice A0_1 l0_1.length c0_1, .int .i64 a0_2, .int .i64 a0_3] 25 ?_; intro gb101 hg w10 hbox hb; have BK101 := hbox; have GW101 := gs HB hg; have GE101 := gs HB hg; replace HB := bs HB hb; clear hb hbox hg))
   replace BK101 := Aside0.mk (blk_drew BK101.out)
   replace HB := Aside0.mk (below_drew1 HB.out)
   have p105 : 0 ≤ (0 : Int) := (by omega)
   have q105 : 0 < (l2.length : Int) := dT
   obtain ⟨ad105, e105, hx105_0⟩ := Kd.at_int HR2.out 0 p105 q105
   have hw105_0 := hx105_0
   (try rw [show ((0 : Int)).toNat = 0 from rfl] at hw105_0)
   (try rw [show 0 * 1 = 0 from rfl] at hw105_0)
   (try rw [Addr.add_zero'] at hw105_0)
   cases e105
   have qi105 : (0 < l2.length) = True := eq_true (by omega)
   (try rw [show ((0 : Int)).toNat = 0 from rfl] at hx105_0)
   (try rw [Addr.add_zero'] at hx105_0)
   replace hx105_0 := cut_ HB hx105_0
   replace p105 := eq_true p105
   replace q105 := eq_true q105
   refine start_ (n := 7) (S := fun w' => w'.cell? ⟨gb101, 0, none⟩ = some (.slice A0_0 l0_0.length c0_0) ∧ w'.cell? ⟨gb101, 1, none⟩ = some (.slice A0_1 l0_1.length c0_1) ∧ w'.cell? ⟨gb101, 2, none⟩ = some (.int .i64 a0_2) ∧ w'.cell? ⟨gb101, 3, none⟩ = some (.int .i64 a0_3) ∧ w'.cell? ad105 = some (.int .i64 (rd l2 0))) (ds := []) #[false, false, false, false, false, false, false] (by kernel_rfl) rfl rfl ⟨(blk_cell BK101.out 0).trans rfl, (blk_cell BK101.out 1).trans rfl, (blk_cell BK101.out 2).trans rfl, (blk_cell BK101.out 3).trans rfl, ((HB.out.cell (World.block_lt_of_cell? w _ hw105_0)).trans hw105_0)⟩ (fun hHeld => ?_)
   generalize w10.drew = w11 at BK101 HB hx105_0 hHeld ⊢
   refine pu 1 24 ?_
   refine pu 2 25 ?_
   refine tk 0 23 hHeld ?_
   refine tk 3 26 hHeld ?_
   refine join_ (σ := Nat) 1 #[true, true, true, true, true, true, false] (fun s_ => [(27, .agg #[.int .i64 t106, .int .i64 t107]), (8, .pointer (some ⟨s_, 0, none⟩))]) (fun s_ w' => (w'.cell? ⟨gb101, 0, none⟩ = some (.slice A0_0 l0_0.length c0_0) ∧ w'.cell? ⟨gb101, 1, none⟩ = some (.slice A0_1 l0_1.length c0_1) ∧ w'.cell? ⟨gb101, 2, none⟩ = some (.int .i64 a0_2) ∧ w'.cell? ⟨gb101, 3, none⟩ = some (.int .i64 a0_3) ∧ w'.cell? ad105 = some (.int .i64 (rd l2 0))) ∧ (w'.heap[gb101]? = some (.cells #[.slice A0_0 l0_0.length c0_0, .slice A0_1 l0_1.length c0_1, .int .i64 a0_2, .int .i64 a0_3] 25 (0, 0))) ∧ (w'.heap[s_]? = some (.cells #[.int .i64 0, .int .i64 0] 36 (0, 0))) ∧ (w.heap.size ≤ s_) ∧ (w.heap.size ≤ s_) ∧ (gb101 ≠ s_) ∧ (s_ ≠ gb101) ∧ (Below w.heap.size w w')) ?_ ?_
   rotate_left
   ·intro hCont
    refine two_ (i := 4) (j := 5) (Ni := some 27) (Nj := some 8) #[true, true, true, true, true, false, false] #[true, true, true, true, false, true, false] rfl rfl rfl rfl (by kernel_rfl) (by decide) (by decide) (fun K hK => ?_) (fun K hK => ?_)
    ·skip
     refine gO Tryz.func19 #[.agg #[.slice A0_0 l0_0.length c0_0, .slice A0_1 l0_1.length c0_1, .int .i64 a0_2, .int .i64 a0_3], .int .i64 (rd l2 0)] ?_
     with_reducible refine (walkmillref05_Hangs.calls _ _ l0_0 _ _ l0_1 a0_2 a0_3 (rd l2 0) t106 t107 _ ?side1 ?side2 ?side3 ?side4 A9.out).mono ?_
     (case side1 => exact pC (Kd.C_below HR0_0.out HB.out))
     (case side2 => exact HC0_0.out)
     (case side3 => exact pC (Kd.C_below HR0_1.out HB.out))
     (case side4 => exact HC0_1.out)
     rintro e w12 ⟨rfl, hb⟩
     refine ⟨_, rfl, ?_⟩
     replace BK101 := bb BK101 hb
     replace HB := bs HB hb
     (try clear hb)
     (try clear hb2)
     (try clear hk)
     (try clear hi)
     refine hK.out _ _ ⟨(blk_cell BK101.out 0).trans rfl, (blk_cell BK101.out 1).trans rfl, (blk_cell BK101.out 2).trans rfl, (blk_cell BK101.out 3).trans rfl, ((HB.out.cell (World.block_lt_of_cell? w _ hw105_0)).trans hw105_0)⟩ (fun hHeld => ?_)
     clear hK K
     refine norm_ (a' := ?_) ?_ ?_
     rotate_left
     ·show Act.put _ (some 27) _ = _
      simp only [Act.put, List.setIfInBounds_toArray, List.set_cons_zero, List.set_cons_succ, i64_w, i32_w]
      rfl
     refine on 5 (fun K hK => ?_)
     refine box_step ?hg (N := 8) ?hd (cs := #[.int .i64 0, .int .i64 0]) (t := 36) ?hr ?_; (case hd => rfl); (case hg => rfl); (case hr => first | (go_simp; done) | (go_simp; rfl))
     intro gb108 hg w13 hbox hb
     have BK108 := Aside0.mk (hbox)
     have GW108 := gs HB hg
     have GE108 := gs HB hg
     replace HB := bs HB hb
     have NB101_108 := nl BK101 hg
     have NB108_101 := nr BK101 hg
     replace BK101 := bb BK101 hb
     clear hb hbox hg
     refine hK.out _ _ ⟨(blk_cell BK101.out 0).trans rfl, (blk_cell BK101.out 1).trans rfl, (blk_cell BK101.out 2).trans rfl, (blk_cell BK101.out 3).trans rfl, ((HB.out.cell (World.block_lt_of_cell? w _ hw105_0)).trans hw105_0)⟩ (fun hHeld => ?_)
     clear hK K
     refine norm_ (a' := ?_) ?_ ?_
     rotate_left
     ·show Act.put _ (some 8) _ = _
      simp only [Act.put, List.setIfInBounds_toArray, List.set_cons_zero, List.set_cons_succ, i64_w, i32_w]
      rfl
     exact norm_ (by simp only [putAll, Act.put, List.setIfInBounds_toArray, List.set_cons_zero, List.set_cons_succ]) (hCont (gb108) _ ⟨hHeld, (pB BK101.out), (pB BK108.out), GW108.out, GE108.out, NB101_108.out, NB108_101.out, (pE HB)⟩)
    ·skip
     refine box_step ?hg (N := 8) ?hd (cs := #[.int .i64 0, .int .i64 0]) (t := 36) ?hr ?_; (case hd => rfl); (case hg => rfl); (case hr => first | (go_simp; done) | (go_simp; rfl))
     intro gb108 hg w12 hbox hb
     have BK108 := Aside0.mk (hbox)
     have GW108 := gs HB hg
     have GE108 := gs HB hg
     replace HB := bs HB hb
     have NB101_108 := nl BK101 hg
     have NB108_101 := nr BK101 hg
     replace BK101 := bb BK101 hb
     clear hb hbox hg
     refine hK.out _ _ ⟨(blk_cell BK101.out 0).trans rfl, (blk_cell BK101.out 1).trans rfl, (blk_cell BK101.out 2).trans rfl, (blk_cell BK101.out 3).trans rfl, ((HB.out.cell (World.block_lt_of_cell? w _ hw105_0)).trans hw105_0)⟩ (fun hHeld => ?_)
     clear hK K
     refine norm_ (a' := ?_) ?_ ?_
     rotate_left
     ·show Act.put _ (some 8) _ = _
      simp only [Act.put, List.setIfInBounds_toArray, List.set_cons_zero, List.set_cons_succ, i64_w, i32_w]
      rfl
     refine on 4 (fun K hK => ?_)
     refine gO Tryz.func19 #[.agg #[.slice A0_0 l0_0.length c0_0, .slice A0_1 l0_1.length c0_1, .int .i64 a0_2, .int .i64 a0_3], .int .i64 (rd l2 0)] ?_
     with_reducible refine (walkmillref05_Hangs.calls _ _ l0_0 _ _ l0_1 a0_2 a0_3 (rd l2 0) t106 t107 _ ?side1 ?side2 ?side3 ?side4 A9.out).mono ?_
     (case side1 => exact pC (Kd.C_below HR0_0.out HB.out))
     (case side2 => exact HC0_0.out)
     (case side3 => exact pC (Kd.C_below HR0_1.out HB.out))
     (case side4 => exact HC0_1.out)
     rintro e w13 ⟨rfl, hb⟩
     refine ⟨_, rfl, ?_⟩
     replace BK101 := bb BK101 hb
     replace BK108 := bb BK108 hb
     replace HB := bs HB hb
     (try clear hb)
     (try clear hb2)
     (try clear hk)
     (try clear hi)
     refine hK.out _ _ ⟨(blk_cell BK101.out 0).trans rfl, (blk_cell BK101.out 1).trans rfl, (blk_cell BK101.out 2).trans rfl, (blk_cell BK101.out 3).trans rfl, ((HB.out.cell (World.block_lt_of_cell? w _ hw105_0)).trans hw105_0)⟩ (fun hHeld => ?_)
     clear hK K
     refine norm_ (a' := ?_) ?_ ?_
     rotate_left
     ·show Act.put _ (some 27) _ = _
      simp only [Act.put, List.setIfInBounds_toArray, List.set_cons_zero, List.set_cons_succ, i64_w, i32_w]
      rfl
     exact norm_ (by simp only [putAll, Act.put, List.setIfInBounds_toArray, List.set_cons_zero, List.set_cons_succ]) (hCont (gb108) _ ⟨hHeld, (pB BK101.out), (pB BK108.out), GW108.out, GE108.out, NB101_108.out, NB108_101.out, (pE HB)⟩)
   rintro gb108 w14 ⟨hS_, h0_, h1_, h2_, h3_, h4_, h5_, h6_⟩
   have n0_ : Aside0 (w14.heap[gb101]? = some (.cells #[.slice A0_0 l0_0.length c0_0, .slice A0_1 l0_1.length c0_1, .int .i64 a0_2, .int .i64 a0_3] 25 (0, 0))) := ⟨h0_⟩
   have n1_ : Aside0 (w14.heap[gb108]? = some (.cells #[.int .i64 0, .int .i64 0] 36 (0, 0))) := ⟨h1_⟩
   have n2_ : Aside0 (w.heap.size ≤ gb108) := ⟨h2_⟩
   have n3_ : Aside0 (w.heap.size ≤ gb108) := ⟨h3_⟩
   have n4_ : Aside0 (gb101 ≠ gb108) := ⟨h4_⟩
   have n5_ : Aside0 (gb108 ≠ gb101) := ⟨h5_⟩
   have n6_ : Aside0 (Below w.heap.size w w14) := ⟨h6_⟩
   clear BK101 HB h0_ h1_ h2_ h3_ h4_ h5_ h6_
   have BK101 := n0_
   have BK108 := n1_
   have GW108 := n2_
   have GE108 := n3_
   have NB101_108 := n4_
   have NB108_101 := n5_
   have HB := n6_
   clear n0_ n1_ n2_ n3_ n4_ n5_ n6_
   have hHeld : w14.cell? ⟨gb101, 0, none⟩ = some (.slice A0_0 l0_0.length c0_0) ∧ w14.cell? ⟨gb101, 1, none⟩ = some (.slice A0_1 l0_1.length c0_1) ∧ w14.cell? ⟨gb101, 2, none⟩ = some (.int .i64 a0_2) ∧ w14.cell? ⟨gb101, 3, none⟩ = some (.int .i64 a0_3) ∧ w14.cell? ad105 = some (.int .i64 (rd l2 0)) := hS_
   refine norm_ (a' := ?_) ?_ ?_
   rotate_left
   ·simp only [putAll, Act.put, List.setIfInBounds_toArray, List.set_cons_zero, List.set_cons_succ]
    rfl
   refine on 6 (fun K hK => ?_)
   have hs15 : w14.cell? ⟨gb108, 0, none⟩ = some (.int .i64 0) := (blk_cell BK108.out 0).trans rfl
   have hfs15 := blk_frozen BK108.out 0
   have hns15_0 := NB101_108.out
   have hms15_0 := NB108_101.out
   have hs16 : w14.cell? ⟨gb108, 1, none⟩ = some (.int .i64 0) := (blk_cell BK108.out 1).trans rfl
   have hfs16 := blk_frozen BK108.out 1
   have hns16_0 := NB101_108.out
   have hms16_0 := NB108_101.out
   refine skip_ (w1 := ?_) (by rfl) rfl ?_ ?_
   rotate_left
   ·go_simp
    rfl
   refine hK.out _ _ ⟨((cell_far (p := ⟨gb108, _, none⟩) NB101_108.out _).trans (((cell_far (p := ⟨gb108, _, none⟩) NB101_108.out _).trans (hHeld.1)))), ((cell_far (p := ⟨gb108, _, none⟩) NB101_108.out _).trans (((cell_far (p := ⟨gb108, _, none⟩) NB101_108.out _).trans (hHeld.2.1)))), ((cell_far (p := ⟨gb108, _, none⟩) NB101_108.out _).trans (((cell_far (p := ⟨gb108, _, none⟩) NB101_108.out _).trans (hHeld.2.2.1)))), ((cell_far (p := ⟨gb108, _, none⟩) NB101_108.out _).trans (((cell_far (p := ⟨gb108, _, none⟩) NB101_108.out _).trans (hHeld.2.2.2.1)))), ((cell_far (p := ⟨gb108, _, none⟩) (by first | exact Nat.ne_of_lt (Nat.lt_of_lt_of_le (by have := World.block_lt_of_cell? _ _ hw105_0; first | rwa [add_block] at this | exact this) GW108.out) | (rw [add_block]; exact Nat.ne_of_lt (Nat.lt_of_lt_of_le (by have := World.block_lt_of_cell? _ _ hw105_0; first | rwa [add_block] at this | exact this) GW108.out)) | (show (Addr.add _ _).block ≠ _; rw [add_block]; exact Nat.ne_of_lt (Nat.lt_of_lt_of_le (by have := World.block_lt_of_cell? _ _ hw105_0; first | rwa [add_block] at this | exact this) GW108.out)) | (dsimp only; exact Nat.ne_of_lt (Nat.lt_of_lt_of_le (by have := World.block_lt_of_cell? _ _ hw105_0; first | rwa [add_block] at this | exact this) GW108.out))) _).trans (((cell_far (p := ⟨gb108, _, none⟩) (by first | exact Nat.ne_of_lt (Nat.lt_of_lt_of_le (by have := World.block_lt_of_cell? _ _ hw105_0; first | rwa [add_block] at this | exact this) GW108.out) | (rw [add_block]; exact Nat.ne_of_lt (Nat.lt_of_lt_of_le (by have := World.block_lt_of_cell? _ _ hw105_0; first | rwa [add_block] at this | exact this) GW108.out)) | (show (Addr.add _ _).block ≠ _; rw [add_block]; exact Nat.ne_of_lt (Nat.lt_of_lt_of_le (by have := World.block_lt_of_cell? _ _ hw105_0; first | rwa [add_block] at this | exact this) GW108.out)) | (dsimp only; exact Nat.ne_of_lt (Nat.lt_of_lt_of_le (by have := World.block_lt_of_cell? _ _ hw105_0; first | rwa [add_block] at this | exact this) GW108.out))) _).trans (hHeld.2.2.2.2))))⟩ (fun hHeld => ?_)
   clear hK K
   refine done_ (by kernel_rfl) ?_
   try go_wp2
   go_loopg [9, 10, 11] k (fun kq v9 v10 v11 w' => ∃ (x9_1 : Int) (x10_1 : Int) (x11_1 : Int), v9 = .int .i64 x9_1 ∧ v10 = .int .i64 x10_1 ∧ v11 = .int .i64 x11_1 ∧ Aside0 (walkmillref05_Tight.l0 kq a1 l2 x9_1 x10_1 x11_1 l0_0 l0_1 a0_2 a0_3 t106 t107 = some (r1, r2)) ∧ Aside0 (kq ≤ k) ∧ Aside0 (w'.heap[gb101]? = some (.cells #[(.slice A0_0 l0_0.length c0_0), (.slice A0_1 l0_1.length c0_1), .int .i64 a0_2, .int .i64 a0_3] 25 (0, 0))) ∧ Aside0 (w'.heap[gb108]? = some (.cells #[.int .i64 t106, .int .i64 t107] 36 (0, 0))) ∧ Aside0 (Below w.heap.size w w'))
   case atStart => exact ⟨(0), (0), (1), (by first | rfl | (simp; done) | (simp [*]; done)), (by first | rfl | (simp; done) | (simp [*]; done)), (by first | rfl | (simp; done) | (simp [*]; done)), H', ⟨Nat.le_refl _⟩, ⟨by refine pB ?_; refine blk_far ?_ NB101_108.out _; refine pB ?_; refine blk_far ?_ NB101_108.out _; (with_reducible repeat (first | refine blk_drewN ?_ _ | refine blk_drew ?_ | refine blk_alloc ?_ _)); exact BK101.out⟩, ⟨by refine pB ?_; refine blk_put (cs := #[.int .i64 t106, .int .i64 0]) ?_ 1 _ rfl; refine pB ?_; refine blk_put (cs := #[.int .i64 0, .int .i64 0]) ?_ 0 _ rfl; (with_reducible repeat (first | refine blk_drewN ?_ _ | refine blk_drew ?_ | refine blk_alloc ?_ _)); exact BK108.out⟩, ⟨pE HB⟩⟩
   case round =>
    clear H'
    try clear c1
    try clear p1
    try clear q1
    try clear hx1
    try clear qi1
    try clear c2
    try clear p2
    try clear c3
    try clear c4
    try clear c4b0
    try clear c4b1
    try clear c4b2
    try clear c8
    try clear c8b0
    try clear c8b1
    try clear p10
    try clear q10
    try clear hx10
    try clear qi10
    try clear hx105_0
    try clear p105
    try clear q105
    obtain ⟨x9_1, x10_1, x11_1, rfl, rfl, rfl, HA, HK1, BK101, BK108, HB⟩ := hrel
    cases gk with
    | zero => exact absurd HA.out (by simp [walkmillref05_Tight.l0])
    | succ k1 =>
     have H := HA.out
     clear HA
     simp only [walkmillref05_Tight.l0] at H
     by_cases c17 : x11_1 < (l2.length : Int)
     ·rw [if_pos c17] at H
      have c17b0 : decide (x11_1 < (l2.length : Int)) = true := decide_eq_true c17
      clear c17
      by_cases c18 : 0 ≤ x11_1
      ·rw [if_pos c18] at H
       have c18b0 : decide (0 ≤ x11_1) = true := decide_eq_true c18
       clear c18
       obtain ⟨⟨t110, t111⟩, A19, H⟩ := bi H
       by_cases c20 : t110 > t111
       ·rw [if_pos c20] at H
        have c20b0 : decide (t111 < t110) = true := decide_eq_true c20
        clear c20
        simp only [Option.some.injEq, Prod.mk.injEq] at H
        obtain ⟨rfl, rfl⟩ := H
        try go_wp2
        replace BK101 := Aside0.mk (blk_drew BK101.out)
        replace BK108 := Aside0.mk (blk_drew BK108.out)
        replace HB := Aside0.mk (below_drew1 HB.out)
        have p109 : 0 ≤ (x11_1 : Int) := dT
        have q109 : x11_1 < (l2.length : Int) := dT
        obtain ⟨ad109, e109, hx109_0⟩ := Kd.at_int HR2.out x11_1 p109 q109
        have hw109_0 := hx109_0
        obtain rfl : ad105 = ad109 := (by injection e109)
        replace hx109_0 := cut_ HB hx109_0
        replace p109 := eq_true p109
        replace q109 := eq_true q109
        refine start_ (n := 8) (S := fun w' => w'.cell? ⟨gb101, 0, none⟩ = some (.slice A0_0 l0_0.length c0_0) ∧ w'.cell? ⟨gb101, 1, none⟩ = some (.slice A0_1 l0_1.length c0_1) ∧ w'.cell? ⟨gb101, 2, none⟩ = some (.int .i64 a0_2) ∧ w'.cell? ⟨gb101, 3, none⟩ = some (.int .i64 a0_3) ∧ w'.cell? (ad105.add (x11_1).toNat) = some (.int .i64 (rd l2 x11_1))) (ds := []) #[false, false, false, false, false, false, false, false] (by kernel_rfl) rfl rfl ⟨(blk_cell BK101.out 0).trans rfl, (blk_cell BK101.out 1).trans rfl, (blk_cell BK101.out 2).trans rfl, (blk_cell BK101.out 3).trans rfl, ((HB.out.cell (World.block_lt_of_cell? w _ hw109_0)).trans hw109_0)⟩ (fun hHeld => ?_); refine with_tabW walkmillref05_Tight.tab8 walkmillref05_Tight.bits8 (fun HT_ HW_ => ?_)
        generalize wr.drew = w21 at BK101 BK108 HB hx109_0 hHeld ⊢
        refine pu 1 35 ?_
        refine pu 2 36 ?_
        refine pu 3 37 ?_
        refine tk 0 34 hHeld ?_
        refine tk 4 38 hHeld ?_
        refine join_ (σ := Nat) 1 #[true, true, true, true, true, true, true, false] (fun s_ => [(39, .agg #[.int .i64 t110, .int .i64 t111]), (12, .pointer (some ⟨s_, 0, none⟩))]) (fun s_ w' => (w'.cell? ⟨gb101, 0, none⟩ = some (.slice A0_0 l0_0.length c0_0) ∧ w'.cell? ⟨gb101, 1, none⟩ = some (.slice A0_1 l0_1.length c0_1) ∧ w'.cell? ⟨gb101, 2, none⟩ = some (.int .i64 a0_2) ∧ w'.cell? ⟨gb101, 3, none⟩ = some (.int .i64 a0_3) ∧ w'.cell? (ad105.add (x11_1).toNat) = some (.int .i64 (rd l2 x11_1))) ∧ (w'.heap[gb101]? = some (.cells #[.slice A0_0 l0_0.length c0_0, .slice A0_1 l0_1.length c0_1, .int .i64 a0_2, .int .i64 a0_3] 25 (0, 0))) ∧ (w'.heap[gb108]? = some (.cells #[.int .i64 t106, .int .i64 t107] 36 (0, 0))) ∧ (w'.heap[s_]? = some (.cells #[.int .i64 0, .int .i64 0] 36 (0, 0))) ∧ (w.heap.size ≤ s_) ∧ (w.heap.size ≤ s_) ∧ (gb101 ≠ s_) ∧ (s_ ≠ gb101) ∧ (gb108 ≠ s_) ∧ (s_ ≠ gb108) ∧ (Below w.heap.size w w')) ?_ ?_
        rotate_left
        ·intro hCont
         refine two_ (i := 5) (j := 6) (Ni := some 39) (Nj := some 12) #[true, true, true, true, true, true, false, false] #[true, true, true, true, true, false, true, false] rfl rfl rfl rfl (two_of HT_.out (by kernel_rfl)) (by decide) (by decide) (fun K hK => ?_) (fun K hK => ?_)
         ·skip
          refine gO Tryz.func19 #[.agg #[.slice A0_0 l0_0.length c0_0, .slice A0_1 l0_1.length c0_1, .int .i64 a0_2, .int .i64 a0_3], .int .i64 (rd l2 x11_1)] ?_
          with_reducible refine (walkmillref05_Hangs.calls _ _ l0_0 _ _ l0_1 a0_2 a0_3 (rd l2 x11_1) t110 t111 _ ?side1 ?side2 ?side3 ?side4 A19.out).mono ?_
          (case side1 => exact pC (Kd.C_below HR0_0.out HB.out))
          (case side2 => exact HC0_0.out)
          (case side3 => exact pC (Kd.C_below HR0_1.out HB.out))
          (case side4 => exact HC0_1.out)
          rintro e w22 ⟨rfl, hb⟩
          refine ⟨_, rfl, ?_⟩
          replace BK101 := bb BK101 hb
          replace BK108 := bb BK108 hb
          replace HB := bs HB hb
          (try clear hb)
          (try clear hb2)
          (try clear hk)
          (try clear hi)
          refine hK.out _ _ ⟨(blk_cell BK101.out 0).trans rfl, (blk_cell BK101.out 1).trans rfl, (blk_cell BK101.out 2).trans rfl, (blk_cell BK101.out 3).trans rfl, ((HB.out.cell (World.block_lt_of_cell? w _ hw109_0)).trans hw109_0)⟩ (fun hHeld => ?_)
          clear hK K
          refine norm_ (a' := ?_) ?_ ?_
          rotate_left
          ·show Act.put _ (some 39) _ = _
           simp only [Act.put, List.setIfInBounds_toArray, List.set_cons_zero, List.set_cons_succ, i64_w, i32_w]
           rfl
          refine on 6 (fun K hK => ?_)
          refine box_step ?hg (N := 12) ?hd (cs := #[.int .i64 0, .int .i64 0]) (t := 36) ?hr ?_; (case hd => rfl); (case hg => rfl); (case hr => first | (go_simp; done) | (go_simp; rfl))
          intro gb112 hg w23 hbox hb
          have BK112 := Aside0.mk (hbox)
          have GW112 := gs HB hg
          have GE112 := gs HB hg
          replace HB := bs HB hb
          have NB101_112 := nl BK101 hg
          have NB112_101 := nr BK101 hg
          replace BK101 := bb BK101 hb
          have NB108_112 := nl BK108 hg
          have NB112_108 := nr BK108 hg
          replace BK108 := bb BK108 hb
          clear hb hbox hg
          refine hK.out _ _ ⟨(blk_cell BK101.out 0).trans rfl, (blk_cell BK101.out 1).trans rfl, (blk_cell BK101.out 2).trans rfl, (blk_cell BK101.out 3).trans rfl, ((HB.out.cell (World.block_lt_of_cell? w _ hw109_0)).trans hw109_0)⟩ (fun hHeld => ?_)
          clear hK K
          refine norm_ (a' := ?_) ?_ ?_
          rotate_left
          ·show Act.put _ (some 12) _ = _
           simp only [Act.put, List.setIfInBounds_toArray, List.set_cons_zero, List.set_cons_succ, i64_w, i32_w]
           rfl
          exact norm_ (by simp only [putAll, Act.put, List.setIfInBounds_toArray, List.set_cons_zero, List.set_cons_succ]) (hCont (gb112) _ ⟨hHeld, (pB BK101.out), (pB BK108.out), (pB BK112.out), GW112.out, GE112.out, NB101_112.out, NB112_101.out, NB108_112.out, NB112_108.out, (pE HB)⟩)
         ·skip
          refine box_step ?hg (N := 12) ?hd (cs := #[.int .i64 0, .int .i64 0]) (t := 36) ?hr ?_; (case hd => rfl); (case hg => rfl); (case hr => first | (go_simp; done) | (go_simp; rfl))
          intro gb112 hg w22 hbox hb
          have BK112 := Aside0.mk (hbox)
          have GW112 := gs HB hg
          have GE112 := gs HB hg
          replace HB := bs HB hb
          have NB101_112 := nl BK101 hg
          have NB112_101 := nr BK101 hg
          replace BK101 := bb BK101 hb
          have NB108_112 := nl BK108 hg
          have NB112_108 := nr BK108 hg
          replace BK108 := bb BK108 hb
          clear hb hbox hg
          refine hK.out _ _ ⟨(blk_cell BK101.out 0).trans rfl, (blk_cell BK101.out 1).trans rfl, (blk_cell BK101.out 2).trans rfl, (blk_cell BK101.out 3).trans rfl, ((HB.out.cell (World.block_lt_of_cell? w _ hw109_0)).trans hw109_0)⟩ (fun hHeld => ?_)
          clear hK K
          refine norm_ (a' := ?_) ?_ ?_
          rotate_left
          ·show Act.put _ (some 12) _ = _
           simp only [Act.put, List.setIfInBounds_toArray, List.set_cons_zero, List.set_cons_succ, i64_w, i32_w]
           rfl
          refine on 5 (fun K hK => ?_)
          refine gO Tryz.func19 #[.agg #[.slice A0_0 l0_0.length c0_0, .slice A0_1 l0_1.length c0_1, .int .i64 a0_2, .int .i64 a0_3], .int .i64 (rd l2 x11_1)] ?_
          with_reducible refine (walkmillref05_Hangs.calls _ _ l0_0 _ _ l0_1 a0_2 a0_3 (rd l2 x11_1) t110 t111 _ ?side1 ?side2 ?side3 ?side4 A19.out).mono ?_
          (case side1 => exact pC (Kd.C_below HR0_0.out HB.out))
          (case side2 => exact HC0_0.out)
          (case side3 => exact pC (Kd.C_below HR0_1.out HB.out))
          (case side4 => exact HC0_1.out)
          rintro e w23 ⟨rfl, hb⟩
          refine ⟨_, rfl, ?_⟩
          replace BK101 := bb BK101 hb
          replace BK108 := bb BK108 hb
          replace BK112 := bb BK112 hb
          replace HB := bs HB hb
          (try clear hb)
          (try clear hb2)
          (try clear hk)
          (try clear hi)
          refine hK.out _ _ ⟨(blk_cell BK101.out 0).trans rfl, (blk_cell BK101.out 1).trans rfl, (blk_cell BK101.out 2).trans rfl, (blk_cell BK101.out 3).trans rfl, ((HB.out.cell (World.block_lt_of_cell? w _ hw109_0)).trans hw109_0)⟩ (fun hHeld => ?_)
          clear hK K
          refine norm_ (a' := ?_) ?_ ?_
          rotate_left
          ·show Act.put _ (some 39) _ = _
           simp only [Act.put, List.setIfInBounds_toArray, List.set_cons_zero, List.set_cons_succ, i64_w, i32_w]
           rfl
          exact norm_ (by simp only [putAll, Act.put, List.setIfInBounds_toArray, List.set_cons_zero, List.set_cons_succ]) (hCont (gb112) _ ⟨hHeld, (pB BK101.out), (pB BK108.out), (pB BK112.out), GW112.out, GE112.out, NB101_112.out, NB112_101.out, NB108_112.out, NB112_108.out, (pE HB)⟩)
        rintro gb112 w24 ⟨hS_, h0_, h1_, h2_, h3_, h4_, h5_, h6_, h7_, h8_, h9_⟩
        have n0_ : Aside0 (w24.heap[gb101]? = some (.cells #[.slice A0_0 l0_0.length c0_0, .slice A0_1 l0_1.length c0_1, .int .i64 a0_2, .int .i64 a0_3] 25 (0, 0))) := ⟨h0_⟩
        have n1_ : Aside0 (w24.heap[gb108]? = some (.cells #[.int .i64 t106, .int .i64 t107] 36 (0, 0))) := ⟨h1_⟩
        have n2_ : Aside0 (w24.heap[gb112]? = some (.cells #[.int .i64 0, .int .i64 0] 36 (0, 0))) := ⟨h2_⟩
        have n3_ : Aside0 (w.heap.size ≤ gb112) := ⟨h3_⟩
        have n4_ : Aside0 (w.heap.size ≤ gb112) := ⟨h4_⟩
        have n5_ : Aside0 (gb101 ≠ gb112) := ⟨h5_⟩
        have n6_ : Aside0 (gb112 ≠ gb101) := ⟨h6_⟩
        have n7_ : Aside0 (gb108 ≠ gb112) := ⟨h7_⟩
        have n8_ : Aside0 (gb112 ≠ gb108) := ⟨h8_⟩
        have n9_ : Aside0 (Below w.heap.size w w24) := ⟨h9_⟩
        clear BK101 BK108 HB h0_ h1_ h2_ h3_ h4_ h5_ h6_ h7_ h8_ h9_
        have BK101 := n0_
        have BK108 := n1_
        have BK112 := n2_
        have GW112 := n3_
        have GE112 := n4_
        have NB101_112 := n5_
        have NB112_101 := n6_
        have NB108_112 := n7_
        have NB112_108 := n8_
        have HB := n9_
        clear n0_ n1_ n2_ n3_ n4_ n5_ n6_ n7_ n8_ n9_
        have hHeld : w24.cell? ⟨gb101, 0, none⟩ = some (.slice A0_0 l0_0.length c0_0) ∧ w24.cell? ⟨gb101, 1, none⟩ = some (.slice A0_1 l0_1.length c0_1) ∧ w24.cell? ⟨gb101, 2, none⟩ = some (.int .i64 a0_2) ∧ w24.cell? ⟨gb101, 3, none⟩ = some (.int .i64 a0_3) ∧ w24.cell? (ad105.add (x11_1).toNat) = some (.int .i64 (rd l2 x11_1)) := hS_
        refine norm_ (a' := ?_) ?_ ?_
        rotate_left
        ·simp only [putAll, Act.put, List.setIfInBounds_toArray, List.set_cons_zero, List.set_cons_succ]
         rfl
        refine on 7 (fun K hK => ?_)
        have hs25 : w24.cell? ⟨gb112, 0, none⟩ = some (.int .i64 0) := (blk_cell BK112.out 0).trans rfl
        have hfs25 := blk_frozen BK112.out 0
        have hns25_0 := NB101_112.out
        have hns25_1 := NB108_112.out
        have hms25_0 := NB112_101.out
        have hms25_1 := NB112_108.out
        have hs26 : w24.cell? ⟨gb112, 1, none⟩ = some (.int .i64 0) := (blk_cell BK112.out 1).trans rfl
        have hfs26 := blk_frozen BK112.out 1
        have hns26_0 := NB101_112.out
        have hns26_1 := NB108_112.out
        have hms26_0 := NB112_101.out
        have hms26_1 := NB112_108.out
        refine skip_ (w1 := ?_) (by rfl) rfl ?_ ?_
        rotate_left
        ·go_simp
         rfl
        refine hK.out _ _ ⟨((cell_far (p := ⟨gb112, _, none⟩) NB101_112.out _).trans (((cell_far (p := ⟨gb112, _, none⟩) NB101_112.out _).trans (hHeld.1)))), ((cell_far (p := ⟨gb112, _, none⟩) NB101_112.out _).trans (((cell_far (p := ⟨gb112, _, none⟩) NB101_112.out _).trans (hHeld.2.1)))), ((cell_far (p := ⟨gb112, _, none⟩) NB101_112.out _).trans (((cell_far (p := ⟨gb112, _, none⟩) NB101_112.out _).trans (hHeld.2.2.1)))), ((cell_far (p := ⟨gb112, _, none⟩) NB101_112.out _).trans (((cell_far (p := ⟨gb112, _, none⟩) NB101_112.out _).trans (hHeld.2.2.2.1)))), ((cell_far (p := ⟨gb112, _, none⟩) (by first | exact Nat.ne_of_lt (Nat.lt_of_lt_of_le (by have := World.block_lt_of_cell? _ _ hw109_0; first | rwa [add_block] at this | exact this) GW112.out) | (rw [add_block]; exact Nat.ne_of_lt (Nat.lt_of_lt_of_le (by have := World.block_lt_of_cell? _ _ hw109_0; first | rwa [add_block] at this | exact this) GW112.out)) | (show (Addr.add _ _).block ≠ _; rw [add_block]; exact Nat.ne_of_lt (Nat.lt_of_lt_of_le (by have := World.block_lt_of_cell? _ _ hw109_0; first | rwa [add_block] at this | exact this) GW112.out)) | (dsimp only; exact Nat.ne_of_lt (Nat.lt_of_lt_of_le (by have := World.block_lt_of_cell? _ _ hw109_0; first | rwa [add_block] at this | exact this) GW112.out))) _).trans (((cell_far (p := ⟨gb112, _, none⟩) (by first | exact Nat.ne_of_lt (Nat.lt_of_lt_of_le (by have := World.block_lt_of_cell? _ _ hw109_0; first | rwa [add_block] at this | exact this) GW112.out) | (rw [add_block]; exact Nat.ne_of_lt (Nat.lt_of_lt_of_le (by have := World.block_lt_of_cell? _ _ hw109_0; first | rwa [add_block] at this | exact this) GW112.out)) | (show (Addr.add _ _).block ≠ _; rw [add_block]; exact Nat.ne_of_lt (Nat.lt_of_lt_of_le (by have := World.block_lt_of_cell? _ _ hw109_0; first | rwa [add_block] at this | exact this) GW112.out)) | (dsimp only; exact Nat.ne_of_lt (Nat.lt_of_lt_of_le (by have := World.block_lt_of_cell? _ _ hw109_0; first | rwa [add_block] at this | exact this) GW112.out))) _).trans (hHeld.2.2.2.2))))⟩ (fun hHeld => ?_)
        clear hK K
        refine done_ (done_of HT_.out (by kernel_rfl)) ?_
        have hnb27 := NB112_101.out
        have hnc27 := NB101_112.out
        have hnb28 := NB112_108.out
        have hnc28 := NB108_112.out
        obtain ⟨hcz29_0, hcz29_1, hfz29_0, hfz29_1⟩ := cf2 BK112
        try go_wp2
        go_ret2
        exact ⟨_, eT, by first | exact Kd.R_nil _ _ _ _ _ | exact Kd.N_nil _ _ _ _ _ | exact Kd.V_nil _ _ _ _ _ | exact Kd.Q_nil _ _ _ _ _ | exact Kd.S_nil _ _ _ _ _, pE HB⟩
       ·rw [if_neg c20] at H
        have c20b0 : decide (t111 < t110) = false := decide_eq_false c20
        clear c20
        have H' := Aside0.mk H
        clear H
        try go_wp2
        replace BK101 := Aside0.mk (blk_drew BK101.out)
        replace BK108 := Aside0.mk (blk_drew BK108.out)
        replace HB := Aside0.mk (below_drew1 HB.out)
        have p109 : 0 ≤ (x11_1 : Int) := dT
        have q109 : x11_1 < (l2.length : Int) := dT
        obtain ⟨ad109, e109, hx109_0⟩ := Kd.at_int HR2.out x11_1 p109 q109
        have hw109_0 := hx109_0
        obtain rfl : ad105 = ad109 := (by injection e109)
        replace hx109_0 := cut_ HB hx109_0
        replace p109 := eq_true p109
        replace q109 := eq_true q109
        refine start_ (n := 8) (S := fun w' => w'.cell? ⟨gb101, 0, none⟩ = some (.slice A0_0 l0_0.length c0_0) ∧ w'.cell? ⟨gb101, 1, none⟩ = some (.slice A0_1 l0_1.length c0_1) ∧ w'.cell? ⟨gb101, 2, none⟩ = some (.int .i64 a0_2) ∧ w'.cell? ⟨gb101, 3, none⟩ = some (.int .i64 a0_3) ∧ w'.cell? (ad105.add (x11_1).toNat) = some (.int .i64 (rd l2 x11_1))) (ds := []) #[false, false, false, false, false, false, false, false] (by kernel_rfl) rfl rfl ⟨(blk_cell BK101.out 0).trans rfl, (blk_cell BK101.out 1).trans rfl, (blk_cell BK101.out 2).trans rfl, (blk_cell BK101.out 3).trans rfl, ((HB.out.cell (World.block_lt_of_cell? w _ hw109_0)).trans hw109_0)⟩ (fun hHeld => ?_); refine with_tabW walkmillref05_Tight.tab8 walkmillref05_Tight.bits8 (fun HT_ HW_ => ?_)
        generalize wr.drew = w30 at BK101 BK108 HB hx109_0 hHeld ⊢
        refine pu 1 35 ?_
        refine pu 2 36 ?_
        refine pu 3 37 ?_
        refine tk 0 34 hHeld ?_
        refine tk 4 38 hHeld ?_
        refine join_ (σ := Nat) 1 #[true, true, true, true, true, true, true, false] (fun s_ => [(39, .agg #[.int .i64 t110, .int .i64 t111]), (12, .pointer (some ⟨s_, 0, none⟩))]) (fun s_ w' => (w'.cell? ⟨gb101, 0, none⟩ = some (.slice A0_0 l0_0.length c0_0) ∧ w'.cell? ⟨gb101, 1, none⟩ = some (.slice A0_1 l0_1.length c0_1) ∧ w'.cell? ⟨gb101, 2, none⟩ = some (.int .i64 a0_2) ∧ w'.cell? ⟨gb101, 3, none⟩ = some (.int .i64 a0_3) ∧ w'.cell? (ad105.add (x11_1).toNat) = some (.int .i64 (rd l2 x11_1))) ∧ (w'.heap[gb101]? = some (.cells #[.slice A0_0 l0_0.length c0_0, .slice A0_1 l0_1.length c0_1, .int .i64 a0_2, .int .i64 a0_3] 25 (0, 0))) ∧ (w'.heap[gb108]? = some (.cells #[.int .i64 t106, .int .i64 t107] 36 (0, 0))) ∧ (w'.heap[s_]? = some (.cells #[.int .i64 0, .int .i64 0] 36 (0, 0))) ∧ (w.heap.size ≤ s_) ∧ (w.heap.size ≤ s_) ∧ (gb101 ≠ s_) ∧ (s_ ≠ gb101) ∧ (gb108 ≠ s_) ∧ (s_ ≠ gb108) ∧ (Below w.heap.size w w')) ?_ ?_
        rotate_left
        ·intro hCont
         refine two_ (i := 5) (j := 6) (Ni := some 39) (Nj := some 12) #[true, true, true, true, true, true, false, false] #[true, true, true, true, true, false, true, false] rfl rfl rfl rfl (two_of HT_.out (by kernel_rfl)) (by decide) (by decide) (fun K hK => ?_) (fun K hK => ?_)
         ·skip
          refine gO Tryz.func19 #[.agg #[.slice A0_0 l0_0.length c0_0, .slice A0_1 l0_1.length c0_1, .int .i64 a0_2, .int .i64 a0_3], .int .i64 (rd l2 x11_1)] ?_
          with_reducible refine (walkmillref05_Hangs.calls _ _ l0_0 _ _ l0_1 a0_2 a0_3 (rd l2 x11_1) t110 t111 _ ?side1 ?side2 ?side3 ?side4 A19.out).mono ?_
          (case side1 => exact pC (Kd.C_below HR0_0.out HB.out))
          (case side2 => exact HC0_0.out)
          (case side3 => exact pC (Kd.C_below HR0_1.out HB.out))
          (case side4 => exact HC0_1.out)
          rintro e w31 ⟨rfl, hb⟩
          refine ⟨_, rfl, ?_⟩
          replace BK101 := bb BK101 hb
          replace BK108 := bb BK108 hb
          replace HB := bs HB hb
          (try clear hb)
          (try clear hb2)
          (try clear hk)
          (try clear hi)
          refine hK.out _ _ ⟨(blk_cell BK101.out 0).trans rfl, (blk_cell BK101.out 1).trans rfl, (blk_cell BK101.out 2).trans rfl, (blk_cell BK101.out 3).trans rfl, ((HB.out.cell (World.block_lt_of_cell? w _ hw109_0)).trans hw109_0)⟩ (fun hHeld => ?_)
          clear hK K
          refine norm_ (a' := ?_) ?_ ?_
          rotate_left
          ·show Act.put _ (some 39) _ = _
           simp only [Act.put, List.setIfInBounds_toArray, List.set_cons_zero, List.set_cons_succ, i64_w, i32_w]
           rfl
          refine on 6 (fun K hK => ?_)
          refine box_step ?hg (N := 12) ?hd (cs := #[.int .i64 0, .int .i64 0]) (t := 36) ?hr ?_; (case hd => rfl); (case hg => rfl); (case hr => first | (go_simp; done) | (go_simp; rfl))
          intro gb112 hg w32 hbox hb
          have BK112 := Aside0.mk (hbox)
          have GW112 := gs HB hg
          have GE112 := gs HB hg
          replace HB := bs HB hb
          have NB101_112 := nl BK101 hg
          have NB112_101 := nr BK101 hg
          replace BK101 := bb BK101 hb
          have NB108_112 := nl BK108 hg
          have NB112_108 := nr BK108 hg
          replace BK108 := bb BK108 hb
          clear hb hbox hg
          refine hK.out _ _ ⟨(blk_cell BK101.out 0).trans rfl, (blk_cell BK101.out 1).trans rfl, (blk_cell BK101.out 2).trans rfl, (blk_cell BK101.out 3).trans rfl, ((HB.out.cell (World.block_lt_of_cell? w _ hw109_0)).trans hw109_0)⟩ (fun hHeld => ?_)
          clear hK K
          refine norm_ (a' := ?_) ?_ ?_
          rotate_left
          ·show Act.put _ (some 12) _ = _
           simp only [Act.put, List.setIfInBounds_toArray, List.set_cons_zero, List.set_cons_succ, i64_w, i32_w]
           rfl
          exact norm_ (by simp only [putAll, Act.put, List.setIfInBounds_toArray, List.set_cons_zero, List.set_cons_succ]) (hCont (gb112) _ ⟨hHeld, (pB BK101.out), (pB BK108.out), (pB BK112.out), GW112.out, GE112.out, NB101_112.out, NB112_101.out, NB108_112.out, NB112_108.out, (pE HB)⟩)
         ·skip
          refine box_step ?hg (N := 12) ?hd (cs := #[.int .i64 0, .int .i64 0]) (t := 36) ?hr ?_; (case hd => rfl); (case hg => rfl); (case hr => first | (go_simp; done) | (go_simp; rfl))
          intro gb112 hg w31 hbox hb
          have BK112 := Aside0.mk (hbox)
          have GW112 := gs HB hg
          have GE112 := gs HB hg
          replace HB := bs HB hb
          have NB101_112 := nl BK101 hg
          have NB112_101 := nr BK101 hg
          replace BK101 := bb BK101 hb
          have NB108_112 := nl BK108 hg
          have NB112_108 := nr BK108 hg
          replace BK108 := bb BK108 hb
          clear hb hbox hg
          refine hK.out _ _ ⟨(blk_cell BK101.out 0).trans rfl, (blk_cell BK101.out 1).trans rfl, (blk_cell BK101.out 2).trans rfl, (blk_cell BK101.out 3).trans rfl, ((HB.out.cell (World.block_lt_of_cell? w _ hw109_0)).trans hw109_0)⟩ (fun hHeld => ?_)
          clear hK K
          refine norm_ (a' := ?_) ?_ ?_
          rotate_left
          ·show Act.put _ (some 12) _ = _
           simp only [Act.put, List.setIfInBounds_toArray, List.set_cons_zero, List.set_cons_succ, i64_w, i32_w]
           rfl
          refine on 5 (fun K hK => ?_)
          refine gO Tryz.func19 #[.agg #[.slice A0_0 l0_0.length c0_0, .slice A0_1 l0_1.length c0_1, .int .i64 a0_2, .int .i64 a0_3], .int .i64 (rd l2 x11_1)] ?_
          with_reducible refine (walkmillref05_Hangs.calls _ _ l0_0 _ _ l0_1 a0_2 a0_3 (rd l2 x11_1) t110 t111 _ ?side1 ?side2 ?side3 ?side4 A19.out).mono ?_
          (case side1 => exact pC (Kd.C_below HR0_0.out HB.out))
          (case side2 => exact HC0_0.out)
          (case side3 => exact pC (Kd.C_below HR0_1.out HB.out))
          (case side4 => exact HC0_1.out)
          rintro e w32 ⟨rfl, hb⟩
          refine ⟨_, rfl, ?_⟩
          replace BK101 := bb BK101 hb
          replace BK108 := bb BK108 hb
          replace BK112 := bb BK112 hb
          replace HB := bs HB hb
          (try clear hb)
          (try clear hb2)
          (try clear hk)
          (try clear hi)
          refine hK.out _ _ ⟨(blk_cell BK101.out 0).trans rfl, (blk_cell BK101.out 1).trans rfl, (blk_cell BK101.out 2).trans rfl, (blk_cell BK101.out 3).trans rfl, ((HB.out.cell (World.block_lt_of_cell? w _ hw109_0)).trans hw109_0)⟩ (fun hHeld => ?_)
          clear hK K
          refine norm_ (a' := ?_) ?_ ?_
          rotate_left
          ·show Act.put _ (some 39) _ = _
           simp only [Act.put, List.setIfInBounds_toArray, List.set_cons_zero, List.set_cons_succ, i64_w, i32_w]
           rfl
          exact norm_ (by simp only [putAll, Act.put, List.setIfInBounds_toArray, List.set_cons_zero, List.set_cons_succ]) (hCont (gb112) _ ⟨hHeld, (pB BK101.out), (pB BK108.out), (pB BK112.out), GW112.out, GE112.out, NB101_112.out, NB112_101.out, NB108_112.out, NB112_108.out, (pE HB)⟩)
        rintro gb112 w33 ⟨hS_, h0_, h1_, h2_, h3_, h4_, h5_, h6_, h7_, h8_, h9_⟩
        have n0_ : Aside0 (w33.heap[gb101]? = some (.cells #[.slice A0_0 l0_0.length c0_0, .slice A0_1 l0_1.length c0_1, .int .i64 a0_2, .int .i64 a0_3] 25 (0, 0))) := ⟨h0_⟩
        have n1_ : Aside0 (w33.heap[gb108]? = some (.cells #[.int .i64 t106, .int .i64 t107] 36 (0, 0))) := ⟨h1_⟩
        have n2_ : Aside0 (w33.heap[gb112]? = some (.cells #[.int .i64 0, .int .i64 0] 36 (0, 0))) := ⟨h2_⟩
        have n3_ : Aside0 (w.heap.size ≤ gb112) := ⟨h3_⟩
        have n4_ : Aside0 (w.heap.size ≤ gb112) := ⟨h4_⟩
        have n5_ : Aside0 (gb101 ≠ gb112) := ⟨h5_⟩
        have n6_ : Aside0 (gb112 ≠ gb101) := ⟨h6_⟩
        have n7_ : Aside0 (gb108 ≠ gb112) := ⟨h7_⟩
        have n8_ : Aside0 (gb112 ≠ gb108) := ⟨h8_⟩
        have n9_ : Aside0 (Below w.heap.size w w33) := ⟨h9_⟩
        clear BK101 BK108 HB h0_ h1_ h2_ h3_ h4_ h5_ h6_ h7_ h8_ h9_
        have BK101 := n0_
        have BK108 := n1_
        have BK112 := n2_
        have GW112 := n3_
        have GE112 := n4_
        have NB101_112 := n5_
        have NB112_101 := n6_
        have NB108_112 := n7_
        have NB112_108 := n8_
        have HB := n9_
        clear n0_ n1_ n2_ n3_ n4_ n5_ n6_ n7_ n8_ n9_
        have hHeld : w33.cell? ⟨gb101, 0, none⟩ = some (.slice A0_0 l0_0.length c0_0) ∧ w33.cell? ⟨gb101, 1, none⟩ = some (.slice A0_1 l0_1.length c0_1) ∧ w33.cell? ⟨gb101, 2, none⟩ = some (.int .i64 a0_2) ∧ w33.cell? ⟨gb101, 3, none⟩ = some (.int .i64 a0_3) ∧ w33.cell? (ad105.add (x11_1).toNat) = some (.int .i64 (rd l2 x11_1)) := hS_
        refine norm_ (a' := ?_) ?_ ?_
        rotate_left
        ·simp only [putAll, Act.put, List.setIfInBounds_toArray, List.set_cons_zero, List.set_cons_succ]
         rfl
        refine on 7 (fun K hK => ?_)
        have hs34 : w33.cell? ⟨gb112, 0, none⟩ = some (.int .i64 0) := (blk_cell BK112.out 0).trans rfl
        have hfs34 := blk_frozen BK112.out 0
        have hns34_0 := NB101_112.out
        have hns34_1 := NB108_112.out
        have hms34_0 := NB112_101.out
        have hms34_1 := NB112_108.out
        have hs35 : w33.cell? ⟨gb112, 1, none⟩ = some (.int .i64 0) := (blk_cell BK112.out 1).trans rfl
        have hfs35 := blk_frozen BK112.out 1
        have hns35_0 := NB101_112.out
        have hns35_1 := NB108_112.out
        have hms35_0 := NB112_101.out
        have hms35_1 := NB112_108.out
        refine skip_ (w1 := ?_) (by rfl) rfl ?_ ?_
        rotate_left
        ·go_simp
         rfl
        refine hK.out _ _ ⟨((cell_far (p := ⟨gb112, _, none⟩) NB101_112.out _).trans (((cell_far (p := ⟨gb112, _, none⟩) NB101_112.out _).trans (hHeld.1)))), ((cell_far (p := ⟨gb112, _, none⟩) NB101_112.out _).trans (((cell_far (p := ⟨gb112, _, none⟩) NB101_112.out _).trans (hHeld.2.1)))), ((cell_far (p := ⟨gb112, _, none⟩) NB101_112.out _).trans (((cell_far (p := ⟨gb112, _, none⟩) NB101_112.out _).trans (hHeld.2.2.1)))), ((cell_far (p := ⟨gb112, _, none⟩) NB101_112.out _).trans (((cell_far (p := ⟨gb112, _, none⟩) NB101_112.out _).trans (hHeld.2.2.2.1)))), ((cell_far (p := ⟨gb112, _, none⟩) (by first | exact Nat.ne_of_lt (Nat.lt_of_lt_of_le (by have := World.block_lt_of_cell? _ _ hw109_0; first | rwa [add_block] at this | exact this) GW112.out) | (rw [add_block]; exact Nat.ne_of_lt (Nat.lt_of_lt_of_le (by have := World.block_lt_of_cell? _ _ hw109_0; first | rwa [add_block] at this | exact this) GW112.out)) | (show (Addr.add _ _).block ≠ _; rw [add_block]; exact Nat.ne_of_lt (Nat.lt_of_lt_of_le (by have := World.block_lt_of_cell? _ _ hw109_0; first | rwa [add_block] at this | exact this) GW112.out)) | (dsimp only; exact Nat.ne_of_lt (Nat.lt_of_lt_of_le (by have := World.block_lt_of_cell? _ _ hw109_0; first | rwa [add_block] at this | exact this) GW112.out))) _).trans (((cell_far (p := ⟨gb112, _, none⟩) (by first | exact Nat.ne_of_lt (Nat.lt_of_lt_of_le (by have := World.block_lt_of_cell? _ _ hw109_0; first | rwa [add_block] at this | exact this) GW112.out) | (rw [add_block]; exact Nat.ne_of_lt (Nat.lt_of_lt_of_le (by have := World.block_lt_of_cell? _ _ hw109_0; first | rwa [add_block] at this | exact this) GW112.out)) | (show (Addr.add _ _).block ≠ _; rw [add_block]; exact Nat.ne_of_lt (Nat.lt_of_lt_of_le (by have := World.block_lt_of_cell? _ _ hw109_0; first | rwa [add_block] at this | exact this) GW112.out)) | (dsimp only; exact Nat.ne_of_lt (Nat.lt_of_lt_of_le (by have := World.block_lt_of_cell? _ _ hw109_0; first | rwa [add_block] at this | exact this) GW112.out))) _).trans (hHeld.2.2.2.2))))⟩ (fun hHeld => ?_)
        clear hK K
        refine done_ (done_of HT_.out (by kernel_rfl)) ?_
        have hnb36 := NB112_101.out
        have hnc36 := NB101_112.out
        have hnb37 := NB112_108.out
        have hnc37 := NB108_112.out
        obtain ⟨hcz38_0, hcz38_1, hfz38_0, hfz38_1⟩ := cf2 BK112
        try go_wp2
        have n0_ : Aside0 (((w33.setCell ⟨gb112, 0, none⟩ (.int .i64 t110)).setCell ⟨gb112, 1, none⟩ (.int .i64 t111)).heap[gb101]? = some (.cells #[.slice A0_0 l0_0.length c0_0, .slice A0_1 l0_1.length c0_1, .int .i64 a0_2, .int .i64 a0_3] 25 (0, 0))) := ⟨by refine pB ?_; refine blk_far ?_ NB101_112.out _; refine pB ?_; refine blk_far ?_ NB101_112.out _; (with_reducible repeat (first | refine blk_drewN ?_ _ | refine blk_drew ?_ | refine blk_alloc ?_ _)); exact BK101.out⟩
        have n1_ : Aside0 (((w33.setCell ⟨gb112, 0, none⟩ (.int .i64 t110)).setCell ⟨gb112, 1, none⟩ (.int .i64 t111)).heap[gb108]? = some (.cells #[.int .i64 t106, .int .i64 t107] 36 (0, 0))) := ⟨by refine pB ?_; refine blk_far ?_ NB108_112.out _; refine pB ?_; refine blk_far ?_ NB108_112.out _; (with_reducible repeat (first | refine blk_drewN ?_ _ | refine blk_drew ?_ | refine blk_alloc ?_ _)); exact BK108.out⟩
        have n2_ : Aside0 (((w33.setCell ⟨gb112, 0, none⟩ (.int .i64 t110)).setCell ⟨gb112, 1, none⟩ (.int .i64 t111)).heap[gb112]? = some (.cells #[.int .i64 t110, .int .i64 t111] 36 (0, 0))) := ⟨by refine pB ?_; refine blk_put (cs := #[.int .i64 t110, .int .i64 0]) ?_ 1 _ rfl; refine pB ?_; refine blk_put (cs := #[.int .i64 0, .int .i64 0]) ?_ 0 _ rfl; (with_reducible repeat (first | refine blk_drewN ?_ _ | refine blk_drew ?_ | refine blk_alloc ?_ _)); exact BK112.out⟩
        have n3_ : Aside0 (Below w.heap.size w ((w33.setCell ⟨gb112, 0, none⟩ (.int .i64 t110)).setCell ⟨gb112, 1, none⟩ (.int .i64 t111))) := ⟨pE HB⟩
        (try clear BK101)
        (try clear BK108)
        (try clear BK112)
        (try clear HB)
        generalize ((w33.setCell ⟨gb112, 0, none⟩ (.int .i64 t110)).setCell ⟨gb112, 1, none⟩ (.int .i64 t111)) = w39 at n0_ n1_ n2_ n3_ ⊢
        have BK101 := n0_
        have BK108 := n1_
        have BK112 := n2_
        have HB := n3_
        clear n0_ n1_ n2_ n3_
        replace BK101 := Aside0.mk (blk_drew BK101.out)
        replace BK108 := Aside0.mk (blk_drew BK108.out)
        replace BK112 := Aside0.mk (blk_drew BK112.out)
        replace HB := Aside0.mk (below_drew1 HB.out)
        refine start_ (n := 16) (S := fun w' => w'.cell? ⟨gb101, 0, none⟩ = some (.slice A0_0 l0_0.length c0_0) ∧ w'.cell? ⟨gb101, 1, none⟩ = some (.slice A0_1 l0_1.length c0_1) ∧ w'.cell? ⟨gb101, 2, none⟩ = some (.int .i64 a0_2) ∧ w'.cell? ⟨gb101, 3, none⟩ = some (.int .i64 a0_3) ∧ w'.cell? ⟨gb112, 0, none⟩ = some (.int .i64 t110) ∧ w'.cell? ⟨gb112, 1, none⟩ = some (.int .i64 t111)) (ds := []) #[false, false, false, false, false, false, false, false, false, false, false, false, false, false, false, false] (by kernel_rfl) rfl rfl ⟨(blk_cell BK101.out 0).trans rfl, (blk_cell BK101.out 1).trans rfl, (blk_cell BK101.out 2).trans rfl, (blk_cell BK101.out 3).trans rfl, (blk_cell BK112.out 0).trans rfl, (blk_cell BK112.out 1).trans rfl⟩ (fun hHeld => ?_); refine with_tabW walkmillref05_Tight.tab11 walkmillref05_Tight.bits11 (fun HT_ HW_ => ?_)
        generalize w39.drew = w40 at BK101 BK108 BK112 HB hHeld ⊢
        refine pu 0 45 ?_
        refine pu 1 46 ?_
        refine pu 4 49 ?_
        refine pu 7 52 ?_
        refine pu 8 53 ?_
        refine pu 11 56 ?_
        refine tk 2 47 hHeld ?_
        refine pu 3 48 ?_
        refine tk 5 50 hHeld ?_
        refine pu 6 51 ?_
        refine pu 14 9 ?_
        refine tk 9 54 hHeld ?_
        refine pu 10 55 ?_
        refine tk 12 57 hHeld ?_
        refine pu 13 58 ?_
        refine pu 15 10 ?_
        refine done_ (done_of HT_.out (by kernel_rfl)) ?_
        try go_wp2
        go_roundg k1
        case measure => have := HK1.out; omega
        case rel => exact ⟨(wrap64 ((wrap64 (x9_1 + a0_2)) + t110)), (wrap64 ((wrap64 (x10_1 + a0_2)) + t111)), (wrap64 (x11_1 + 1)), (by first | rfl | (simp; done) | (simp [*]; done)), (by first | rfl | (simp; done) | (simp [*]; done)), (by first | rfl | (simp; done) | (simp [*]; done)), H', ⟨by have := HK1.out; omega⟩, ⟨by (with_reducible repeat (first | refine blk_drewN ?_ _ | refine blk_drew ?_ | refine blk_alloc ?_ _)); exact BK101.out⟩, ⟨by (with_reducible repeat (first | refine blk_drewN ?_ _ | refine blk_drew ?_ | refine blk_alloc ?_ _)); exact BK108.out⟩, ⟨pE HB⟩⟩
      ·rw [if_neg c18] at H
       exact absurd H (by simp)
     ·rw [if_neg c17] at H
      have c17b0 : decide (x11_1 < (l2.length : Int)) = false := decide_eq_false c17
      clear c17
      have H' := Aside0.mk H
      clear H
      have hnb41 := NB108_101.out
      have hnc41 := NB101_108.out
      obtain ⟨hcz42_0, hcz42_1, hfz42_0, hfz42_1⟩ := cf2 BK108
      go_wp2
      go_loopg [13] k1 (fun kq v13 w' => ∃ (x13_2 : Int), v13 = .int .i64 x13_2 ∧ Aside0 (walkmillref05_Tight.l1 kq a1 l2 x9_1 x10_1 x13_2 l0_0 l0_1 a0_2 a0_3 t106 t107 = some (r1, r2)) ∧ Aside0 (kq ≤ k1) ∧ Aside0 (w'.heap[gb101]? = some (.cells #[(.slice A0_0 l0_0.length c0_0), (.slice A0_1 l0_1.length c0_1), .int .i64 a0_2, .int .i64 a0_3] 25 (0, 0))) ∧ Aside0 (w'.heap[gb108]? = some (.cells #[.int .i64 t106, .int .i64 t107] 36 (0, 0))) ∧ Aside0 (Below w.heap.size w w'))
      case atStart => exact ⟨(t106), (by first | rfl | (simp; done) | (simp [*]; done)), H', ⟨Nat.le_refl _⟩, ⟨by (with_reducible repeat (first | refine blk_drewN ?_ _ | refine blk_drew ?_ | refine blk_alloc ?_ _)); exact BK101.out⟩, ⟨by (with_reducible repeat (first | refine blk_drewN ?_ _ | refine blk_drew ?_ | refine blk_alloc ?_ _)); exact BK108.out⟩, ⟨pE HB⟩⟩
      case round =>
       clear H'
       try clear c1
       try clear p1
       try clear q1
       try clear hx1
       try clear c2
       try clear p2
       try clear c3
       try clear c4
       try clear p6
       try clear p10
       try clear q10
       try clear hx10
       try clear c17
       try clear c17b0
       try clear c18
       try clear c19
       try clear c20
       try clear c20b0
       try clear c27
       try clear c28
       try clear c36
       try clear c37
       try clear c41
       try clear hcz29_0
       try clear hcz29_1
       try clear hcz38_0
       try clear hcz38_1
       try clear hcz42_0
       try clear hcz42_1
       try clear hfz29_0
       try clear hfz29_1
       try clear hfz38_0
       try clear hfz38_1
       try clear hfz42_0
       try clear hfz42_1
       try clear hx109_0
       try clear p109
       try clear q109
       obtain ⟨x13_2, rfl, HA, HK2, BK101, BK108, HB⟩ := hrel
       cases gk with
       | zero => exact absurd HA.out (by simp [walkmillref05_Tight.l1])
       | succ k2 =>
        have H := HA.out
        clear HA
        simp only [walkmillref05_Tight.l1] at H
        by_cases c43 : x13_2 ≤ t107
        ·rw [if_pos c43] at H
         have c43b0 : decide (x13_2 ≤ t107) = true := decide_eq_true c43
         clear c43
         obtain ⟨t113, A44, H⟩ := bi H
         by_cases c45 : t113 = true
         ·subst c45
          rw [if_pos rfl] at H
          have HC46 := Aside0.mk H
          clear H
          have hnb47 := NB108_101.out
          have hnc47 := NB101_108.out
          obtain ⟨hcz48_0, hcz48_1, hfz48_0, hfz48_1⟩ := cf2 BK108
          go_upto_if 77 with (first | ((with_reducible refine gc 22 rfl ?_); refine gL 73 Tryz.func22 #[.int .i64 (wrap64 (a1 - x13_2)), .int .i64 x9_1, .int .i64 x10_1] ?_; (with_reducible refine (walkmillref05_In.calls (wrap64 (a1 - x13_2)) x9_1 x10_1 true _ A44.out).mono ?_); rintro e w' ⟨rfl, ⟨nd, rfl⟩⟩; refine ⟨_, rfl, ?_⟩))
          (try simp only [Act.put, List.setIfInBounds_toArray, List.set_cons_zero, List.set_cons_succ])
          go_cut [14] (fun v14 wc => ∃ (kq : Nat) (x14_45 : Int), v14 = .int .i64 x14_45 ∧ Aside0 (walkmillref05_Tight.j2 kq a1 l2 x9_1 x10_1 x13_2 x14_45 l0_0 l0_1 a0_2 a0_3 t106 t107 = some (r1, r2)) ∧ Aside0 (kq ≤ k2) ∧ Aside0 (wc.heap[gb101]? = some (.cells #[(.slice A0_0 l0_0.length c0_0), (.slice A0_1 l0_1.length c0_1), .int .i64 a0_2, .int .i64 a0_3] 25 (0, 0))) ∧ Aside0 (wc.heap[gb108]? = some (.cells #[.int .i64 t106, .int .i64 t107] 36 (0, 0))) ∧ Aside0 (Below w.heap.size w wc))
          case first =>
           have H := HC46.out
           clear HC46
           by_cases c49 : (l2.length : Int) > 1
           ·rw [if_pos c49] at H
            have c49b0 : decide (1 < (l2.length : Int)) = true := decide_eq_true c49
            have c49b1 : decide (1 < l2.length) = true := decide_eq_true (by omega)
            clear c49
            (first | rw [c49b0] | (simp only [i64_w, i32_w]; rw [c49b0]) | skip)
            have H' := Aside0.mk H
            clear H
            have hnb50 := NB101_108.out
            have hnc50 := NB108_101.out
            obtain ⟨hcz51_0, hcz51_1, hcz51_2, hcz51_3, hfz51_0, hfz51_1, hfz51_2, hfz51_3⟩ := cf4 BK101
            go_wp2
            go_meet
            case rel => exact ⟨_, (wrap64 ((wrap64 (a1 - x13_2)) - a0_2)), (by first | rfl | (simp; done) | (simp [*]; done)), H', ⟨by have := HK1.out; have := HK2.out; first | omega | exact Nat.le_refl _⟩, ⟨by (with_reducible repeat (first | refine blk_drewN ?_ _ | refine blk_drew ?_ | refine blk_alloc ?_ _)); exact BK101.out⟩, ⟨by (with_reducible repeat (first | refine blk_drewN ?_ _ | refine blk_drew ?_ | refine blk_alloc ?_ _)); exact BK108.out⟩, ⟨pE HB⟩⟩
           ·rw [if_neg c49] at H
            have c49b0 : decide (1 < (l2.length : Int)) = false := decide_eq_false c49
            have c49b1 : decide (1 < l2.length) = false := decide_eq_false (by omega)
            clear c49
            (first | rw [c49b0] | (simp only [i64_w, i32_w]; rw [c49b0]) | skip)
            have H' := Aside0.mk H
            clear H
            go_wp2
            go_meet
            case rel => exact ⟨_, (wrap64 (a1 - x13_2)), (by first | rfl | (simp; done) | (simp [*]; done)), H', ⟨by have := HK1.out; have := HK2.out; first | omega | exact Nat.le_refl _⟩, ⟨by (with_reducible repeat (first | refine blk_drewN ?_ _ | refine blk_drew ?_ | refine blk_alloc ?_ _)); exact BK101.out⟩, ⟨by (with_reducible repeat (first | refine blk_drewN ?_ _ | refine blk_drew ?_ | refine blk_alloc ?_ _)); exact BK108.out⟩, ⟨pE HB⟩⟩
          case rest =>
           clear HC46
           try clear c1
           try clear p1
           try clear q1
           try clear hx1
           try clear c2
           try clear p2
           try clear c3
           try clear c4
           try clear c5
           try clear p6
           try clear p10
           try clear q10
           try clear hx10
           try clear c17
           try clear c17b0
           try clear c18
           try clear c19
           try clear c20
           try clear c20b0
           try clear c22
           try clear c27
           try clear c28
           try clear c36
           try clear c37
           try clear c41
           try clear c43
           try clear c43b0
           try clear c45
           try clear c47
           try clear c49
           try clear c49b0
           try clear c49b1
           try clear c50
           try clear hcz29_0
           try clear hcz29_1
           try clear hcz38_0
           try clear hcz38_1
           try clear hcz42_0
           try clear hcz42_1
           try clear hcz48_0
           try clear hcz48_1
           try clear hcz51_0
           try clear hcz51_1
           try clear hcz51_2
           try clear hcz51_3
           try clear hfz29_0
           try clear hfz29_1
           try clear hfz38_0
           try clear hfz38_1
           try clear hfz42_0
           try clear hfz42_1
           try clear hfz48_0
           try clear hfz48_1
           try clear hfz51_0
           try clear hfz51_1
           try clear hfz51_2
           try clear hfz51_3
           try clear hx109_0
           try clear p1
           try clear p10
           try clear p109
           try clear p2
           try clear p6
           try clear q1
           try clear q10
           try clear q109
           obtain ⟨kq, x14_45, rfl, HA, HJ45, BK101, BK108, HB⟩ := hcut
           cases kq with
           | zero => exact absurd HA.out (by simp [walkmillref05_Tight.j2])
           | succ kj45 =>
            have H := HA.out
            clear HA
            simp only [walkmillref05_Tight.j2] at H
            by_cases c52 : 1 ≤ (l2.length : Int)
            ·rw [if_pos c52] at H
             have c52b0 := eq_true c52
             have c52b1 : decide (1 ≤ (l2.length : Int)) = true := decide_eq_true c52
             clear c52
             obtain ⟨⟨t115, t118⟩, A53, H⟩ := bi H
             by_cases c54 : t118 = true
             ·subst c54
              rw [if_pos rfl] at H
              obtain ⟨y119, hy119⟩ : ∃ y_ : List Int, y_ = (([x13_2] : List Int)) := ⟨_, rfl⟩
              replace H : (if y119.length + t115.length < 17592186044416 then (some ((y119 ++ t115), true)) else (none)) = some (r1, r2) := yy hy119 H
              have Ny119 := Aside0.mk hy119
              clear hy119
              by_cases c55 : y119.length + t115.length < 17592186044416
              ·rw [if_pos c55] at H
               have LMc55 := Aside0.mk c55
               clear c55
               obtain ⟨y122, hy122⟩ : ∃ y_ : List Int, y_ = (y119 ++ t115) := ⟨_, rfl⟩
               replace H : (some (y122, true)) = some (r1, r2) := yy hy122 H
               have Ny122 := Aside0.mk hy122
               clear hy122
               simp only [Option.some.injEq, Prod.mk.injEq] at H
               obtain ⟨rfl, rfl⟩ := H
               try go_wp2
               replace BK101 := Aside0.mk (blk_drew BK101.out)
               replace BK108 := Aside0.mk (blk_drew BK108.out)
               replace HB := Aside0.mk (below_drew1 HB.out)
               obtain ⟨i057, hi057, _, hsz57, _⟩ := info_parts info3
               obtain ⟨A57, hcut57, hA57, hC57⟩ := print_drop_of (P := Tryz.prog) (Value.int .i64) 0 23 3 .i64 Tryz.underlying23 hi057 hsz57 (some ad105) c2 l2 1 (by omega) (dT) HC2.out
               have HR114 := Aside0.mk (Kd.C_of_reads (h1 := fun _ => rfl) (hA57 _ (Kd.reads_of_C HR2.out)))
               have HC114 := Aside0.mk hC57
               clear hA57 hC57 hi057 hsz57
               refine start_ (n := 10) (S := fun w' => w'.cell? ⟨gb101, 0, none⟩ = some (.slice A0_0 l0_0.length c0_0) ∧ w'.cell? ⟨gb101, 1, none⟩ = some (.slice A0_1 l0_1.length c0_1) ∧ w'.cell? ⟨gb101, 2, none⟩ = some (.int .i64 a0_2) ∧ w'.cell? ⟨gb101, 3, none⟩ = some (.int .i64 a0_3)) (ds := []) #[false, false, false, false, false, false, false, false, false, false] (by kernel_rfl) rfl rfl ⟨(blk_cell BK101.out 0).trans rfl, (blk_cell BK101.out 1).trans rfl, (blk_cell BK101.out 2).trans rfl, (blk_cell BK101.out 3).trans rfl⟩ (fun hHeld => ?_); refine with_tabW walkmillref05_Tight.tab19 walkmillref05_Tight.bits19 (fun HT_ HW_ => ?_)
               generalize wc.drew = w56 at BK101 BK108 HB HR114 hHeld ⊢
               refine pu 1 84 ?_
               refine pu 2 85 ?_
               refine pu 3 86 ?_
               refine tk 0 83 hHeld ?_
               refine on 4 (fun K hK => ?_)
               refine goes_ Tryz.func33 (by kernel_rfl) rfl #[.agg #[.slice A0_0 l0_0.length c0_0, .slice A0_1 l0_1.length c0_1, .int .i64 a0_2, .int .i64 a0_3], .int .i64 x14_45, .slice A57 (l2.drop 1).length (c2 - 1)] (by rfl) rfl rfl (by (try simp only [List.map_toArray, List.map_cons, List.map_nil]); first | done | (rw [show (l2.drop 1).length = (l2.length - 1) from List.length_drop] <;> rfl) | rfl | (simp only [List.length_drop, List.length_take]; rfl)) ?_
               with_reducible refine (ih kj45 (by have := HK1.out; have := HK2.out; have := HJ45.out; omega) _ _ l0_0 _ _ l0_1 a0_2 a0_3 x14_45 _ _ (l2.drop 1) t115 true _ ?side1 ?side2 ?side3 ?side4 ?side5 ?side6 A53.out).mono ?_
               (case side1 => exact pC (Kd.C_below HR0_0.out HB.out))
               (case side2 => exact HC0_0.out)
               (case side3 => exact pC (Kd.C_below HR0_1.out HB.out))
               (case side4 => exact HC0_1.out)
               (case side5 => exact pC (Kd.C_below HR114.out HB.out))
               (case side6 => exact HC114.out)
               rintro e w58 ⟨v116, rfl, ho0, hb⟩
               refine ⟨_, rfl, ?_⟩
               have HO117 := rl ho0 HB
               replace BK101 := bb BK101 hb
               replace BK108 := bb BK108 hb
               replace HB := bs HB hb
               (try clear hb)
               (try clear hb2)
               (try clear hk)
               (try clear hi)
               (try clear ho0)
               refine hK.out _ _ ⟨(blk_cell BK101.out 0).trans rfl, (blk_cell BK101.out 1).trans rfl, (blk_cell BK101.out 2).trans rfl, (blk_cell BK101.out 3).trans rfl⟩ (fun hHeld => ?_)
               clear hK K
               refine norm_ (a' := ?_) ?_ ?_
               rotate_left
               ·show Act.put _ (some 87) _ = _
                simp only [Act.put, List.setIfInBounds_toArray, List.set_cons_zero, List.set_cons_succ, i64_w, i32_w]
                rfl
               refine pu 5 82 ?_
               refine pu 6 88 ?_
               refine pu 7 89 ?_
               refine pu 8 15 ?_
               refine pu 9 16 ?_
               refine done_ (done_of HT_.out (by kernel_rfl)) ?_
               try go_wp2_with (first | ((with_reducible refine gate_dst (N := 92) rfl ?_); refine Kd.R_lit (Kd.int .i64) _ 3 ?hg (N := 92) ?hd (xs := ([x13_2] : List Int)) (inner := [.int .i64 x13_2]) (ok := fun _ => True) (okp := fun _ => True) ?hr ?hp (fun _ hk => hk) trivial (Below.refl _ _) (Nat.le_refl _) (by simp) ?_; (case hd => rfl); (case hg => rfl); (case hr => first | (go_simp; done) | (go_simp; rfl)); (case hp => exact (Reps.one (show Kd.M (Kd.int .i64) _ _ _ x13_2 [.int .i64 x13_2] from rfl) (Reps.none _ _))); intro v120 w59 ho60 hb hg_ hnew_; clear hg_ hnew_; (first | rw [← Ny119.out] at ho60 | (simp only [Int.reduceToNat] at ho60; rw [← Ny119.out] at ho60)); have HO121 := Aside0.mk (Kd.R_lower (Kd.R_new' ho60 (Kd.R_lt (pR HO117.out))) (below_size (pE HB))); replace HO117 := re HO117 ho60 hb; replace BK101 := bb BK101 hb; replace BK108 := bb BK108 hb; replace HB := bs HB hb; clear hb ho60; obtain ⟨Ao62, co62, eo62⟩ := Kd.R_slice HO117.out; subst eo62) | ((with_reducible refine gate_builtin (b := .append) (xs := #[.tmp 92, .tmp 93]) rfl ?_); at_builtin; refine Kd.R_append_rows (Kd.int .i64) (w0 := w) w.heap.size rfl (.tmp 92) (.tmp 93) 23 3 (.int .i64 0) 8 rfl Tryz.underlying23 info3 rfl (by decide) (by omega) v120 y119 t115 _ _ _ (fun k_ => some k_ ≠ (.slice Ao62 t115.length co62 : Value).ownBlock) (fun _ => False) rfl rfl ?aO ?aR (fun _ _ h => h) (fun _ h => h.elim) ?aF ?aB ?aS ?aL ?_; (case aR => exact pC (Kd.R_reads' HO117.out).2.2); (case aB => exact (pE HB)); (case aF => exact (fun k_ hk => Kd.fresh' (Kd.R_lt (pR HO117.out)) k_ hk)); (case aO => exact (by refine pR ?_; exact Kd.R_mono HO121.out (fun _ hk => hk.2))); (case aS => exact (below_size (pE HB))); (case aL => have := LMc55.out; omega); intro v123 w61 ho hb hg hat; rw [← Ny122.out] at ho; replace BK101 := Aside0.mk (blk_grown (g := gb101) (o := .cells #[.slice A0_0 l0_0.length c0_0, .slice A0_1 l0_1.length c0_1, .int .i64 a0_2, .int .i64 a0_3] 25 (0, 0)) (pB BK101.out) hg (Kd.R_ne HO121.out BK101.out (by decide))); replace BK108 := Aside0.mk (blk_grown (g := gb108) (o := .cells #[.int .i64 t106, .int .i64 t107] 36 (0, 0)) (pB BK108.out) hg (Kd.R_ne HO121.out BK108.out (by decide))); replace HO117 := Aside0.mk (Kd.R_after (ok := (fun _ => True)) (pR HO117.out) hg hat); replace HB := Aside0.mk (hb); have HO124 := Aside0.mk (ho); clear HO121; clear ho hb hg hat))
               go_ret2
               exact ⟨_, eT, by (with_reducible repeat (first | apply Kd.R_alloc | apply Kd.R_drewN | apply Kd.R_drew)); exact Kd.R_mono HO124.out (fun _ hk => trivial), pE HB⟩
              ·rw [if_neg c55] at H
               exact absurd H (by simp)
             ·replace c54 := Bool.eq_false_iff.mpr c54
              subst c54
              rw [if_neg (show ¬ (false = true) by decide)] at H
              have H' := Aside0.mk H
              clear H
              try go_wp2
              replace BK101 := Aside0.mk (blk_drew BK101.out)
              replace BK108 := Aside0.mk (blk_drew BK108.out)
              replace HB := Aside0.mk (below_drew1 HB.out)
              obtain ⟨i064, hi064, _, hsz64, _⟩ := info_parts info3
              obtain ⟨A64, hcut64, hA64, hC64⟩ := print_drop_of (P := Tryz.prog) (Value.int .i64) 0 23 3 .i64 Tryz.underlying23 hi064 hsz64 (some ad105) c2 l2 1 (by omega) (dT) HC2.out
              have HR114 := Aside0.mk (Kd.C_of_reads (h1 := fun _ => rfl) (hA64 _ (Kd.reads_of_C HR2.out)))
              have HC114 := Aside0.mk hC64
              clear hA64 hC64 hi064 hsz64
              refine start_ (n := 10) (S := fun w' => w'.cell? ⟨gb101, 0, none⟩ = some (.slice A0_0 l0_0.length c0_0) ∧ w'.cell? ⟨gb101, 1, none⟩ = some (.slice A0_1 l0_1.length c0_1) ∧ w'.cell? ⟨gb101, 2, none⟩ = some (.int .i64 a0_2) ∧ w'.cell? ⟨gb101, 3, none⟩ = some (.int .i64 a0_3)) (ds := []) #[false, false, false, false, false, false, false, false, false, false] (by kernel_rfl) rfl rfl ⟨(blk_cell BK101.out 0).trans rfl, (blk_cell BK101.out 1).trans rfl, (blk_cell BK101.out 2).trans rfl, (blk_cell BK101.out 3).trans rfl⟩ (fun hHeld => ?_); refine with_tabW walkmillref05_Tight.tab19 walkmillref05_Tight.bits19 (fun HT_ HW_ => ?_)
              generalize wc.drew = w63 at BK101 BK108 HB HR114 hHeld ⊢
              refine pu 1 84 ?_
              refine pu 2 85 ?_
              refine pu 3 86 ?_
              refine tk 0 83 hHeld ?_
              refine on 4 (fun K hK => ?_)
              refine goes_ Tryz.func33 (by kernel_rfl) rfl #[.agg #[.slice A0_0 l0_0.length c0_0, .slice A0_1 l0_1.length c0_1, .int .i64 a0_2, .int .i64 a0_3], .int .i64 x14_45, .slice A64 (l2.drop 1).length (c2 - 1)] (by rfl) rfl rfl (by (try simp only [List.map_toArray, List.map_cons, List.map_nil]); first | done | (rw [show (l2.drop 1).length = (l2.length - 1) from List.length_drop] <;> rfl) | rfl | (simp only [List.length_drop, List.length_take]; rfl)) ?_
              with_reducible refine (ih kj45 (by have := HK1.out; have := HK2.out; have := HJ45.out; omega) _ _ l0_0 _ _ l0_1 a0_2 a0_3 x14_45 _ _ (l2.drop 1) t115 false _ ?side1 ?side2 ?side3 ?side4 ?side5 ?side6 A53.out).mono ?_
              (case side1 => exact pC (Kd.C_below HR0_0.out HB.out))
              (case side2 => exact HC0_0.out)
              (case side3 => exact pC (Kd.C_below HR0_1.out HB.out))
              (case side4 => exact HC0_1.out)
              (case side5 => exact pC (Kd.C_below HR114.out HB.out))
              (case side6 => exact HC114.out)
              rintro e w65 ⟨v116, rfl, ho0, hb⟩
              refine ⟨_, rfl, ?_⟩
              have HO117 := rl ho0 HB
              replace BK101 := bb BK101 hb
              replace BK108 := bb BK108 hb
              replace HB := bs HB hb
              (try clear hb)
              (try clear hb2)
              (try clear hk)
              (try clear hi)
              (try clear ho0)
              refine hK.out _ _ ⟨(blk_cell BK101.out 0).trans rfl, (blk_cell BK101.out 1).trans rfl, (blk_cell BK101.out 2).trans rfl, (blk_cell BK101.out 3).trans rfl⟩ (fun hHeld => ?_)
              clear hK K
              refine norm_ (a' := ?_) ?_ ?_
              rotate_left
              ·show Act.put _ (some 87) _ = _
               simp only [Act.put, List.setIfInBounds_toArray, List.set_cons_zero, List.set_cons_succ, i64_w, i32_w]
               rfl
              refine pu 5 82 ?_
              refine pu 6 88 ?_
              refine pu 7 89 ?_
              refine pu 8 15 ?_
              refine pu 9 16 ?_
              refine done_ (done_of HT_.out (by kernel_rfl)) ?_
              try go_wp2
              go_roundg kj45
              case measure => have := HK1.out; have := HK2.out; have := HJ45.out; omega
              case rel => exact ⟨(wrap64 (x13_2 + 1)), (by first | rfl | (simp; done) | (simp [*]; done)), H', ⟨by have := HK1.out; have := HK2.out; have := HJ45.out; omega⟩, ⟨by (with_reducible repeat (first | refine blk_drewN ?_ _ | refine blk_drew ?_ | refine blk_alloc ?_ _)); exact BK101.out⟩, ⟨by (with_reducible repeat (first | refine blk_drewN ?_ _ | refine blk_drew ?_ | refine blk_alloc ?_ _)); exact BK108.out⟩, ⟨pE HB⟩⟩
            ·rw [if_neg c52] at H
             exact absurd H (by simp)
         ·replace c45 := Bool.eq_false_iff.mpr c45
          subst c45
          rw [if_neg (show ¬ (false = true) by decide)] at H
          have H' := Aside0.mk H
          clear H
          have hnb66 := NB108_101.out
          have hnc66 := NB101_108.out
          obtain ⟨_, _, _, _⟩ := cf2 BK108
          go_wp2_with (first | ((with_reducible refine gc 22 rfl ?_); refine gL 73 Tryz.func22 #[.int .i64 (wrap64 (a1 - x13_2)), .int .i64 x9_1, .int .i64 x10_1] ?_; (with_reducible refine (walkmillref05_In.calls (wrap64 (a1 - x13_2)) x9_1 x10_1 false _ A44.out).mono ?_); rintro e w' ⟨rfl, ⟨nd, rfl⟩⟩; refine ⟨_, rfl, ?_⟩))
          go_roundg k2
          case measure => have := HK1.out; have := HK2.out; omega
          case rel => exact ⟨(wrap64 (x13_2 + 1)), (by first | rfl | (simp; done) | (simp [*]; done)), H', ⟨by have := HK1.out; have := HK2.out; omega⟩, ⟨by (with_reducible repeat (first | refine blk_drewN ?_ _ | refine blk_drew ?_ | refine blk_alloc ?_ _)); exact BK101.out⟩, ⟨by (with_reducible repeat (first | refine blk_drewN ?_ _ | refine blk_drew ?_ | refine blk_alloc ?_ _)); exact BK108.out⟩, ⟨pE HB⟩⟩
        ·rw [if_neg c43] at H
         have c43b0 : decide (x13_2 ≤ t107) = false := decide_eq_false c43
         clear c43
         simp only [Option.some.injEq, Prod.mk.injEq] at H
         obtain ⟨rfl, rfl⟩ := H
         have hnb68 := NB108_101.out
         have hnc68 := NB101_108.out
         obtain ⟨_, _, _, _⟩ := cf2 BK108
         go_wp2
         go_ret2
         exact ⟨_, eT, by first | exact Kd.R_nil _ _ _ _ _ | exact Kd.N_nil _ _ _ _ _ | exact Kd.V_nil _ _ _ _ _ | exact Kd.Q_nil _ _ _ _ _ | exact Kd.S_nil _ _ _ _ _, pE HB⟩
  ·rw [if_neg c8] at H
   exact absurd H (by simp)
end Go.Proofs.YtikmfpjcdcckeaaGreatDoor.P
namespace Go.Proofs.YtikmfpjcdcckeaaGreatDoor.D
open Go Go.RowKit
noncomputable section
inductive AV where
  | any
  | lit (v : Value)
  | ptr (b off : Nat)
  | gptr (g off : Nat)
  | slice (b off len : Nat) (cap : Option Nat)
  | empty
  | map (b : Nat)
  | func (fn : Fn) (first captured : List AV)
  | yield (l : Nat)
  | iface (t : TypeId) (v : AV)
  | agg (cs : List AV)
  | tuple (cs : List AV)
  deriving Inhabited
abbrev Phi := Nat → Option (Nat × Nat)
mutual
def VR (φ : Phi) : AV → Value → Prop
  | .any, _ => True
  | .lit v, x => x = v
  | .ptr b o, x => ∃ c m, φ b = some (c, m) ∧ x = .pointer (some ⟨c, o, none⟩)
  | .gptr g o, x => x = .pointer (some ⟨g, o, none⟩)
  | .slice b o n cap, x => ∃ c m k, φ b = some (c, m) ∧ x = .slice (some ⟨c, o, none⟩) n k ∧
      n ≤ k ∧ (∀ k', cap = some k' → k = k') ∧ (cap = none → o = 0 → k = m)
  | .empty, x => ∃ a k, x = .slice (some a) 0 k
  | .map b, x => ∃ c m, φ b = some (c, m) ∧ x = .map (some c)
  | .func fn xs ys, x => ∃ as_ bs : Array Value, x = .func fn as_ bs ∧ VRs φ xs as_.toList ∧ VRs φ ys bs.toList
  | .yield l, x => ∃ c m, φ l = some (c, m) ∧ x = .func (.yield c) #[] #[]
  | .iface t a, x => ∃ y, x = .iface t y ∧ VR φ a y
  | .agg cs, x => ∃ as_ : Array Value, x = .agg as_ ∧ VRs φ cs as_.toList
  | .tuple cs, x => ∃ as_ : Array Value, x = .tuple as_ ∧ VRs φ cs as_.toList
def VRs (φ : Phi) : List AV → List Value → Prop
  | [], l => l = []
  | a :: as_, l => ∃ x xs, l = x :: xs ∧ VR φ a x ∧ VRs φ as_ xs
end
def Phi.le (φ ψ : Phi) : Prop := ∀ b x, φ b = some x → ψ b = some x
theorem Phi.le_refl (φ : Phi) : φ.le φ := fun _ _ h => h
theorem Phi.le_trans {a b c : Phi} (h : a.le b) (k : b.le c) : a.le c := fun x y hx => k x y (h x y hx)
mutual
theorem VR.mono {φ ψ : Phi} (h : φ.le ψ) : ∀ (a : AV) (x : Value), VR φ a x → VR ψ a x
  | .any, _, _ => trivial
  | .lit _, _, hv => hv
  | .ptr _ _, _, ⟨c, m, h1, h2⟩ => ⟨c, m, h _ _ h1, h2⟩
  | .gptr _ _, _, hv => hv
  | .slice _ _ _ _, _, ⟨c, m, k, h1, h2⟩ => ⟨c, m, k, h _ _ h1, h2⟩
  | .empty, _, hv => hv
  | .map _, _, ⟨c, m, h1, h2⟩ => ⟨c, m, h _ _ h1, h2⟩
  | .func _ xs ys, _, ⟨as_, bs, h1, h2, h3⟩ => ⟨as_, bs, h1, VRs.mono h xs _ h2, VRs.mono h ys _ h3⟩
  | .yield _, _, ⟨c, m, h1, h2⟩ => ⟨c, m, h _ _ h1, h2⟩
  | .iface _ a, _, ⟨y, h1, h2⟩ => ⟨y, h1, VR.mono h a y h2⟩
  | .agg cs, _, ⟨as_, h1, h2⟩ => ⟨as_, h1, VRs.mono h cs _ h2⟩
  | .tuple cs, _, ⟨as_, h1, h2⟩ => ⟨as_, h1, VRs.mono h cs _ h2⟩
theorem VRs.mono {φ ψ : Phi} (h : φ.le ψ) : ∀ (as_ : List AV) (l : List Value), VRs φ as_ l → VRs ψ as_ l
  | [], _, hv => hv
  | a :: as_, _, ⟨x, xs, h1, h2, h3⟩ => ⟨x, xs, h1, VR.mono h a x h2, VRs.mono h as_ xs h3⟩
end
theorem VRs.nil {φ : Phi} : VRs φ [] [] := rfl
theorem VRs.cons {φ : Phi} {a : AV} {as_ : List AV} {x : Value} {xs : List Value} (h : VR φ a x) (hs : VRs φ as_ xs) : VRs φ (a :: as_) (x :: xs) := ⟨x, xs, rfl, h, hs⟩
theorem VRs.length {φ : Phi} : ∀ {as_ : List AV} {l : List Value}, VRs φ as_ l → as_.length = l.length
  | [], _, h => by cases h; rfl
  | _ :: _, _, ⟨_, _, h, _, hs⟩ => by subst h; simp [VRs.length hs]
theorem VRs.get {φ : Phi} : ∀ {as_ : List AV} {l : List Value}, VRs φ as_ l → ∀ {i : Nat} {a : AV}, as_[i]? = some a → ∃ x, l[i]? = some x ∧ VR φ a x
  | [], _, _, _, _, h => by simp at h
  | _ :: _, _, ⟨x, xs, h1, h2, h3⟩, 0, a, h => by subst h1; simp at h; subst h; exact ⟨x, by simp, h2⟩
  | _ :: _, _, ⟨x, xs, h1, h2, h3⟩, i + 1, a, h => by subst h1; simp at h; obtain ⟨y, hy⟩ := VRs.get h3 h; exact ⟨y, by simpa using hy⟩
theorem VRs.set {φ : Phi} : ∀ {as_ : List AV} {l : List Value}, VRs φ as_ l → ∀ (i : Nat) {a : AV} {x : Value}, VR φ a x → VRs φ (as_.set i a) (l.set i x)
  | [], _, h, _, _, _, _ => by cases h; exact VRs.nil
  | _ :: _, _, ⟨x, xs, h1, h2, h3⟩, 0, _, _, hv => by subst h1; exact VRs.cons hv h3
  | _ :: _, _, ⟨x, xs, h1, h2, h3⟩, i + 1, _, _, hv => by subst h1; exact VRs.cons h2 (VRs.set h3 i hv)
theorem VRs.append {φ : Phi} : ∀ {as_ : List AV} {l : List Value} {bs : List AV} {k : List Value}, VRs φ as_ l → VRs φ bs k → VRs φ (as_ ++ bs) (l ++ k)
  | [], _, _, _, h, hk => by cases h; exact hk
  | _ :: _, _, _, _, ⟨x, xs, h1, h2, h3⟩, hk => by subst h1; exact VRs.cons h2 (VRs.append h3 hk)
theorem VRs.take {φ : Phi} : ∀ {as_ : List AV} {l : List Value}, VRs φ as_ l → ∀ (n : Nat), VRs φ (as_.take n) (l.take n)
  | [], _, h, n => by cases h; simp [VRs]
  | _ :: _, _, ⟨x, xs, h1, h2, h3⟩, 0 => by simp [VRs]
  | _ :: _, _, ⟨x, xs, h1, h2, h3⟩, n + 1 => by subst h1; exact VRs.cons h2 (VRs.take h3 n)
theorem VRs.drop {φ : Phi} : ∀ {as_ : List AV} {l : List Value}, VRs φ as_ l → ∀ (n : Nat), VRs φ (as_.drop n) (l.drop n)
  | [], _, h, n => by cases h; simp [VRs]
  | _ :: _, _, ⟨x, xs, h1, h2, h3⟩, 0 => by subst h1; exact VRs.cons h2 h3
  | _ :: _, _, ⟨x, xs, h1, h2, h3⟩, n + 1 => by subst h1; exact VRs.drop h3 n
theorem VRs.lits {φ : Phi} : ∀ (l : List Value), VRs φ (l.map .lit) l
  | [] => VRs.nil
  | x :: xs => VRs.cons (show VR φ (.lit x) x from rfl) (VRs.lits xs)
theorem VRs.map_of {α : Type} {φ : Phi} {f : α → AV} {g : α → Value} : ∀ (l : List α), (∀ x ∈ l, VR φ (f x) (g x)) → VRs φ (l.map f) (l.map g)
  | [], _ => VRs.nil
  | x :: xs, h => VRs.cons (h x (by simp)) (VRs.map_of xs fun y hy => h y (by simp [hy]))
mutual
def AV.toV : AV → Option Value
  | .lit v => some v
  | .gptr g o => some (.pointer (some ⟨g, o, none⟩))
  | .iface t a => match a.toV with | some x => some (.iface t x) | none => none
  | .agg cs => match AV.toVs cs with | some l => some (.agg l.toArray) | none => none
  | .tuple cs => match AV.toVs cs with | some l => some (.tuple l.toArray) | none => none
  | _ => none
def AV.toVs : List AV → Option (List Value)
  | [] => some []
  | a :: as_ => match a.toV, AV.toVs as_ with | some x, some xs => some (x :: xs) | _, _ => none
end
mutual
theorem AV.toV_eq {φ : Phi} : ∀ (a : AV) (v x : Value), a.toV = some v → VR φ a x → x = v
  | .any, _, _, h, _ => by simp [AV.toV] at h
  | .lit _, _, _, h, hv => by simp [AV.toV] at h; subst h; exact hv
  | .ptr _ _, _, _, h, _ => by simp [AV.toV] at h
  | .gptr _ _, _, _, h, hv => by simp [AV.toV] at h; subst h; exact hv
  | .slice _ _ _ _, _, _, h, _ => by simp [AV.toV] at h
  | .empty, _, _, h, _ => by simp [AV.toV] at h
  | .map _, _, _, h, _ => by simp [AV.toV] at h
  | .func _ _ _, _, _, h, _ => by simp [AV.toV] at h
  | .yield _, _, _, h, _ => by simp [AV.toV] at h
  | .iface t a, _, _, h, ⟨y, h1, h2⟩ => by
    simp only [AV.toV] at h
    split at h
    · rename_i z hz; cases h; rw [h1, AV.toV_eq a z y hz h2]
    · cases h
  | .agg cs, _, _, h, ⟨as_, h1, h2⟩ => by
    simp only [AV.toV] at h
    split at h
    · rename_i z hz; cases h; rw [h1, ← AV.toVs_eq cs z _ hz h2]
    · cases h
  | .tuple cs, _, _, h, ⟨as_, h1, h2⟩ => by
    simp only [AV.toV] at h
    split at h
    · rename_i z hz; cases h; rw [h1, ← AV.toVs_eq cs z _ hz h2]
    · cases h
theorem AV.toVs_eq {φ : Phi} : ∀ (as_ : List AV) (l k : List Value), AV.toVs as_ = some l → VRs φ as_ k → k = l
  | [], _, _, h, hv => by simp [AV.toVs] at h; subst h; exact hv
  | a :: as_, _, _, h, ⟨x, xs, h1, h2, h3⟩ => by
    simp only [AV.toVs] at h
    split at h
    · rename_i y ys hy hys; cases h; rw [h1, AV.toV_eq a y x hy h2, AV.toVs_eq as_ ys xs hys h3]
    · cases h
end
def AV.view : AV → AV
  | .lit (.agg cs) => .agg (cs.toList.map .lit)
  | .lit (.tuple cs) => .tuple (cs.toList.map .lit)
  | .lit (.iface t v) => .iface t (.lit v)
  | .lit (.func fn a b) => .func fn (a.toList.map .lit) (b.toList.map .lit)
  | a => a
theorem VR.view {φ : Phi} {a : AV} {x : Value} (h : VR φ a x) : VR φ a.view x := by
  unfold AV.view
  split
  · exact ⟨_, h, VRs.lits _⟩
  · exact ⟨_, h, VRs.lits _⟩
  · exact ⟨_, h, rfl⟩
  · exact ⟨_, _, h, VRs.lits _, VRs.lits _⟩
  · exact h
inductive TT where
  | tip
  | node (v : AV) (l r : TT)
def TT.get (t : TT) : Nat → AV :=
  TT.rec (motive := fun _ => Nat → AV) (fun _ => .lit undef)
    (fun v _ _ l r n => Nat.rec (motive := fun _ => AV) v (fun m _ => Nat.rec (motive := fun _ => AV) (l (Nat.div m 2)) (fun _ _ => r (Nat.div m 2)) (Nat.mod m 2)) n) t
def TT.path (d : Nat) : Nat → AV → TT :=
  Nat.rec (motive := fun _ => Nat → AV → TT) (fun _ _ => .tip)
    (fun _ ih n x => Nat.rec (motive := fun _ => TT) (.node x .tip .tip)
      (fun m _ => Nat.rec (motive := fun _ => TT) (.node (.lit undef) (ih (Nat.div m 2) x) .tip) (fun _ _ => .node (.lit undef) .tip (ih (Nat.div m 2) x)) (Nat.mod m 2)) n) d
def TT.set (t : TT) : Nat → AV → TT :=
  TT.rec (motive := fun _ => Nat → AV → TT) (fun n x => TT.path 10 n x)
    (fun v l r ihl ihr n x => Nat.rec (motive := fun _ => TT) (.node x l r)
      (fun m _ => Nat.rec (motive := fun _ => TT) (.node v (ihl (Nat.div m 2) x) r) (fun _ _ => .node v l (ihr (Nat.div m 2) x)) (Nat.mod m 2)) n) t
theorem TT.get_even (v : AV) (l r : TT) (m : Nat) (h : m % 2 = 0) : (TT.node v l r).get (m + 1) = l.get (m / 2) := by
  show Nat.rec (motive := fun _ => AV) _ _ (m % 2) = _
  rw [h]; rfl
theorem TT.get_odd (v : AV) (l r : TT) (m : Nat) (h : m % 2 = 1) : (TT.node v l r).get (m + 1) = r.get (m / 2) := by
  show Nat.rec (motive := fun _ => AV) _ _ (m % 2) = _
  rw [h]; rfl
theorem TT.path_zero (d : Nat) (x : AV) : TT.path (d + 1) 0 x = .node x .tip .tip := rfl
theorem TT.path_even (d m : Nat) (x : AV) (h : m % 2 = 0) : TT.path (d + 1) (m + 1) x = .node (.lit undef) (TT.path d (m / 2) x) .tip := by
  show Nat.rec (motive := fun _ => TT) _ _ (m % 2) = _
  rw [h]; rfl
theorem TT.path_odd (d m : Nat) (x : AV) (h : m % 2 = 1) : TT.path (d + 1) (m + 1) x = .node (.lit undef) .tip (TT.path d (m / 2) x) := by
  show Nat.rec (motive := fun _ => TT) _ _ (m % 2) = _
  rw [h]; rfl
theorem TT.set_zero (v : AV) (l r : TT) (x : AV) : (TT.node v l r).set 0 x = .node x l r := rfl
theorem TT.set_even (v : AV) (l r : TT) (m : Nat) (x : AV) (h : m % 2 = 0) : (TT.node v l r).set (m + 1) x = .node v (l.set (m / 2) x) r := by
  show Nat.rec (motive := fun _ => TT) _ _ (m % 2) = _
  rw [h]; rfl
theorem TT.set_odd (v : AV) (l r : TT) (m : Nat) (x : AV) (h : m % 2 = 1) : (TT.node v l r).set (m + 1) x = .node v l (r.set (m / 2) x) := by
  show Nat.rec (motive := fun _ => TT) _ _ (m % 2) = _
  rw [h]; rfl
theorem par (m : Nat) : m % 2 = 0 ∨ m % 2 = 1 := by omega
theorem TT.get_path_eq : ∀ (d n : Nat) (x : AV), n + 1 < 2 ^ d → (TT.path d n x).get n = x
  | 0, n, _, h => by simp at h
  | d + 1, 0, x, h => rfl
  | d + 1, m + 1, x, h => by
    rw [Nat.pow_succ] at h
    rcases par m with hp | hp
    · rw [TT.path_even _ _ _ hp, TT.get_even _ _ _ _ hp]; exact TT.get_path_eq d _ _ (by omega)
    · rw [TT.path_odd _ _ _ hp, TT.get_odd _ _ _ _ hp]; exact TT.get_path_eq d _ _ (by omega)
theorem TT.get_path_ne : ∀ (d n k : Nat) (x : AV), k ≠ n → (TT.path d n x).get k = .lit undef
  | 0, _, _, _, _ => rfl
  | d + 1, 0, 0, x, h => absurd rfl h
  | d + 1, 0, k + 1, x, h => by
    rw [TT.path_zero]
    rcases par k with hp | hp
    · rw [TT.get_even _ _ _ _ hp]; rfl
    · rw [TT.get_odd _ _ _ _ hp]; rfl
  | d + 1, m + 1, 0, x, h => by
    rcases par m with hp | hp
    · rw [TT.path_even _ _ _ hp]; rfl
    · rw [TT.path_odd _ _ _ hp]; rfl
  | d + 1, m + 1, k + 1, x, h => by
    rcases par m with hp | hp <;> rcases par k with hq | hq
    · rw [TT.path_even _ _ _ hp, TT.get_even _ _ _ _ hq]; exact TT.get_path_ne d _ _ _ (by omega)
    · rw [TT.path_even _ _ _ hp, TT.get_odd _ _ _ _ hq]; rfl
    · rw [TT.path_odd _ _ _ hp, TT.get_even _ _ _ _ hq]; rfl
    · rw [TT.path_odd _ _ _ hp, TT.get_odd _ _ _ _ hq]; exact TT.get_path_ne d _ _ _ (by omega)
theorem TT.get_set_eq : ∀ (t : TT) (n : Nat) (x : AV), n + 1 < 2 ^ 10 → (t.set n x).get n = x
  | .tip, n, x, h => TT.get_path_eq 10 n x h
  | .node v l r, 0, x, h => rfl
  | .node v l r, m + 1, x, h => by
    rcases par m with hp | hp
    · rw [TT.set_even _ _ _ _ _ hp, TT.get_even _ _ _ _ hp]; exact TT.get_set_eq _ _ _ (by omega)
    · rw [TT.set_odd _ _ _ _ _ hp, TT.get_odd _ _ _ _ hp]; exact TT.get_set_eq _ _ _ (by omega)
theorem TT.get_set_ne : ∀ (t : TT) (n k : Nat) (x : AV), k ≠ n → (t.set n x).get k = t.get k
  | .tip, n, k, x, h => TT.get_path_ne 10 n k x h
  | .node v l r, 0, 0, x, h => absurd rfl h
  | .node v l r, 0, k + 1, x, h => by
    rw [TT.set_zero]
    rcases par k with hp | hp
    · rw [TT.get_even _ _ _ _ hp, TT.get_even _ _ _ _ hp]
    · rw [TT.get_odd _ _ _ _ hp, TT.get_odd _ _ _ _ hp]
  | .node v l r, m + 1, 0, x, h => by
    rcases par m with hp | hp
    · rw [TT.set_even _ _ _ _ _ hp]; rfl
    · rw [TT.set_odd _ _ _ _ _ hp]; rfl
  | .node v l r, m + 1, k + 1, x, h => by
    rcases par m with hp | hp <;> rcases par k with hq | hq
    · rw [TT.set_even _ _ _ _ _ hp, TT.get_even _ _ _ _ hq, TT.get_even _ _ _ _ hq]; exact TT.get_set_ne _ _ _ _ (by omega)
    · rw [TT.set_even _ _ _ _ _ hp, TT.get_odd _ _ _ _ hq, TT.get_odd _ _ _ _ hq]
    · rw [TT.set_odd _ _ _ _ _ hp, TT.get_even _ _ _ _ hq, TT.get_even _ _ _ _ hq]
    · rw [TT.set_odd _ _ _ _ _ hp, TT.get_odd _ _ _ _ hq, TT.get_odd _ _ _ _ hq]; exact TT.get_set_ne _ _ _ _ (by omega)
structure ALoop where
  state : LoopState
  pending : Option Code
  n : Nat
  tmps : TT
  params : Array Tmp
  assign : Code
  body : Code
  defers : Nat
inductive Md where
  | exact
  | grow
  | ro
  deriving DecidableEq
inductive AO where
  | cells (cs : List AV) (elem : TypeId) (md : Md)
  | map (es : List (AV × AV × Nat)) (clock : Nat)
  | loop (r : ALoop)
  | defd (isOpen : Bool)
  | sIter (s : ByteArray) (pos : Nat)
  | dead
inductive Tr where
  | tip
  | node (o : AO) (l r : Tr)
def Tr.get (t : Tr) : Nat → Option AO :=
  Tr.rec (motive := fun _ => Nat → Option AO) (fun _ => none)
    (fun v _ _ l r n => Nat.rec (motive := fun _ => Option AO) (some v) (fun m _ => Nat.rec (motive := fun _ => Option AO) (l (Nat.div m 2)) (fun _ _ => r (Nat.div m 2)) (Nat.mod m 2)) n) t
def Tr.set (t : Tr) : Nat → AO → Tr :=
  Tr.rec (motive := fun _ => Nat → AO → Tr) (fun n x => Nat.rec (motive := fun _ => Tr) (.node x .tip .tip) (fun _ _ => .tip) n)
    (fun v l r ihl ihr n x => Nat.rec (motive := fun _ => Tr) (.node x l r)
      (fun m _ => Nat.rec (motive := fun _ => Tr) (.node v (ihl (Nat.div m 2) x) r) (fun _ _ => .node v l (ihr (Nat.div m 2) x)) (Nat.mod m 2)) n) t
theorem Tr.get_even (v : AO) (l r : Tr) (m : Nat) (h : m % 2 = 0) : (Tr.node v l r).get (m + 1) = l.get (m / 2) := by
  show Nat.rec (motive := fun _ => Option AO) _ _ (m % 2) = _
  rw [h]; rfl
theorem Tr.get_odd (v : AO) (l r : Tr) (m : Nat) (h : m % 2 = 1) : (Tr.node v l r).get (m + 1) = r.get (m / 2) := by
  show Nat.rec (motive := fun _ => Option AO) _ _ (m % 2) = _
  rw [h]; rfl
theorem Tr.set_even (v : AO) (l r : Tr) (m : Nat) (x : AO) (h : m % 2 = 0) : (Tr.node v l r).set (m + 1) x = .node v (l.set (m / 2) x) r := by
  show Nat.rec (motive := fun _ => Tr) _ _ (m % 2) = _
  rw [h]; rfl
theorem Tr.set_odd (v : AO) (l r : Tr) (m : Nat) (x : AO) (h : m % 2 = 1) : (Tr.node v l r).set (m + 1) x = .node v l (r.set (m / 2) x) := by
  show Nat.rec (motive := fun _ => Tr) _ _ (m % 2) = _
  rw [h]; rfl
theorem Tr.get_set_ne : ∀ (t : Tr) (n m : Nat) (x : AO), m ≠ n → (t.set n x).get m = t.get m
  | .tip, 0, 0, x, h => absurd rfl h
  | .tip, 0, m + 1, x, h => by
    show (Tr.node x .tip .tip).get (m + 1) = none
    rcases par m with hp | hp
    · rw [Tr.get_even _ _ _ _ hp]; rfl
    · rw [Tr.get_odd _ _ _ _ hp]; rfl
  | .tip, n + 1, m, x, h => rfl
  | .node v l r, 0, 0, x, h => absurd rfl h
  | .node v l r, 0, k + 1, x, h => by
    show (Tr.node x l r).get (k + 1) = _
    rcases par k with hp | hp
    · rw [Tr.get_even _ _ _ _ hp, Tr.get_even _ _ _ _ hp]
    · rw [Tr.get_odd _ _ _ _ hp, Tr.get_odd _ _ _ _ hp]
  | .node v l r, m + 1, 0, x, h => by
    rcases par m with hp | hp
    · rw [Tr.set_even _ _ _ _ _ hp]; rfl
    · rw [Tr.set_odd _ _ _ _ _ hp]; rfl
  | .node v l r, m + 1, k + 1, x, h => by
    rcases par m with hp | hp <;> rcases par k with hq | hq
    · rw [Tr.set_even _ _ _ _ _ hp, Tr.get_even _ _ _ _ hq, Tr.get_even _ _ _ _ hq]; exact Tr.get_set_ne _ _ _ _ (by omega)
    · rw [Tr.set_even _ _ _ _ _ hp, Tr.get_odd _ _ _ _ hq, Tr.get_odd _ _ _ _ hq]
    · rw [Tr.set_odd _ _ _ _ _ hp, Tr.get_even _ _ _ _ hq, Tr.get_even _ _ _ _ hq]
    · rw [Tr.set_odd _ _ _ _ _ hp, Tr.get_odd _ _ _ _ hq, Tr.get_odd _ _ _ _ hq]; exact Tr.get_set_ne _ _ _ _ (by omega)
theorem Tr.get_set_eq : ∀ (t : Tr) (n : Nat) (x : AO), (t.get n).isSome = true → (t.set n x).get n = some x
  | .tip, n, x, h => by cases h
  | .node v l r, 0, x, h => rfl
  | .node v l r, m + 1, x, h => by
    rcases par m with hp | hp
    · rw [Tr.get_even _ _ _ _ hp] at h
      rw [Tr.set_even _ _ _ _ _ hp, Tr.get_even _ _ _ _ hp]; exact Tr.get_set_eq _ _ _ h
    · rw [Tr.get_odd _ _ _ _ hp] at h
      rw [Tr.set_odd _ _ _ _ _ hp, Tr.get_odd _ _ _ _ hp]; exact Tr.get_set_eq _ _ _ h
theorem Tr.set_new : ∀ (t : Tr) (n : Nat) (x y : AO), (t.set n x).get n = some y → y = x
  | .tip, 0, x, y, h => by cases h; rfl
  | .tip, n + 1, x, y, h => by cases h
  | .node v l r, 0, x, y, h => by cases h; rfl
  | .node v l r, m + 1, x, y, h => by
    rcases par m with hp | hp
    · rw [Tr.set_even _ _ _ _ _ hp, Tr.get_even _ _ _ _ hp] at h; exact Tr.set_new _ _ _ _ h
    · rw [Tr.set_odd _ _ _ _ _ hp, Tr.get_odd _ _ _ _ hp] at h; exact Tr.set_new _ _ _ _ h
structure AH where
  size : Nat
  t : Tr
def AH.get (H : AH) (b : Nat) : Option AO :=
  AH.rec (motive := fun _ => Option AO) (fun s t => Nat.rec (motive := fun _ => Option AO) none (fun _ _ => t.get b) (Nat.sub s b)) H
theorem AH.get_eq (H : AH) (b : Nat) : H.get b = if b < H.size then H.t.get b else none := by
  obtain ⟨s, t⟩ := H
  show Nat.rec (motive := fun _ => Option AO) none (fun _ _ => t.get b) (s - b) = if b < s then t.get b else none
  by_cases h : b < s
  · obtain ⟨q, hq⟩ : ∃ q, s - b = q + 1 := ⟨s - b - 1, by omega⟩
    rw [hq, if_pos h]
  · rw [show s - b = 0 by omega, if_neg h]; rfl
def AH.set (H : AH) (b : Nat) (o : AO) : AH := match H with | ⟨s, t⟩ => ⟨s, t.set b o⟩
def AH.push (H : AH) (o : AO) : Option AH :=
  let t := H.t.set H.size o
  match t.get H.size with
  | some _ => some ⟨H.size + 1, t⟩
  | none => none
theorem AH.get_lt {H : AH} {b : Nat} {o : AO} (h : H.get b = some o) : b < H.size := by
  rw [AH.get_eq] at h; split at h
  · assumption
  · cases h
theorem AH.get_set {H : AH} {b : Nat} {o o' : AO} (h : H.get b = some o) (c : Nat) : (H.set b o').get c = if c = b then some o' else H.get c := by
  have hl := AH.get_lt h
  rw [AH.get_eq] at h
  rw [AH.get_eq, AH.get_eq]
  obtain ⟨s, t⟩ := H
  simp only [AH.set] at h hl ⊢
  rw [if_pos hl] at h
  by_cases hc : c = b
  · subst hc; simp only [hl, if_true]; exact Tr.get_set_eq t _ o' (by rw [h]; rfl)
  · rw [if_neg hc, Tr.get_set_ne _ _ _ _ hc]; rfl
theorem AH.get_push {H H' : AH} {o : AO} (h : H.push o = some H') (c : Nat) : c ≠ H.size → H'.get c = H.get c := by
  intro hc
  unfold AH.push at h
  simp only at h
  split at h
  · cases h
    rw [AH.get_eq, AH.get_eq]
    simp only
    rw [Tr.get_set_ne _ _ _ _ hc]
    by_cases h1 : c < H.size
    · rw [if_pos h1, if_pos (by omega)]
    · rw [if_neg h1, if_neg (by omega)]
  · cases h
theorem AH.push_size {H H' : AH} {o : AO} (h : H.push o = some H') : H'.size = H.size + 1 := by
  unfold AH.push at h
  simp only at h
  split at h
  · cases h; rfl
  · cases h
theorem AH.push_new {H H' : AH} {o : AO} (h : H.push o = some H') : H'.get H.size = some o := by
  unfold AH.push at h
  simp only at h
  split at h
  · rename_i y hy
    cases h
    rw [AH.get_eq]
    simp only
    rw [if_pos (Nat.lt_succ_self _), hy, Tr.set_new _ _ _ _ hy]
  · cases h
end
end Go.Proofs.YtikmfpjcdcckeaaGreatDoor.D
namespace Go.Proofs.YtikmfpjcdcckeaaGreatDoor.D
open Go Go.RowKit
noncomputable section
def callE (c : Call) : Bool :=
  match c.callee with
  | .builtin .len | .builtin .cap | .builtin .max | .builtin .min => false
  | _ => true
def isETab : Op → Bool := Op.rec (motive := fun _ => Bool) (fun _ => false) (fun _ => true) (fun _ _ _ => false) (fun _ => false) (fun _ _ => false) (fun _ _ => false) (fun _ _ _ => false) (fun _ _ _ _ => true) (fun _ _ => false) (fun _ _ _ => true) (fun _ => true) (fun _ => true) (fun _ => false) (fun _ _ _ _ _ => false) (fun _ _ _ => false) (fun _ _ _ => false) (fun _ _ => true) (fun _ _ => false) (fun _ _ _ => false) (fun _ _ => false) (fun _ _ => true) (fun _ _ _ => false) (fun _ _ _ _ _ => false) (fun _ _ _ => false) (fun _ _ _ => false) (fun _ _ _ => false) (fun _ _ _ => false) (fun _ _ _ _ => false) (fun _ _ _ _ => true) (fun _ _ _ => true) (fun _ _ _ _ => true) (fun _ _ => true) (fun _ _ => true) (fun _ => true) (fun _ _ _ _ => false) (fun _ _ => false) (fun c => callE c) (fun _ => true) (fun _ => true) (fun _ => true) (fun _ _ => true) (fun _ _ _ => true) (fun _ _ => true)
def isE (o : Oper) : Bool := isETab o.op
def depB (o : Oper) (j : Nat) : Bool := o.after.toList.any fun e => Region.binds .any e && decide (e.on = j)
def regOk (ops : Array Oper) : Bool :=
  (List.range ops.size).all fun i => match ops[i]? with
    | none => true
    | some o => o.after.toList.all (fun e => !Region.binds .any e || decide (e.on < i)) &&
      (List.range ops.size).all fun j => match ops[j]? with
        | none => true
        | some oj => isE oj || (match oj.dst with
          | none => true
          | some d => !(o.looksAt ops).contains d || (!decide (j = i) && depB o j))
def codeOk : Code → Bool
  | .region _ ops d => !d || regOk ops
  | .seq a b => codeOk a && codeOk b
  | .cond _ a b => codeOk a && codeOk b
  | .block _ a => codeOk a
  | .loop a => codeOk a
  | .rangeFunc _ _ a b => codeOk a && codeOk b
  | .scope a => codeOk a
  | _ => true
theorem regOk_before {ops : Array Oper} (h : regOk ops = true) {i : Nat} {o : Oper} (ho : ops[i]? = some o) : ∀ e ∈ o.after, Region.binds .any e = true → e.on < i := by
  intro e he hb
  have hlt : i < ops.size := (Array.getElem?_eq_some_iff.1 ho).1
  have := List.all_eq_true.1 h i (List.mem_range.2 hlt)
  rw [ho] at this
  simp only [Bool.and_eq_true] at this
  have h2 := List.all_eq_true.1 this.1 e (by simpa using he)
  simp [hb] at h2
  exact h2
theorem regOk_reads {ops : Array Oper} (h : regOk ops = true) {i j : Nat} {o oj : Oper} {d : Tmp} (ho : ops[i]? = some o) (hj : ops[j]? = some oj) (hE : isE oj = false) (hd : oj.dst = some d) (hl : d ∈ o.looksAt ops) : j ≠ i ∧ depB o j = true := by
  have hlt : i < ops.size := (Array.getElem?_eq_some_iff.1 ho).1
  have hlj : j < ops.size := (Array.getElem?_eq_some_iff.1 hj).1
  have := List.all_eq_true.1 h i (List.mem_range.2 hlt)
  rw [ho] at this
  simp only [Bool.and_eq_true] at this
  have h2 := List.all_eq_true.1 this.2 j (List.mem_range.2 hlj)
  rw [hj] at h2
  simp only [hE, hd, Bool.false_or] at h2
  simp [hl] at h2
  exact h2
theorem depB_iff {o : Oper} {j : Nat} (h : depB o j = true) : ∃ e ∈ o.after, Region.binds .any e = true ∧ e.on = j := by
  unfold depB at h
  obtain ⟨e, he, hb⟩ := List.any_eq_true.1 h
  simp at hb
  exact ⟨e, by simpa using he, hb.1, hb.2⟩
end
end Go.Proofs.YtikmfpjcdcckeaaGreatDoor.D
namespace Go.Proofs.YtikmfpjcdcckeaaGreatDoor.D
open Go Go.RowKit
noncomputable section
def esz (P : Program) (t : TypeId) : Nat := match P.info? t with | some i => i.size | none => 0
def ES (φ : Phi) : List (AV × AV × Nat) → List MapEntry → Prop
  | [], l => l = []
  | (k, v, b) :: es, l => ∃ e rest, l = e :: rest ∧ VR φ k e.key ∧ VR φ v e.val ∧ e.born = b ∧ ES φ es rest
theorem ES.mono {φ ψ : Phi} (h : φ.le ψ) : ∀ {es : List (AV × AV × Nat)} {l : List MapEntry}, ES φ es l → ES ψ es l
  | [], _, hv => hv
  | (_, _, _) :: _, _, ⟨e, r, h1, h2, h3, h4, h5⟩ => ⟨e, r, h1, h2.mono h, h3.mono h, h4, ES.mono h h5⟩
structure TR (φ : Phi) (n : Nat) (t : TT) (tm : Array Value) : Prop where
  size : tm.size = n
  le : n ≤ 1000
  get : ∀ i, VR φ (t.get i) (tm.getD i undef)
theorem TR.mono {φ ψ : Phi} (h : φ.le ψ) {n : Nat} {t : TT} {tm : Array Value} (hv : TR φ n t tm) : TR ψ n t tm := ⟨hv.size, hv.le, fun i => (hv.get i).mono h⟩
def OR (P : Program) (φ : Phi) (m : Nat) : AO → Obj → Prop
  | .cells cs elem md, o => ∃ (xs : Array Value) (fz : Nat × Nat), o = .cells xs elem fz ∧ (∀ i, i < xs.size → ¬ (fz.1 ≤ i ∧ i < fz.2)) ∧
      VRs φ cs (xs.toList.take cs.length) ∧ (md ≠ .grow → xs.size = cs.length) ∧ (md = .grow → xs.size = m * esz P elem)
  | .map es clock, o => ∃ es' : Array MapEntry, o = .map es' clock ∧ ES φ es es'.toList
  | .loop r, o => ∃ (fn : FuncId) (tm : Array Value) (d m' : Nat), φ r.defers = some (d, m') ∧
      o = .loop { state := r.state, pending := r.pending, fn, tmps := tm, params := r.params, assign := r.assign, body := r.body, defers := d } ∧ TR φ r.n r.tmps tm ∧ codeOk r.assign = true ∧ codeOk r.body = true
  | .defd b, o => o = .deferred (if b then some [] else none)
  | .sIter s p, o => o = .stringIter s p
  | .dead, _ => True
theorem OR.mono {P : Program} {φ ψ : Phi} (h : φ.le ψ) {m : Nat} {ao : AO} {o : Obj} (hv : OR P φ m ao o) : OR P ψ m ao o := by
  cases ao with
  | cells cs elem md => obtain ⟨xs, fz, h1, h2, h3, h4⟩ := hv; exact ⟨xs, fz, h1, h2, h3.mono h, h4⟩
  | map es clock => obtain ⟨es', h1, h2⟩ := hv; exact ⟨es', h1, h2.mono h⟩
  | loop r => obtain ⟨fn, tm, d, m', h1, h2, h3⟩ := hv; exact ⟨fn, tm, d, m', h _ _ h1, h2, h3.1.mono h, h3.2⟩
  | defd b => exact hv
  | sIter s p => exact hv
  | dead => trivial
abbrev Glob := Nat → Option (Array Value)
def GlobAt (w : World) (g : Nat) (vs : Array Value) : Prop := ∃ (xs : Array Value) (e : TypeId) (fz : Nat × Nat), w.heap[g]? = some (.cells xs e fz) ∧ xs.toList.take vs.size = vs.toList
theorem GlobAt.of {w v : World} {g : Nat} {vs : Array Value} (h : GlobAt w g vs) (e : v.heap[g]? = w.heap[g]?) : GlobAt v g vs := let ⟨xs, t, fz, h1, h2⟩ := h; ⟨xs, t, fz, by rw [e]; exact h1, h2⟩
structure R (P : Program) (G : Glob) (n0 : Nat) (φ : Phi) (H : AH) (w : World) : Prop where
  obj : ∀ b c m, φ b = some (c, m) → ∃ ao o, H.get b = some ao ∧ w.heap[c]? = some o ∧ OR P φ m ao o ∧ (n0 ≤ c ∨ ∃ cs e, ao = .cells cs e .ro)
  inj : ∀ b b' c m m', φ b = some (c, m) → φ b' = some (c, m') → H.get b ≠ some .dead → H.get b' ≠ some .dead → b = b'
  low : n0 ≤ w.heap.size
  glob : ∀ g vs, G g = some vs → GlobAt w g vs ∧ g < n0
structure Sim (P : Program) (G : Glob) (n0 : Nat) (φ : Phi) (H : AH) (w : World) (ψ : Phi) (K : AH) (v : World) : Prop where
  le : φ.le ψ
  new : ∀ b, φ b = none → b < H.size → ψ b = none
  sz : H.size ≤ K.size
  r : R P G n0 ψ K v
  bel : Below n0 w v
section
variable {P : Program} {G : Glob} {n0 : Nat} {φ ψ χ : Phi} {H K L : AH} {w v u : World}
theorem Sim.refl (h : R P G n0 φ H w) : Sim P G n0 φ H w φ H w := ⟨Phi.le_refl _, fun _ h _ => h, Nat.le_refl _, h, Below.refl _ _⟩
theorem Sim.trans (h : Sim P G n0 φ H w ψ K v) (k : Sim P G n0 ψ K v χ L u) : Sim P G n0 φ H w χ L u :=
  ⟨Phi.le_trans h.le k.le, fun b hb hs => k.new b (h.new b hb hs) (Nat.lt_of_lt_of_le hs h.sz), Nat.le_trans h.sz k.sz, k.r, h.bel.trans k.bel⟩
structure SameHeap (w v : World) : Prop where
  heap : v.heap = w.heap
  os : v.os = w.os
  tape : v.tape = w.tape
  output : v.output = w.output
theorem SameHeap.refl (w : World) : SameHeap w w := ⟨rfl, rfl, rfl, rfl⟩
theorem SameHeap.drew (w : World) : SameHeap w { w with drawn := w.drawn + 1 } := ⟨rfl, rfl, rfl, rfl⟩
theorem R.same (h : R P G n0 φ H w) (s : SameHeap w v) : R P G n0 φ H v :=
  ⟨fun b c m hb => by rw [s.heap]; exact h.obj b c m hb, h.inj, by rw [s.heap]; exact h.low, fun g vs hg => let ⟨h1, h2⟩ := h.glob g vs hg; ⟨h1.of (by rw [s.heap]), h2⟩⟩
theorem SameHeap.below (s : SameHeap w v) (B : Nat) : Below B w v := ⟨s.os, s.tape, s.output, by rw [s.heap]; exact Nat.le_refl _, fun k _ => by rw [s.heap]⟩
theorem Sim.same (h : R P G n0 φ H w) (s : SameHeap w v) : Sim P G n0 φ H w φ H v := ⟨Phi.le_refl _, fun _ h _ => h, Nat.le_refl _, h.same s, s.below _⟩
theorem R.lt (h : R P G n0 φ H w) {b c m : Nat} (hb : φ b = some (c, m)) : b < H.size ∧ c < w.heap.size := by
  obtain ⟨ao, o, h1, h2, _⟩ := h.obj b c m hb
  exact ⟨AH.get_lt h1, (Array.getElem?_eq_some_iff.1 h2).1⟩
theorem R.none_ge (h : R P G n0 φ H w) {b : Nat} (hb : H.size ≤ b) : φ b = none := by
  cases hp : φ b with
  | none => rfl
  | some x => exact absurd (h.lt (c := x.1) (m := x.2) hp).1 (by omega)
structure Upd (w : World) (c : Nat) (o : Obj) (v : World) : Prop where
  at_ : v.heap[c]? = some o
  other : ∀ k, k ≠ c → v.heap[k]? = w.heap[k]?
  size : v.heap.size = w.heap.size
  os : v.os = w.os
  tape : v.tape = w.tape
  output : v.output = w.output
theorem Upd.below {c : Nat} {o : Obj} (h : Upd w c o v) (hc : n0 ≤ c) : Below n0 w v :=
  ⟨h.os, h.tape, h.output, by rw [h.size]; exact Nat.le_refl _, fun k hk => h.other k (by omega)⟩
theorem Upd.putObj {c : Nat} (o : Obj) (hc : c < w.heap.size) : Upd w c o (w.putObj c o) :=
  ⟨World.putObj_heap_same hc, fun k hk => World.putObj_heap_other hk, World.putObj_size, rfl, rfl, rfl⟩
theorem R.set (h : R P G n0 φ H w) {b c m : Nat} {ao ao' : AO} {o : Obj} (hb : φ b = some (c, m)) (hg : H.get b = some ao) (hd : ao ≠ .dead) (hro : ∀ cs e, ao ≠ .cells cs e .ro)
    (ho : OR P φ m ao' o) (hu : Upd w c o v) : Sim P G n0 φ H w φ (H.set b ao') v := by
  have hc : n0 ≤ c := by
    obtain ⟨ao₁, o₁, h1, _, _, h4⟩ := h.obj b c m hb
    rw [hg] at h1; cases h1
    rcases h4 with h4 | ⟨cs, e, h4⟩
    · exact h4
    · exact absurd h4 (hro cs e)
  refine ⟨Phi.le_refl _, fun _ h _ => h, Nat.le_refl _, ⟨?_, ?_, by rw [hu.size]; exact h.low, ?_⟩, hu.below hc⟩
  · intro b' c' m' hb'
    by_cases hbb : b' = b
    · subst hbb
      rw [hb] at hb'; cases hb'
      exact ⟨ao', o, by rw [AH.get_set hg, if_pos rfl], hu.at_, ho, .inl hc⟩
    · obtain ⟨ao₁, o₁, h1, h2, h3, h4⟩ := h.obj b' c' m' hb'
      by_cases hcc : c' = c
      · subst hcc
        have : H.get b' = some .dead := by
          apply Classical.byContradiction
          intro hn
          exact hbb (h.inj b' b c' m' m hb' hb hn (by rw [hg]; intro e; cases e; exact hd rfl))
        rw [this] at h1; cases h1
        exact ⟨.dead, o, by rw [AH.get_set hg, if_neg hbb, this], hu.at_, trivial, .inl hc⟩
      · exact ⟨ao₁, o₁, by rw [AH.get_set hg, if_neg hbb]; exact h1, by rw [hu.other _ hcc]; exact h2, h3, h4⟩
  · intro b₁ b₂ c' m₁ m₂ h1 h2 hn1 hn2
    refine h.inj b₁ b₂ c' m₁ m₂ h1 h2 ?_ ?_
    · rw [AH.get_set hg] at hn1
      by_cases e : b₁ = b
      · subst e; rw [hg]; intro e; cases e; exact hd rfl
      · rw [if_neg e] at hn1; exact hn1
    · rw [AH.get_set hg] at hn2
      by_cases e : b₂ = b
      · subst e; rw [hg]; intro e; cases e; exact hd rfl
      · rw [if_neg e] at hn2; exact hn2
  · intro g vs hgv
    obtain ⟨he, hlt⟩ := h.glob g vs hgv
    exact ⟨he.of (hu.other g (by omega)), hlt⟩
theorem R.kill (h : R P G n0 φ H w) {b c m : Nat} {ao : AO} (hb : φ b = some (c, m)) (hg : H.get b = some ao) (hro : ∀ cs e, ao ≠ .cells cs e .ro) : Sim P G n0 φ H w φ (H.set b .dead) w := by
  refine ⟨Phi.le_refl _, fun _ h _ => h, Nat.le_refl _, ⟨?_, ?_, h.low, h.glob⟩, Below.refl _ _⟩
  · intro b' c' m' hb'
    obtain ⟨ao₁, o₁, h1, h2, h3, h4⟩ := h.obj b' c' m' hb'
    by_cases hbb : b' = b
    · subst hbb
      rw [hg] at h1; cases h1
      refine ⟨.dead, o₁, by rw [AH.get_set hg, if_pos rfl], h2, trivial, ?_⟩
      rcases h4 with h4 | ⟨cs, e, h4⟩
      · exact .inl h4
      · exact absurd h4 (hro cs e)
    · exact ⟨ao₁, o₁, by rw [AH.get_set hg, if_neg hbb]; exact h1, h2, h3, h4⟩
  · intro b₁ b₂ c' m₁ m₂ h1 h2 hn1 hn2
    refine h.inj b₁ b₂ c' m₁ m₂ h1 h2 ?_ ?_
    · rw [AH.get_set hg] at hn1
      by_cases e : b₁ = b
      · rw [if_pos e] at hn1; exact absurd rfl hn1
      · rw [if_neg e] at hn1; exact hn1
    · rw [AH.get_set hg] at hn2
      by_cases e : b₂ = b
      · rw [if_pos e] at hn2; exact absurd rfl hn2
      · rw [if_neg e] at hn2; exact hn2
theorem R.pushU (h : R P G n0 φ H w) {ao : AO} (hp : H.push ao = some K) : Sim P G n0 φ H w φ K w := by
  have hne : ∀ b x, φ b = some x → b ≠ H.size := fun b x hb => by have := (h.lt (c := x.1) (m := x.2) hb).1; omega
  refine ⟨Phi.le_refl _, fun _ h _ => h, by rw [AH.push_size hp]; omega, ⟨?_, ?_, h.low, h.glob⟩, Below.refl _ _⟩
  · intro b c m hb
    rw [AH.get_push hp b (hne _ _ hb)]
    exact h.obj b c m hb
  · intro b b' c m m' h1 h2
    rw [AH.get_push hp b (hne _ _ h1), AH.get_push hp b' (hne _ _ h2)]
    exact h.inj b b' c m m' h1 h2
def Phi.put (φ : Phi) (p : Nat) (x : Nat × Nat) : Phi := fun b => if b = p then some x else φ b
theorem Phi.put_same (φ : Phi) (p : Nat) (x : Nat × Nat) : φ.put p x p = some x := if_pos rfl
theorem Phi.le_put {φ : Phi} {p : Nat} (x : Nat × Nat) (h : φ p = none) : φ.le (φ.put p x) := fun b y hb => by
  unfold Phi.put
  by_cases e : b = p
  · subst e; rw [h] at hb; cases hb
  · rw [if_neg e]; exact hb
structure New (w : World) (o : Obj) (v : World) : Prop where
  heap : v.heap = w.heap.push o
  os : v.os = w.os
  tape : v.tape = w.tape
  output : v.output = w.output
theorem New.alloc (w : World) (o : Obj) : New w o (w.alloc o) := ⟨rfl, rfl, rfl, rfl⟩
theorem New.old {o : Obj} (h : New w o v) {k : Nat} (hk : k < w.heap.size) : v.heap[k]? = w.heap[k]? := by
  rw [h.heap, Array.getElem?_push, if_neg (by omega)]
theorem New.fresh {o : Obj} (h : New w o v) : v.heap[w.heap.size]? = some o := by rw [h.heap]; simp
theorem New.below {o : Obj} (h : New w o v) (hn : n0 ≤ w.heap.size) : Below n0 w v :=
  ⟨h.os, h.tape, h.output, by rw [h.heap]; simp, fun k hk => h.old (by omega)⟩
theorem R.late (h : R P G n0 φ H w) {p m : Nat} {ao : AO} {o : Obj} (hp : φ p = none) (hg : H.get p = some ao) (ho : OR P (φ.put p (w.heap.size, m)) m ao o) (hn : New w o v) :
    R P G n0 (φ.put p (w.heap.size, m)) H v ∧ Below n0 w v := by
  have hle := Phi.le_put (w.heap.size, m) hp
  refine ⟨⟨?_, ?_, by have := h.low; rw [hn.heap]; simp; omega, ?_⟩, hn.below h.low⟩
  · intro b c m' hb
    unfold Phi.put at hb
    by_cases e : b = p
    · subst e
      rw [if_pos rfl] at hb; cases hb
      exact ⟨ao, o, hg, hn.fresh, ho, .inl h.low⟩
    · rw [if_neg e] at hb
      obtain ⟨ao₁, o₁, h1, h2, h3, h4⟩ := h.obj b c m' hb
      exact ⟨ao₁, o₁, h1, by rw [hn.old (h.lt hb).2]; exact h2, h3.mono hle, h4⟩
  · intro b b' c m₁ m₂ h1 h2 hn1 hn2
    unfold Phi.put at h1 h2
    by_cases e : b = p
    · by_cases e' : b' = p
      · rw [e, e']
      · rw [if_pos e] at h1; rw [if_neg e'] at h2; cases h1
        exact absurd (h.lt h2).2 (by omega)
    · by_cases e' : b' = p
      · rw [if_neg e] at h1; rw [if_pos e'] at h2; cases h2
        exact absurd (h.lt h1).2 (by omega)
      · rw [if_neg e] at h1; rw [if_neg e'] at h2
        exact h.inj b b' c m₁ m₂ h1 h2 hn1 hn2
  · intro g vs hgv
    obtain ⟨he, hlt⟩ := h.glob g vs hgv
    exact ⟨he.of (hn.old (by have := h.low; omega)), hlt⟩
theorem R.push (h : R P G n0 φ H w) {m : Nat} {ao : AO} {o : Obj} (hp : H.push ao = some K) (ho : OR P (φ.put H.size (w.heap.size, m)) m ao o) (hn : New w o v) :
    Sim P G n0 φ H w (φ.put H.size (w.heap.size, m)) K v := by
  have h1 := h.pushU hp
  have hnone : φ H.size = none := h.none_ge (Nat.le_refl _)
  obtain ⟨h2, h3⟩ := h1.r.late hnone (AH.push_new hp) ho hn
  refine ⟨Phi.le_put _ hnone, fun b hb hs => ?_, h1.sz, h2, h3⟩
  unfold Phi.put
  rw [if_neg (by omega)]; exact hb
theorem R.move (h : R P G n0 φ H w) {b c m : Nat} {ao ao' : AO} {o : Obj} (hb : φ b = some (c, m)) (hg : H.get b = some ao) (hd : ao ≠ .dead) (hro : ∀ cs e, ao ≠ .cells cs e .ro)
    (hp : (H.set b .dead).push ao' = some K) (ho : OR P φ m ao' o) (hu : Upd w c o v) : Sim P G n0 φ H w (φ.put H.size (c, m)) K v := by
  have hc : n0 ≤ c := by
    obtain ⟨ao₁, o₁, h1, _, _, h4⟩ := h.obj b c m hb
    rw [hg] at h1; cases h1
    rcases h4 with h4 | ⟨cs, e, h4⟩
    · exact h4
    · exact absurd h4 (hro cs e)
  have hnone : φ H.size = none := h.none_ge (Nat.le_refl _)
  have hle := Phi.le_put (c, m) hnone
  have hbs : b < H.size := AH.get_lt hg
  have hsz : (H.set b .dead).size = H.size := rfl
  have hnew : K.get H.size = some ao' := by have := AH.push_new hp; rwa [hsz] at this
  have hold : ∀ x, x ≠ H.size → x ≠ b → K.get x = H.get x := fun x hx hxb => by
    rw [AH.get_push hp x (by rw [hsz]; exact hx), AH.get_set hg, if_neg hxb]
  have hdead : K.get b = some .dead := by rw [AH.get_push hp b (by rw [hsz]; omega), AH.get_set hg, if_pos rfl]
  refine ⟨hle, fun x hx hs => ?_, by rw [AH.push_size hp, hsz]; omega, ⟨?_, ?_, by rw [hu.size]; exact h.low, ?_⟩, hu.below hc⟩
  · unfold Phi.put; rw [if_neg (by omega)]; exact hx
  · intro x c' m' hx
    unfold Phi.put at hx
    by_cases e : x = H.size
    · rw [if_pos e] at hx; cases hx; subst e
      exact ⟨ao', o, hnew, hu.at_, ho.mono hle, .inl hc⟩
    · rw [if_neg e] at hx
      obtain ⟨ao₁, o₁, h1, h2, h3, h4⟩ := h.obj x c' m' hx
      by_cases hxb : x = b
      · subst hxb
        rw [hb] at hx; cases hx
        exact ⟨.dead, o, hdead, hu.at_, trivial, .inl hc⟩
      · by_cases hcc : c' = c
        · subst hcc
          have : H.get x = some .dead := by
            apply Classical.byContradiction
            intro hn
            exact hxb (h.inj x b c' m' m hx hb hn (by rw [hg]; intro e; cases e; exact hd rfl))
          exact ⟨.dead, o, by rw [hold x e hxb, this], hu.at_, trivial, .inl hc⟩
        · exact ⟨ao₁, o₁, by rw [hold x e hxb]; exact h1, by rw [hu.other _ hcc]; exact h2, h3.mono hle, h4⟩
  · have key : ∀ x c' m', (φ.put H.size (c, m)) x = some (c', m') → K.get x ≠ some .dead → x ≠ b := fun x c' m' _ hn e => by subst e; exact hn hdead
    intro x y c' m₁ m₂ h1 h2 hn1 hn2
    have hxb := key x _ _ h1 hn1
    have hyb := key y _ _ h2 hn2
    unfold Phi.put at h1 h2
    by_cases e : x = H.size
    · by_cases e' : y = H.size
      · rw [e, e']
      · rw [if_pos e] at h1; rw [if_neg e'] at h2; cases h1
        rw [hold y e' hyb] at hn2
        exact absurd (h.inj y b c m₂ m h2 hb hn2 (by rw [hg]; intro e; cases e; exact hd rfl)) hyb
    · by_cases e' : y = H.size
      · rw [if_neg e] at h1; rw [if_pos e'] at h2; cases h2
        rw [hold x e hxb] at hn1
        exact absurd (h.inj x b c m₁ m h1 hb hn1 (by rw [hg]; intro e; cases e; exact hd rfl)) hxb
      · rw [if_neg e] at h1; rw [if_neg e'] at h2
        rw [hold x e hxb] at hn1
        rw [hold y e' hyb] at hn2
        exact h.inj x y c' m₁ m₂ h1 h2 hn1 hn2
  · intro g vs hgv
    obtain ⟨he, hlt⟩ := h.glob g vs hgv
    exact ⟨he.of (hu.other g (by omega)), hlt⟩
end
end
end Go.Proofs.YtikmfpjcdcckeaaGreatDoor.D
namespace Go.Proofs.YtikmfpjcdcckeaaGreatDoor.D
open Go Go.RowKit
noncomputable section
def calm {α : Type} (P : Program) : Sem α → Option α
  | .pure a => some a
  | .program k => calm P (k P)
  | _ => none
theorem calm_run {α : Type} {P : Program} : ∀ {s : Sem α} {a : α}, calm P s = some a → ∀ w, s.run P w = .ok a w := by
  intro s
  induction s with
  | pure a => intro b h w; simp [calm] at h; subst h; rfl
  | program k ih => intro b h w; exact ih P h w
  | _ => intro b h; simp [calm] at h
def AV.one : AV → Bool
  | .any | .agg _ | .tuple _ => false
  | .lit v => v.oneCell'
  | _ => true
theorem AV.one_sound {φ : Phi} {a : AV} {v : Value} (h : a.one = true) (hv : VR φ a v) : v.oneCell' = true := by
  cases a with
  | any => cases h
  | lit u => cases hv; exact h
  | ptr b o => obtain ⟨c, m, _, rfl⟩ := hv; rfl
  | gptr g o => cases hv; rfl
  | slice b o n cap => obtain ⟨c, m, k, _, rfl, _⟩ := hv; rfl
  | empty => obtain ⟨a, k, rfl⟩ := hv; rfl
  | map b => obtain ⟨c, m, _, rfl⟩ := hv; rfl
  | func fn xs ys => obtain ⟨as_, bs, rfl, _⟩ := hv; rfl
  | yield l => obtain ⟨c, m, _, rfl⟩ := hv; rfl
  | iface t a => obtain ⟨y, rfl, _⟩ := hv; rfl
  | agg cs => cases h
  | tuple cs => cases h
def AV.parts : AV → Option (List AV)
  | .any | .tuple _ => none
  | .lit v => some (v.cells.toList.map .lit)
  | .agg cs => some cs
  | a => some [a]
theorem AV.parts_sound {φ : Phi} {a : AV} {cs : List AV} {v : Value} (h : a.parts = some cs) (hv : VR φ a v) : VRs φ cs v.cells.toList := by
  cases a with
  | any => cases h
  | tuple _ => cases h
  | lit u => cases h; cases hv; exact VRs.lits _
  | agg ds => cases h; obtain ⟨as_, rfl, h2⟩ := hv; exact h2
  | ptr b o => cases h; have hv' := hv; obtain ⟨c, m, _, rfl⟩ := hv; exact VRs.cons hv' VRs.nil
  | gptr g o => cases h; have hv' := hv; cases hv; exact VRs.cons hv' VRs.nil
  | slice b o n cap => cases h; have hv' := hv; obtain ⟨c, m, k, _, rfl, _⟩ := hv; exact VRs.cons hv' VRs.nil
  | empty => cases h; have hv' := hv; obtain ⟨a, k, rfl⟩ := hv; exact VRs.cons hv' VRs.nil
  | map b => cases h; have hv' := hv; obtain ⟨c, m, _, rfl⟩ := hv; exact VRs.cons hv' VRs.nil
  | func fn xs ys => cases h; have hv' := hv; obtain ⟨as_, bs, rfl, _⟩ := hv; exact VRs.cons hv' VRs.nil
  | yield l => cases h; have hv' := hv; obtain ⟨c, m, _, rfl⟩ := hv; exact VRs.cons hv' VRs.nil
  | iface t a => cases h; have hv' := hv; obtain ⟨y, rfl, _⟩ := hv; exact VRs.cons hv' VRs.nil
def setMany {α : Type} : List α → Nat → List α → List α
  | l, _, [] => l
  | l, o, x :: xs => setMany (l.set o x) (o + 1) xs
theorem setMany_VRs {φ : Phi} : ∀ (cs : List AV) (xs : List Value) (as_ : List AV) (l : List Value) (o : Nat), VRs φ cs xs → VRs φ as_ l → VRs φ (setMany as_ o cs) (setMany l o xs)
  | [], _, as_, l, o, h, hl => by cases h; exact hl
  | c :: cs, _, as_, l, o, ⟨x, xs, h1, h2, h3⟩, hl => by subst h1; exact setMany_VRs cs xs _ _ _ h3 (hl.set o h2)
theorem setMany_length {α : Type} : ∀ (xs : List α) (l : List α) (o : Nat), (setMany l o xs).length = l.length
  | [], _, _ => rfl
  | x :: xs, l, o => by rw [setMany, setMany_length xs]; simp
theorem foldl_setMany (o : Nat) : ∀ (xs : List Value) (k : Nat) (arr : Array Value),
    ((xs.zipIdx k).foldl (fun cs (p : Value × Nat) => cs.setIfInBounds (o + p.2) p.1) arr).toList = setMany arr.toList (o + k) xs
  | [], _, _ => rfl
  | x :: xs, k, arr => by
    rw [List.zipIdx_cons, List.foldl_cons, foldl_setMany o xs (k + 1)]
    simp only [setMany, Array.toList_setIfInBounds]
    rw [Nat.add_assoc]
def fillA (place : Nat → Option (Nat × Nat)) (cells : List AV) : List (Nat × AV) → Option (List AV)
  | [] => some cells
  | (i, a) :: rest =>
    match place i, a.parts with
    | some (off, size), some cs => if cs.length ≠ size || off + cs.length > cells.length then none else fillA place (setMany cells off cs) rest
    | _, _ => none
theorem fillA_sound {φ : Phi} {place : Nat → Option (Nat × Nat)} : ∀ (ps : List (Nat × AV)) (qs : List (Nat × Value)) (cells : List AV) (arr : Array Value) (out : List AV),
    fillA place cells ps = some out → VRs φ cells arr.toList → ps.map (·.1) = qs.map (·.1) → VRs φ (ps.map (·.2)) (qs.map (·.2)) → ∃ arr', Instr.fill place arr qs = some arr' ∧ VRs φ out arr'.toList
  | [], [], cells, arr, out, h, hc, _, _ => by simp [fillA] at h; subst h; exact ⟨arr, rfl, hc⟩
  | [], _ :: _, _, _, _, _, _, h, _ => by simp at h
  | _ :: _, [], _, _, _, _, _, h, _ => by simp at h
  | (i, a) :: ps, (j, v) :: qs, cells, arr, out, h, hc, hi, hv => by
    simp only [List.map_cons, List.cons.injEq] at hi hv
    obtain ⟨rfl, hi⟩ := hi
    obtain ⟨x, xs, hx, hv1, hv2⟩ := hv
    cases hx
    simp only [fillA] at h
    split at h
    case h_2 => cases h
    rename_i off size cs hp hcs
    split at h
    · cases h
    rename_i hn
    have hvc := AV.parts_sound hcs hv1
    have hlen := hvc.length
    have hlc := hc.length
    simp only [Array.length_toList] at hlen hlc
    simp only [Bool.or_eq_true, decide_eq_true_eq, not_or, bne_iff_ne, ne_eq, Decidable.not_not, Nat.not_lt] at hn
    simp only [Instr.fill, hp]
    rw [if_neg (by simp only [Bool.or_eq_true, decide_eq_true_eq, not_or, bne_iff_ne, ne_eq, Decidable.not_not]; omega)]
    refine fillA_sound ps qs _ _ out h ?_ hi hv2
    have he := foldl_setMany off v.cells.toList 0 arr
    rw [Nat.add_zero] at he
    have : (v.cells.zipIdx.foldl (fun (cs : Array Value) (p : Value × Nat) => cs.setIfInBounds (off + p.2) p.1) arr).toList = setMany arr.toList off v.cells.toList := by
      rw [← he, ← Array.foldl_toList, Array.toList_zipIdx]
    rw [show (v.cells.zipIdx.foldl (fun (cs : Array Value) (x : Value × Nat) => match x with | (c, j) => cs.setIfInBounds (off + j) c) arr) = (v.cells.zipIdx.foldl (fun (cs : Array Value) (p : Value × Nat) => cs.setIfInBounds (off + p.2) p.1) arr) from rfl, this]
    exact setMany_VRs _ _ _ _ _ hvc hc
def isRowB (P : Program) (t : TypeId) : Option Bool :=
  match P.underlying t with
  | some (.struct _) | some (.array _ _) => some true
  | some _ => some false
  | none => none
def sizeB (P : Program) (t : TypeId) : Option Nat := (P.info? t).map (·.size)
theorem run_isAgg {P : Program} {t : TypeId} {b : Bool} (h : isRowB P t = some b) (w : World) : (isAgg t).run P w = .ok b w := by
  unfold isRowB at h
  cases hu : P.underlying t with
  | none => simp [hu] at h
  | some d =>
    unfold isAgg
    rw [Sem.run_bind, run_underlying hu w]
    cases d <;> simp_all
theorem run_sizeB {P : Program} {t : TypeId} {n : Nat} (h : sizeB P t = some n) (w : World) : (sizeOf t).run P w = .ok n w := by
  unfold sizeB at h
  cases hi : P.info? t with
  | none => simp [hi] at h
  | some i => simp [hi] at h; simp [sizeOf, typeInfo, hi, h]
def partA (P : Program) (t : TypeId) (cs : List AV) (off : Nat) : Option AV :=
  match isRowB P t with
  | some true => match sizeB P t with
    | some n => some (.agg ((cs.drop off).take n))
    | none => none
  | some false => cs[off]?
  | none => none
theorem partA_sound {P : Program} {φ : Phi} {t : TypeId} {cs : List AV} {off : Nat} {r : AV} {arr : Array Value} (h : partA P t cs off = some r) (hv : VRs φ cs arr.toList) :
    ∃ v, VR φ r v ∧ ∀ w, (part t arr off).run P w = .ok v w := by
  unfold partA at h
  split at h
  · rename_i hb
    split at h
    · rename_i n hn
      cases h
      refine ⟨.agg (arr.extract off (off + n)), ⟨_, rfl, ?_⟩, fun w => ?_⟩
      · have := (hv.drop off).take n
        rw [Array.toList_extract]
        simpa using this
      · simp [part, run_isAgg hb w, run_sizeB hn w]
    · cases h
  · rename_i hb
    obtain ⟨x, hx, hvx⟩ := hv.get h
    refine ⟨x, hvx, fun w => ?_⟩
    have hx' : arr[off]? = some x := by simpa using hx
    simp [part, run_isAgg hb w, hx']
  · cases h
end
end Go.Proofs.YtikmfpjcdcckeaaGreatDoor.D
