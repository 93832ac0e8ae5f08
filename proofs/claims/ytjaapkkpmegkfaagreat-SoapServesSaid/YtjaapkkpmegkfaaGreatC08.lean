/- Part 8 of what the law's proof needs beyond its base: words, walks of functions and plain facts. -/
import Derived.Below
import Derived.Deep.Draws
import Derived.Deep.AppendLies
import Derived.Maps.AppendAt
import Derived.OwnWalk
import Derived.Laws.BytesArg
import Derived.Laws.MakeOwn
import Derived.Laws.OwnMore
import Derived.Deep.OwnRows
import Derived.Tactics
import Derived.Lib.ConvBytes
import Derived.Laws.Slices
import Derived.WalkKit
import Derived.KernelRfl
import Derived.RowKit3
import Derived.Deep.LoopGhost
import Derived.Deep.QuietTactic
import Derived.BigQuiet
import Derived.WideLaws
import Derived.Deep.DeepCutAuto
import Derived.Deep.CutBlock
import Derived.Deep.RegionHeld3
import Derived.Laws.Rows
import Derived.Lib.AppendStr
import Derived.ArgAppend
import Derived.Laws.IdiomCopy
import Derived.RowKit
import Derived.OrdersHeld
import Derived.Laws.BitsLemmas
import Derived.Deep.Slices
import Derived.OpenShut
import Derived.ChangeArms
import Derived.Test.YtjaapkkpmegkfaaGreatR01
import Derived.Test.YtjaapkkpmegkfaaGreatR02
import Derived.Test.YtjaapkkpmegkfaaGreatR03
import Derived.Test.YtjaapkkpmegkfaaGreatR04
import Derived.Test.YtjaapkkpmegkfaaGreatR05
import Derived.Test.YtjaapkkpmegkfaaGreatR06
import Derived.Test.YtjaapkkpmegkfaaGreatR07
import Derived.Test.YtjaapkkpmegkfaaGreatR08
import Derived.Test.YtjaapkkpmegkfaaGreatR09
import Derived.Test.YtjaapkkpmegkfaaGreatR10
import Derived.Test.YtjaapkkpmegkfaaGreatR11
import Derived.Test.YtjaapkkpmegkfaaGreatR12
import Derived.Test.YtjaapkkpmegkfaaGreatR13
import Derived.Test.YtjaapkkpmegkfaaGreatC01
import Derived.Test.YtjaapkkpmegkfaaGreatC02
import Derived.Test.YtjaapkkpmegkfaaGreatC03
import Derived.Test.YtjaapkkpmegkfaaGreatC04
import Derived.Test.YtjaapkkpmegkfaaGreatC05
import Derived.Test.YtjaapkkpmegkfaaGreatC06
import Derived.Test.YtjaapkkpmegkfaaGreatC07
set_option linter.unusedVariables false
set_option linter.unusedSimpArgs false
namespace Go.Proofs.YtjaapkkpmegkfaaGreat.P
open Go.RowKit Go.Proofs.YtjaapkkpmegkfaaGreatW.PrintWords Go.Proofs.YtjaapkkpmegkfaaGreatW.PrintLast Go.Proofs.YtjaapkkpmegkfaaGreatW.PrintMore
attribute [local go_sem] JG JH JY JX Jv Ju JJ JK
attribute [local go_sem high] eqA26
mutual
def Qao.j0 : Nat → List S100 → List S26 → Bool → Option Bool
 | 0, _, _, _ => none
 | k + 1, x0, x1, x25 => if x25 = true then ((Qd.f k).bind fun t102 => (some t102)) else ((Qa3.f x0).bind fun t103 => ((some (([] : List S26) : List S26)).bind fun y106 => (if y106.length + x1.length < 3518437208883 then ((some (y106 ++ x1 : List S26)).bind fun y109 => ((QD.f k t103 y109).bind fun bt112 => ((Qav.f k x0).bind fun t116 => (if t116 = 0 then (Qao.j1 k x0 x1 t103 y109 bt112.1 bt112.2 t116 (decide ((x1.length : Int) > 6))) else (Qao.j1 k x0 x1 t103 y109 bt112.1 bt112.2 t116 false))))) else (none))))
def Qao.j1 : Nat → List S100 → List S26 → List S100 → List S26 → List (List Int) → Int → Int → Bool → Option Bool
 | 0, _, _, _, _, _, _, _, _ => none
 | k + 1, x0, x1, x5, x6, x7, x8, x9, x46 => if x46 = true then (Qao.j2 k x0 x1 x5 x6 x7 x8 8) else (Qao.j2 k x0 x1 x5 x6 x7 x8 x9)
def Qao.j2 : Nat → List S100 → List S26 → List S100 → List S26 → List (List Int) → Int → Int → Option Bool
 | 0, _, _, _, _, _, _, _ => none
 | k + 1, x0, x1, x5, x6, x7, x8, x9 => (Qay.f k x5 x0).bind fun t117 => (if t117 = true then (Qao.l0 k x0 x1 x6 x7 x8 x9 0) else (some false))
def Qao.l0 : Nat → List S100 → List S26 → List S26 → List (List Int) → Int → Int → Int → Option Bool
 | 0, _, _, _, _, _, _, _ => none
 | k + 1, x0, x1, x6, x7, x8, x9, x10 => if x10 < (x1.length : Int) then (if 0 ≤ x10 then (if x10 < (x6.length : Int) then (if ((!(((Qy x6 x10).f0.f0) == ((Qy x1 x10).f0.f0)) || (!(((Qy x6 x10).f0.f1) == ((Qy x1 x10).f0.f1)))) || ((!(((Qy x6 x10).f1.f0) == ((Qy x1 x10).f1.f0)) || (!(((Qy x6 x10).f1.f1) == ((Qy x1 x10).f1.f1)))) || (!(((Qy x6 x10).f2) == ((Qy x1 x10).f2))))) = true then (some false) else (if x9 = 0 then ((Qa0.f ((Qy x1 x10).f0.f0) ((Qy x1 x10).f0.f1) ((Qy x1 x10).f1.f0) ((Qy x1 x10).f1.f1) ((Qy x1 x10).f2)).bind fun t121 => (if t121 = true then (Qao.l0 k x0 x1 x6 x7 x8 x9 (wrap64 (x10 + 1))) else (Qao.l0 k x0 x1 x6 x7 x8 3 (wrap64 (x10 + 1))))) else (Qao.l0 k x0 x1 x6 x7 x8 x9 (wrap64 (x10 + 1))))) else (none)) else (none)) else (if x9 = 0 then ((Qar.f k x0 x1).bind fun t123 => (if x8 = 0 then (Qao.j4 k x7 t123 ((x7.length : Int) != (t123.length : Int))) else (Qao.j4 k x7 t123 true))) else (if x8 = x9 then (if (x7.length : Int) = 0 then ((Qd.f k).bind fun t122 => (some t122)) else (some false)) else (some false)))
def Qao.j4 : Nat → List (List Int) → List (List Int) → Bool → Option Bool
 | 0, _, _, _ => none
 | k + 1, x7, x11, x100 => if x100 = true then (some false) else (Qao.l1 k x7 x11 0)
def Qao.l1 : Nat → List (List Int) → List (List Int) → Int → Option Bool
 | 0, _, _, _ => none
 | k + 1, x7, x11, x12 => if x12 < (x11.length : Int) then (if 0 ≤ x12 then (if x12 < (x7.length : Int) then ((Qm.f k (Jo x7 x12) (Jo x11 x12)).bind fun t128 => (if t128 = true then (Qao.l1 k x7 x11 (wrap64 (x12 + 1))) else (some false))) else (none)) else (none)) else ((Qd.f k).bind fun t129 => (some t129))
end
def Qao.f (k : Nat) (l0 : List S100) (l1 : List S26) : Option Bool := if (l0.length : Int) > 20 then (Qao.j0 k l0 l1 true) else (if (l1.length : Int) > 20 then (Qao.j0 k l0 l1 true) else ((Qat.f k l0).bind fun t101 => (Qao.j0 k l0 l1 (!t101))))
theorem Qao.dead_j4 : ∀ k y0 y1 r, Qao.j4 k y0 y1 true = some r → r = true → False := by
 intro k y0 y1 r h hr
 cases k with
 | zero => simp [Qao.j4] at h
 | succ k => exact absurd ((Option.some.inj (show (some false : Option Bool) = some r from h)).trans hr) (by simp)
set_option maxHeartbeats 8000000 in
set_option maxRecDepth 100000 in
theorem Qao.calls_true (k : Nat) (A0 : Option Addr) (c0 : Nat) (l0 : List S100) (A1 : Option Addr) (c1 : Nat) (l1 : List S26) (r : Bool) (w : World) (hr0 : Kd.C k100 w A0 l0.length l0) (hc0 : l0.length ≤ c0) (hr1 : Kd.C k26 w A1 l1.length l1) (hc1 : l1.length ≤ c1) (hrt : r = true) (h : Qao.f k l0 l1 = some r) :
  Calls Tryz.prog 6 #[.slice A0 l0.length c0, .slice A1 l1.length c1] w fun e w' => e = .returned (.bool r) ∧ Below w.heap.size w w' := by
 have hu26 := Tryz.underlying26
 have HRT := Qa.mk hrt
 clear hrt
 have HR0 := Qa.mk hr0
 have HC0 := Qa.mk hc0
 clear hr0 hc0
 have HR1 := Qa.mk hr1
 have HC1 := Qa.mk hc1
 clear hr1 hc1
 have HB := Qa.mk (Below.refl w.heap.size w)
 have H : (if (l0.length : Int) > 20 then (Qao.j0 k l0 l1 true) else (if (l1.length : Int) > 20 then (Qao.j0 k l0 l1 true) else ((Qat.f k l0).bind fun t101 => (Qao.j0 k l0 l1 (!t101))))) = some r := h
 clear h
 have HC3 := Qa.mk H
 clear H
 go_enter Tryz.func6, Tryz.ntmps6
 go_upto_region 1 with (fail)
 repeat (go_quiet (fail); go_upto_region 1 with (fail))
 go_cut [25] (fun v25 wc => ∃ (kq : Nat) (x25_2 : Bool), v25 = .bool x25_2 ∧ Qa (Qao.j0 kq l0 l1 x25_2 = some r) ∧ Qa (kq ≤ k) ∧ Qa (Below w.heap.size w wc))
 case first =>
  have H := HC3.out
  clear HC3
  by_cases c4 : (l0.length : Int) > 20
  ·rw [if_pos c4] at H
   have c4b0 : decide (20 < (l0.length : Int)) = true := decide_eq_true c4
   have c4b1 : decide (20 < l0.length) = true := decide_eq_true (by omega)
   clear c4
   (first | rw [c4b0] | (simp only [QR, QU]; rw [c4b0]) | skip)
   have H' := Qa.mk H
   clear H
   go_wp2
   repeat (go_quiet (fail); try go_wp2)
   go_meet
   case rel => exact ⟨_, (true), eS, H', ⟨by first | omega | exact Nat.le_refl _⟩, ⟨pE HB⟩⟩
  ·rw [if_neg c4] at H
   have c4b0 : decide (20 < (l0.length : Int)) = false := decide_eq_false c4
   have c4b1 : decide (20 < l0.length) = false := decide_eq_false (by omega)
   clear c4
   (first | rw [c4b0] | (simp only [QR, QU]; rw [c4b0]) | skip)
   by_cases c5 : (l1.length : Int) > 20
   ·rw [if_pos c5] at H
    have c5b0 : decide (20 < (l1.length : Int)) = true := decide_eq_true c5
    have c5b1 : decide (20 < l1.length) = true := decide_eq_true (by omega)
    clear c5
    have H' := Qa.mk H
    clear H
    go_wp2
    repeat (go_quiet (fail); try go_wp2)
    go_meet
    case rel => exact ⟨_, (true), eS, H', ⟨by first | omega | exact Nat.le_refl _⟩, ⟨pE HB⟩⟩
   ·rw [if_neg c5] at H
    have c5b0 : decide (20 < (l1.length : Int)) = false := decide_eq_false c5
    have c5b1 : decide (20 < l1.length) = false := decide_eq_false (by omega)
    clear c5
    obtain ⟨t101, A6, H⟩ := bi H
    have H' := Qa.mk H
    clear H
    go_wp2_with (first | (go_at_call 31; (with_reducible refine (Qat.calls k _ _ l0 t101 _ ?side1 ?side2 A6.out).mono ?_); (case side1 => exact pC (Kd.C_below HR0.out HB.out)); (case side2 => exact HC0.out); rintro e w7 ⟨rfl, hb⟩; replace HB := bs HB hb; (try clear hb); (try clear hb2); (try clear hk); (try clear hi)))
    repeat (go_quiet (first | (go_at_call 31; (with_reducible refine (Qat.calls k _ _ l0 t101 _ ?side1 ?side2 A6.out).mono ?_); (case side1 => exact pC (Kd.C_below HR0.out HB.out)); (case side2 => exact HC0.out); rintro e w7 ⟨rfl, hb⟩; replace HB := bs HB hb; (try clear hb); (try clear hb2); (try clear hk); (try clear hi))); try go_wp2_with (first | (go_at_call 31; (with_reducible refine (Qat.calls k _ _ l0 t101 _ ?side1 ?side2 A6.out).mono ?_); (case side1 => exact pC (Kd.C_below HR0.out HB.out)); (case side2 => exact HC0.out); rintro e w7 ⟨rfl, hb⟩; replace HB := bs HB hb; (try clear hb); (try clear hb2); (try clear hk); (try clear hi))))
    go_meet
    case rel => exact ⟨_, (!t101), eS, H', ⟨by first | omega | exact Nat.le_refl _⟩, ⟨pE HB⟩⟩
 case rest =>
  clear HC3
  try clear c1
  try clear p2
  try clear c4
  try clear c4b0
  try clear c4b1
  try clear c5
  try clear c5b0
  try clear c5b1
  try clear c6
  obtain ⟨kq, x25_2, rfl, HA, HJ2, HB⟩ := hcut
  cases kq with
  | zero => exact absurd HA.out (by simp [Qao.j0])
  | succ kj2 =>
   have H := HA.out
   clear HA
   simp only [Qao.j0] at H
   by_cases c8 : x25_2 = true
   ·subst c8
    rw [if_pos rfl] at H
    obtain ⟨t102, A9, H⟩ := bi H
    obtain rfl := Option.some.inj H
    go_wp2_with (first | (go_at_call 15; (with_reducible refine (Qd.calls kj2  t102 _ A9.out).mono ?_); rintro e w10 ⟨rfl, hb⟩; replace HB := bs HB hb; (try clear hb); (try clear hb2); (try clear hk); (try clear hi)))
    repeat (go_quiet (first | (go_at_call 15; (with_reducible refine (Qd.calls kj2  t102 _ A9.out).mono ?_); rintro e w10 ⟨rfl, hb⟩; replace HB := bs HB hb; (try clear hb); (try clear hb2); (try clear hk); (try clear hi))); try go_wp2_with (first | (go_at_call 15; (with_reducible refine (Qd.calls kj2  t102 _ A9.out).mono ?_); rintro e w10 ⟨rfl, hb⟩; replace HB := bs HB hb; (try clear hb); (try clear hb2); (try clear hk); (try clear hi))))
    go_ret
    exact ⟨eT, pE HB⟩
   ·replace c8 := Bool.eq_false_iff.mpr c8
    subst c8
    rw [if_neg (show ¬ (false = true) by decide)] at H
    obtain ⟨t103, A11, H⟩ := bi H
    obtain ⟨y106, hy106⟩ : ∃ y_ : List S26, y_ = (([] : List S26)) := ⟨_, rfl⟩
    replace H : (if y106.length + l1.length < 3518437208883 then ((some (y106 ++ l1 : List S26)).bind fun y109 => ((QD.f kj2 t103 y109).bind fun bt112 => ((Qav.f kj2 l0).bind fun t116 => (if t116 = 0 then (Qao.j1 kj2 l0 l1 t103 y109 bt112.1 bt112.2 t116 (decide ((l1.length : Int) > 6))) else (Qao.j1 kj2 l0 l1 t103 y109 bt112.1 bt112.2 t116 false))))) else (none)) = some r := yy hy106 H
    have Ny106 := Qa.mk hy106
    clear hy106
    by_cases c12 : y106.length + l1.length < 3518437208883
    ·rw [if_pos c12] at H
     have LMc12 := Qa.mk c12
     clear c12
     obtain ⟨y109, hy109⟩ : ∃ y_ : List S26, y_ = (y106 ++ l1) := ⟨_, rfl⟩
     replace H : ((QD.f kj2 t103 y109).bind fun bt112 => ((Qav.f kj2 l0).bind fun t116 => (if t116 = 0 then (Qao.j1 kj2 l0 l1 t103 y109 bt112.1 bt112.2 t116 (decide ((l1.length : Int) > 6))) else (Qao.j1 kj2 l0 l1 t103 y109 bt112.1 bt112.2 t116 false)))) = some r := yy hy109 H
     have Ny109 := Qa.mk hy109
     clear hy109
     obtain ⟨⟨t112, t113⟩, A13, H⟩ := bi H
     obtain ⟨t116, A14, H⟩ := bi H
     have HC15 := Qa.mk H
     clear H
     go_upto_region 6 with (first | (go_at_call 16; (with_reducible refine (Qa3.calls _ _ l0 t103 _ ?side1 ?side2 A11.out).mono ?_); (case side1 => exact pC (Kd.C_below HR0.out HB.out)); (case side2 => exact HC0.out); rintro e w16 ⟨v104, rfl, ho0, hb⟩; have HO105 := rl ho0 HB; replace HB := bs HB hb; (try clear hb); (try clear hb2); (try clear hk); (try clear hi); (try clear ho0)) | ((with_reducible refine gd 29 ?_); (try (refine QG (by rfl) ?_; dsimp only)); refine Kd.R_lit k26 _ 26 ?hg (N := 29) ?hd (xs := ([] : List S26)) (inner := []) (ok := fun _ => True) (okp := fun _ => True) ?hr ?hp (fun _ hk => hk) trivial (Below.refl _ _) (Nat.le_refl _) (by simp) ?_; (case hd => rfl); (case hg => rfl); (case hr => first | (go_simp; done) | (go_simp; rfl)); (case hp => exact (Reps.none _ _)); intro v107 w17 ho18 hb hg_ hnew_; clear hg_ hnew_; (first | rw [← Ny106.out] at ho18 | (simp only [Int.reduceToNat] at ho18; rw [← Ny106.out] at ho18)); replace HO105 := rb HO105 hb; have HO108 := rl ho18 HB; replace HB := bs HB hb; clear hb ho18) | ((with_reducible refine JA (b := .append) (xs := #[.tmp 29, .tmp 30]) rfl ?_); (try (refine QG (by rfl) ?_; dsimp only)); at_builtin; refine Kd.R_append_rows k26 (w0 := w) w.heap.size rfl (.tmp 29) (.tmp 30) 58 26 (.agg #[(.int .i64 0), (.int .i64 0), (.int .i64 0), (.int .i64 0), (.int .i64 0)]) 40 rfl Tryz.underlying58 Qcg rfl (by decide) (by omega) v107 y106 l1 _ _ _ (fun _ => True) (fun _ => False) rfl rfl ?aO ?aR (fun _ _ h => h) (fun _ h => h.elim) ?aF ?aB ?aS ?aL ?_; (case aR => exact pC (Kd.C_below HR1.out HB.out)); (case aB => exact (pE HB)); (case aF => exact (fun _ _ => trivial)); (case aO => exact (pR HO108.out)); (case aS => exact (Qr (pE HB))); (case aL => have := LMc12.out; omega); intro v110 w19 ho hb hg hat; rw [← Ny109.out] at ho; replace HO105 := Qa.mk (Kd.R_over' (pR HO105.out) (Kd.R_typed (pR HO108.out)) (by decide) hg); replace HB := Qa.mk (hb); have HO111 := Qa.mk (ho); clear HO108; clear ho hb hg hat; obtain ⟨Ao20, co20, eo20⟩ := Kd.R_slice HO105.out; subst eo20; obtain ⟨Ao21, co21, eo21⟩ := Kd.R_slice HO111.out; subst eo21) | (go_at_call 38; (with_reducible refine (QD.calls kj2 _ _ t103 _ _ y109 t112 t113 _ ?side1 ?side2 ?side3 ?side4 A13.out).mono ?_); (case side1 => exact pC (Kd.R_reads' HO105.out).2.2); (case side2 => exact (Kd.R_reads' HO105.out).2.1); (case side3 => exact pC (Kd.R_reads' HO111.out).2.2); (case side4 => exact (Kd.R_reads' HO111.out).2.1); rintro e w22 ⟨v114, rfl, ho0, hb⟩; replace HO105 := rb HO105 hb; replace HO111 := rb HO111 hb; have HO115 := Qa.mk (Kd.S_lower ho0 (Qr (pE HB))); replace HB := bs HB hb; (try clear hb); (try clear hb2); (try clear hk); (try clear hi); (try clear ho0)) | (go_at_call 24; (with_reducible refine (Qav.calls kj2 _ _ l0 t116 _ ?side1 ?side2 A14.out).mono ?_); (case side1 => exact pC (Kd.C_below HR0.out HB.out)); (case side2 => exact HC0.out); rintro e w23 ⟨rfl, hb⟩; replace HO105 := rb HO105 hb; replace HO111 := rb HO111 hb; replace HO115 := Qa.mk (Kd.S_below (pS HO115.out) hb); replace HB := bs HB hb; (try clear hb); (try clear hb2); (try clear hk); (try clear hi)))
     repeat (go_quiet (first | (go_at_call 16; (with_reducible refine (Qa3.calls _ _ l0 t103 _ ?side1 ?side2 A11.out).mono ?_); (case side1 => exact pC (Kd.C_below HR0.out HB.out)); (case side2 => exact HC0.out); rintro e w16 ⟨v104, rfl, ho0, hb⟩; have HO105 := rl ho0 HB; replace HB := bs HB hb; (try clear hb); (try clear hb2); (try clear hk); (try clear hi); (try clear ho0)) | ((with_reducible refine gd 29 ?_); (try (refine QG (by rfl) ?_; dsimp only)); refine Kd.R_lit k26 _ 26 ?hg (N := 29) ?hd (xs := ([] : List S26)) (inner := []) (ok := fun _ => True) (okp := fun _ => True) ?hr ?hp (fun _ hk => hk) trivial (Below.refl _ _) (Nat.le_refl _) (by simp) ?_; (case hd => rfl); (case hg => rfl); (case hr => first | (go_simp; done) | (go_simp; rfl)); (case hp => exact (Reps.none _ _)); intro v107 w17 ho18 hb hg_ hnew_; clear hg_ hnew_; (first | rw [← Ny106.out] at ho18 | (simp only [Int.reduceToNat] at ho18; rw [← Ny106.out] at ho18)); replace HO105 := rb HO105 hb; have HO108 := rl ho18 HB; replace HB := bs HB hb; clear hb ho18) | ((with_reducible refine JA (b := .append) (xs := #[.tmp 29, .tmp 30]) rfl ?_); (try (refine QG (by rfl) ?_; dsimp only)); at_builtin; refine Kd.R_append_rows k26 (w0 := w) w.heap.size rfl (.tmp 29) (.tmp 30) 58 26 (.agg #[(.int .i64 0), (.int .i64 0), (.int .i64 0), (.int .i64 0), (.int .i64 0)]) 40 rfl Tryz.underlying58 Qcg rfl (by decide) (by omega) v107 y106 l1 _ _ _ (fun _ => True) (fun _ => False) rfl rfl ?aO ?aR (fun _ _ h => h) (fun _ h => h.elim) ?aF ?aB ?aS ?aL ?_; (case aR => exact pC (Kd.C_below HR1.out HB.out)); (case aB => exact (pE HB)); (case aF => exact (fun _ _ => trivial)); (case aO => exact (pR HO108.out)); (case aS => exact (Qr (pE HB))); (case aL => have := LMc12.out; omega); intro v110 w19 ho hb hg hat; rw [← Ny109.out] at ho; replace HO105 := Qa.mk (Kd.R_over' (pR HO105.out) (Kd.R_typed (pR HO108.out)) (by decide) hg); replace HB := Qa.mk (hb); have HO111 := Qa.mk (ho); clear HO108; clear ho hb hg hat; obtain ⟨Ao20, co20, eo20⟩ := Kd.R_slice HO105.out; subst eo20; obtain ⟨Ao21, co21, eo21⟩ := Kd.R_slice HO111.out; subst eo21) | (go_at_call 38; (with_reducible refine (QD.calls kj2 _ _ t103 _ _ y109 t112 t113 _ ?side1 ?side2 ?side3 ?side4 A13.out).mono ?_); (case side1 => exact pC (Kd.R_reads' HO105.out).2.2); (case side2 => exact (Kd.R_reads' HO105.out).2.1); (case side3 => exact pC (Kd.R_reads' HO111.out).2.2); (case side4 => exact (Kd.R_reads' HO111.out).2.1); rintro e w22 ⟨v114, rfl, ho0, hb⟩; replace HO105 := rb HO105 hb; replace HO111 := rb HO111 hb; have HO115 := Qa.mk (Kd.S_lower ho0 (Qr (pE HB))); replace HB := bs HB hb; (try clear hb); (try clear hb2); (try clear hk); (try clear hi); (try clear ho0)) | (go_at_call 24; (with_reducible refine (Qav.calls kj2 _ _ l0 t116 _ ?side1 ?side2 A14.out).mono ?_); (case side1 => exact pC (Kd.C_below HR0.out HB.out)); (case side2 => exact HC0.out); rintro e w23 ⟨rfl, hb⟩; replace HO105 := rb HO105 hb; replace HO111 := rb HO111 hb; replace HO115 := Qa.mk (Kd.S_below (pS HO115.out) hb); replace HB := bs HB hb; (try clear hb); (try clear hb2); (try clear hk); (try clear hi))); go_upto_region 6 with (first | (go_at_call 16; (with_reducible refine (Qa3.calls _ _ l0 t103 _ ?side1 ?side2 A11.out).mono ?_); (case side1 => exact pC (Kd.C_below HR0.out HB.out)); (case side2 => exact HC0.out); rintro e w16 ⟨v104, rfl, ho0, hb⟩; have HO105 := rl ho0 HB; replace HB := bs HB hb; (try clear hb); (try clear hb2); (try clear hk); (try clear hi); (try clear ho0)) | ((with_reducible refine gd 29 ?_); (try (refine QG (by rfl) ?_; dsimp only)); refine Kd.R_lit k26 _ 26 ?hg (N := 29) ?hd (xs := ([] : List S26)) (inner := []) (ok := fun _ => True) (okp := fun _ => True) ?hr ?hp (fun _ hk => hk) trivial (Below.refl _ _) (Nat.le_refl _) (by simp) ?_; (case hd => rfl); (case hg => rfl); (case hr => first | (go_simp; done) | (go_simp; rfl)); (case hp => exact (Reps.none _ _)); intro v107 w17 ho18 hb hg_ hnew_; clear hg_ hnew_; (first | rw [← Ny106.out] at ho18 | (simp only [Int.reduceToNat] at ho18; rw [← Ny106.out] at ho18)); replace HO105 := rb HO105 hb; have HO108 := rl ho18 HB; replace HB := bs HB hb; clear hb ho18) | ((with_reducible refine JA (b := .append) (xs := #[.tmp 29, .tmp 30]) rfl ?_); (try (refine QG (by rfl) ?_; dsimp only)); at_builtin; refine Kd.R_append_rows k26 (w0 := w) w.heap.size rfl (.tmp 29) (.tmp 30) 58 26 (.agg #[(.int .i64 0), (.int .i64 0), (.int .i64 0), (.int .i64 0), (.int .i64 0)]) 40 rfl Tryz.underlying58 Qcg rfl (by decide) (by omega) v107 y106 l1 _ _ _ (fun _ => True) (fun _ => False) rfl rfl ?aO ?aR (fun _ _ h => h) (fun _ h => h.elim) ?aF ?aB ?aS ?aL ?_; (case aR => exact pC (Kd.C_below HR1.out HB.out)); (case aB => exact (pE HB)); (case aF => exact (fun _ _ => trivial)); (case aO => exact (pR HO108.out)); (case aS => exact (Qr (pE HB))); (case aL => have := LMc12.out; omega); intro v110 w19 ho hb hg hat; rw [← Ny109.out] at ho; replace HO105 := Qa.mk (Kd.R_over' (pR HO105.out) (Kd.R_typed (pR HO108.out)) (by decide) hg); replace HB := Qa.mk (hb); have HO111 := Qa.mk (ho); clear HO108; clear ho hb hg hat; obtain ⟨Ao20, co20, eo20⟩ := Kd.R_slice HO105.out; subst eo20; obtain ⟨Ao21, co21, eo21⟩ := Kd.R_slice HO111.out; subst eo21) | (go_at_call 38; (with_reducible refine (QD.calls kj2 _ _ t103 _ _ y109 t112 t113 _ ?side1 ?side2 ?side3 ?side4 A13.out).mono ?_); (case side1 => exact pC (Kd.R_reads' HO105.out).2.2); (case side2 => exact (Kd.R_reads' HO105.out).2.1); (case side3 => exact pC (Kd.R_reads' HO111.out).2.2); (case side4 => exact (Kd.R_reads' HO111.out).2.1); rintro e w22 ⟨v114, rfl, ho0, hb⟩; replace HO105 := rb HO105 hb; replace HO111 := rb HO111 hb; have HO115 := Qa.mk (Kd.S_lower ho0 (Qr (pE HB))); replace HB := bs HB hb; (try clear hb); (try clear hb2); (try clear hk); (try clear hi); (try clear ho0)) | (go_at_call 24; (with_reducible refine (Qav.calls kj2 _ _ l0 t116 _ ?side1 ?side2 A14.out).mono ?_); (case side1 => exact pC (Kd.C_below HR0.out HB.out)); (case side2 => exact HC0.out); rintro e w23 ⟨rfl, hb⟩; replace HO105 := rb HO105 hb; replace HO111 := rb HO111 hb; replace HO115 := Qa.mk (Kd.S_below (pS HO115.out) hb); replace HB := bs HB hb; (try clear hb); (try clear hb2); (try clear hk); (try clear hi))))
     (try simp only [Act.put, List.setIfInBounds_toArray, List.set_cons_zero, List.set_cons_succ])
     go_cut [46] (fun v46 wc => ∃ (kq : Nat) (x46_14 : Bool), v46 = .bool x46_14 ∧ Qa (Qao.j1 kq l0 l1 t103 y109 t112 t113 t116 x46_14 = some r) ∧ Qa (kq ≤ kj2) ∧ Qa (Kd.R k100 100 wc w.heap.size (fun _ => True) (.slice Ao20 t103.length co20) t103) ∧ Qa (Kd.R k26 26 wc w.heap.size (fun _ => True) (.slice Ao21 y109.length co21) y109) ∧ Qa (Kd.S (Kd.slice 3 (Kd.int .i64)) 27 wc w.heap.size (fun _ => True) v114 t112) ∧ Qa (Below w.heap.size w wc))
     case first =>
      have H := HC15.out
      clear HC15
      by_cases c24 : t116 = 0
      ·rw [if_pos c24] at H
       have c24b0 : (t116 == 0) = true := beq_iff_eq.mpr c24
       have c24b1 : (t116 != 0) = false := bne_eq_false_iff_eq.mpr c24
       clear c24
       (first | rw [c24b0] | (simp only [QR, QU]; rw [c24b0]) | skip)
       have H' := Qa.mk H
       clear H
       go_wp2
       repeat (go_quiet (fail); try go_wp2)
       go_meet
       case rel => exact ⟨_, (decide ((l1.length : Int) > 6)), eS, H', ⟨by have := HJ2.out; first | omega | exact Nat.le_refl _⟩, ⟨by (with_reducible repeat (first | apply Kd.R_alloc | apply Kd.R_drewN | apply Kd.R_drew)); exact HO105.out⟩, ⟨by (with_reducible repeat (first | apply Kd.R_alloc | apply Kd.R_drewN | apply Kd.R_drew)); exact HO111.out⟩, ⟨by (with_reducible repeat (first | apply Kd.S_alloc | apply Kd.S_drewN | apply Kd.S_drew)); exact HO115.out⟩, ⟨pE HB⟩⟩
      ·rw [if_neg c24] at H
       have c24b0 : (t116 == 0) = false := beq_eq_false_iff_ne.mpr c24
       have c24b1 : (t116 != 0) = true := bne_iff_ne.mpr c24
       (first | rw [c24b0] | (simp only [QR, QU]; rw [c24b0]) | skip)
       have H' := Qa.mk H
       clear H
       go_wp2
       repeat (go_quiet (fail); try go_wp2)
       go_meet
       case rel => exact ⟨_, (false), eS, H', ⟨by have := HJ2.out; first | omega | exact Nat.le_refl _⟩, ⟨by (with_reducible repeat (first | apply Kd.R_alloc | apply Kd.R_drewN | apply Kd.R_drew)); exact HO105.out⟩, ⟨by (with_reducible repeat (first | apply Kd.R_alloc | apply Kd.R_drewN | apply Kd.R_drew)); exact HO111.out⟩, ⟨by (with_reducible repeat (first | apply Kd.S_alloc | apply Kd.S_drewN | apply Kd.S_drew)); exact HO115.out⟩, ⟨pE HB⟩⟩
     case rest =>
      clear HC15
      try clear c1
      try clear c2
      try clear p2
      try clear c4
      try clear c4b0
      try clear c4b1
      try clear c5
      try clear c5b0
      try clear c5b1
      try clear c6
      try clear c8
      try clear c12
      try clear c24
      try clear c24b0
      try clear c24b1
      try clear p2
      obtain ⟨kq, x46_14, rfl, HA, HJ14, HO_5, HO_6, HO_7, HB⟩ := hcut
      cases kq with
      | zero => exact absurd HA.out (by simp [Qao.j1])
      | succ kj14 =>
       have H := HA.out
       clear HA
       simp only [Qao.j1] at H
       have HC25 := Qa.mk H
       clear H
       go_upto_if 46 with (fail)
       repeat (go_quiet (fail); go_upto_if 46 with (fail))
       go_cut [9] (fun v9 wc => ∃ (kq : Nat) (x9_24 : Int), v9 = .int .i64 x9_24 ∧ Qa (Qao.j2 kq l0 l1 t103 y109 t112 t113 x9_24 = some r) ∧ Qa (kq ≤ kj14) ∧ Qa (Kd.R k100 100 wc w.heap.size (fun _ => True) (.slice Ao20 t103.length co20) t103) ∧ Qa (Kd.R k26 26 wc w.heap.size (fun _ => True) (.slice Ao21 y109.length co21) y109) ∧ Qa (Kd.S (Kd.slice 3 (Kd.int .i64)) 27 wc w.heap.size (fun _ => True) v114 t112) ∧ Qa (Below w.heap.size w wc))
       case first =>
        have H := HC25.out
        clear HC25
        by_cases c26 : x46_14 = true
        ·subst c26
         rw [if_pos rfl] at H
         have H' := Qa.mk H
         clear H
         go_wp2
         repeat (go_quiet (fail); try go_wp2)
         go_meet
         case rel => exact ⟨_, (8), eS, H', ⟨by have := HJ2.out; have := HJ14.out; first | omega | exact Nat.le_refl _⟩, ⟨by (with_reducible repeat (first | apply Kd.R_alloc | apply Kd.R_drewN | apply Kd.R_drew)); exact HO_5.out⟩, ⟨by (with_reducible repeat (first | apply Kd.R_alloc | apply Kd.R_drewN | apply Kd.R_drew)); exact HO_6.out⟩, ⟨by (with_reducible repeat (first | apply Kd.S_alloc | apply Kd.S_drewN | apply Kd.S_drew)); exact HO_7.out⟩, ⟨pE HB⟩⟩
        ·replace c26 := Bool.eq_false_iff.mpr c26
         subst c26
         rw [if_neg (show ¬ (false = true) by decide)] at H
         have H' := Qa.mk H
         clear H
         go_wp2
         repeat (go_quiet (fail); try go_wp2)
         go_meet
         case rel => exact ⟨_, (t116), eS, H', ⟨by have := HJ2.out; have := HJ14.out; first | omega | exact Nat.le_refl _⟩, ⟨by (with_reducible repeat (first | apply Kd.R_alloc | apply Kd.R_drewN | apply Kd.R_drew)); exact HO_5.out⟩, ⟨by (with_reducible repeat (first | apply Kd.R_alloc | apply Kd.R_drewN | apply Kd.R_drew)); exact HO_6.out⟩, ⟨by (with_reducible repeat (first | apply Kd.S_alloc | apply Kd.S_drewN | apply Kd.S_drew)); exact HO_7.out⟩, ⟨pE HB⟩⟩
       case rest =>
        clear HC25
        try clear c1
        try clear c2
        try clear p2
        try clear c4
        try clear c4b0
        try clear c4b1
        try clear c5
        try clear c5b0
        try clear c5b1
        try clear c6
        try clear c8
        try clear c12
        try clear c24
        try clear c24b0
        try clear c24b1
        try clear c26
        try clear p2
        obtain ⟨kq, x9_24, rfl, HA, HJ24, HO_5, HO_6, HO_7, HB⟩ := hcut
        cases kq with
        | zero => exact absurd HA.out (by simp [Qao.j2])
        | succ kj24 =>
         have H := HA.out
         clear HA
         simp only [Qao.j2] at H
         obtain ⟨t117, A27, H⟩ := bi H
         by_cases c28 : t117 = true
         ·subst c28
          rw [if_pos rfl] at H
          have H' := Qa.mk H
          clear H
          go_wp2_with (first | (go_at_call 22; (with_reducible refine (Qay.calls kj24 _ _ t103 _ _ l0 true _ ?side1 ?side2 ?side3 ?side4 A27.out).mono ?_); (case side1 => exact pC (Kd.R_reads' HO_5.out).2.2); (case side2 => exact (Kd.R_reads' HO_5.out).2.1); (case side3 => exact pC (Kd.C_below HR0.out HB.out)); (case side4 => exact HC0.out); rintro e w' ⟨rfl, ⟨nd, rfl⟩⟩; (try first | exact ⟨rfl, _, World.drewN_drewN _ _ _⟩ | exact ⟨rfl, _, Eq.trans (World.drewN_drewN _ _ _) (congrArg (World.drewN _) (Nat.add_assoc _ _ _))⟩)))
          repeat (go_quiet (first | (go_at_call 22; (with_reducible refine (Qay.calls kj24 _ _ t103 _ _ l0 true _ ?side1 ?side2 ?side3 ?side4 A27.out).mono ?_); (case side1 => exact pC (Kd.R_reads' HO_5.out).2.2); (case side2 => exact (Kd.R_reads' HO_5.out).2.1); (case side3 => exact pC (Kd.C_below HR0.out HB.out)); (case side4 => exact HC0.out); rintro e w' ⟨rfl, ⟨nd, rfl⟩⟩; (try first | exact ⟨rfl, _, World.drewN_drewN _ _ _⟩ | exact ⟨rfl, _, Eq.trans (World.drewN_drewN _ _ _) (congrArg (World.drewN _) (Nat.add_assoc _ _ _))⟩))); try go_wp2_with (first | (go_at_call 22; (with_reducible refine (Qay.calls kj24 _ _ t103 _ _ l0 true _ ?side1 ?side2 ?side3 ?side4 A27.out).mono ?_); (case side1 => exact pC (Kd.R_reads' HO_5.out).2.2); (case side2 => exact (Kd.R_reads' HO_5.out).2.1); (case side3 => exact pC (Kd.C_below HR0.out HB.out)); (case side4 => exact HC0.out); rintro e w' ⟨rfl, ⟨nd, rfl⟩⟩; (try first | exact ⟨rfl, _, World.drewN_drewN _ _ _⟩ | exact ⟨rfl, _, Eq.trans (World.drewN_drewN _ _ _) (congrArg (World.drewN _) (Nat.add_assoc _ _ _))⟩))))
          go_loopg [9, 10] kj24 (fun kq v9 v10 w' => ∃ (x9_4 : Int) (x10_4 : Int), v9 = .int .i64 x9_4 ∧ v10 = .int .i64 x10_4 ∧ Qa (Qao.l0 kq l0 l1 y109 t112 t113 x9_4 x10_4 = some r) ∧ Qa (kq ≤ kj24) ∧ Qa (Kd.R k26 26 w' w.heap.size (fun _ => True) (.slice Ao21 y109.length co21) y109) ∧ Qa (Kd.S (Kd.slice 3 (Kd.int .i64)) 27 w' w.heap.size (fun _ => True) v114 t112) ∧ Qa (Below w.heap.size w w'))
          case atStart => exact ⟨(x9_24), (0), eS, eS, H', ⟨Nat.le_refl _⟩, ⟨by (with_reducible repeat (first | apply Kd.R_alloc | apply Kd.R_drewN | apply Kd.R_drew)); exact HO_6.out⟩, ⟨by (with_reducible repeat (first | apply Kd.S_alloc | apply Kd.S_drewN | apply Kd.S_drew)); exact HO_7.out⟩, ⟨pE HB⟩⟩
          case round =>
           clear H'
           try clear c1
           try clear c2
           try clear p2
           try clear c4
           try clear c4b0
           try clear c4b1
           try clear c5
           try clear c5b0
           try clear c5b1
           try clear c6
           try clear c8
           try clear c12
           try clear c24
           try clear c24b0
           try clear c24b1
           try clear c26
           try clear c28
           try clear p2
           obtain ⟨x9_4, x10_4, rfl, rfl, HA, HK4, HO_6, HO_7, HB⟩ := hrel
           cases gk with
           | zero => exact absurd HA.out (by simp [Qao.l0])
           | succ k4 =>
            have H := HA.out
            clear HA
            simp only [Qao.l0] at H
            by_cases c29 : x10_4 < (l1.length : Int)
            ·rw [if_pos c29] at H
             have c29b0 : decide (x10_4 < (l1.length : Int)) = true := decide_eq_true c29
             clear c29
             by_cases c30 : 0 ≤ x10_4
             ·rw [if_pos c30] at H
              have c30b0 : decide (0 ≤ x10_4) = true := decide_eq_true c30
              clear c30
              by_cases c31 : x10_4 < (y109.length : Int)
              ·rw [if_pos c31] at H
               have c31b0 : decide (x10_4 < (y109.length : Int)) = true := decide_eq_true c31
               clear c31
               by_cases c32 : ((!(((Qy y109 x10_4).f0.f0) == ((Qy l1 x10_4).f0.f0)) || (!(((Qy y109 x10_4).f0.f1) == ((Qy l1 x10_4).f0.f1)))) || ((!(((Qy y109 x10_4).f1.f0) == ((Qy l1 x10_4).f1.f0)) || (!(((Qy y109 x10_4).f1.f1) == ((Qy l1 x10_4).f1.f1)))) || (!(((Qy y109 x10_4).f2) == ((Qy l1 x10_4).f2))))) = true
               ·rw [if_pos c32] at H
                have c32b0 : ((!(((Qy y109 x10_4).f0.f0) == ((Qy l1 x10_4).f0.f0)) || (!(((Qy y109 x10_4).f0.f1) == ((Qy l1 x10_4).f0.f1)))) || ((!(((Qy y109 x10_4).f1.f0) == ((Qy l1 x10_4).f1.f0)) || (!(((Qy y109 x10_4).f1.f1) == ((Qy l1 x10_4).f1.f1)))) || (!(((Qy y109 x10_4).f2) == ((Qy l1 x10_4).f2))))) = true := c32
                clear c32
                exact absurd ((Option.some.inj H).trans HRT.out) (by simp)
               ·rw [if_neg c32] at H
                have c32b0 : ((!(((Qy y109 x10_4).f0.f0) == ((Qy l1 x10_4).f0.f0)) || (!(((Qy y109 x10_4).f0.f1) == ((Qy l1 x10_4).f0.f1)))) || ((!(((Qy y109 x10_4).f1.f0) == ((Qy l1 x10_4).f1.f0)) || (!(((Qy y109 x10_4).f1.f1) == ((Qy l1 x10_4).f1.f1)))) || (!(((Qy y109 x10_4).f2) == ((Qy l1 x10_4).f2))))) = false := by simpa using c32
                clear c32
                by_cases c33 : x9_4 = 0
                ·rw [if_pos c33] at H
                 have c33b0 : (x9_4 == 0) = true := beq_iff_eq.mpr c33
                 have c33b1 : (x9_4 != 0) = false := bne_eq_false_iff_eq.mpr c33
                 clear c33
                 obtain ⟨t121, A34, H⟩ := bi H
                 by_cases c35 : t121 = true
                 ·subst c35
                  rw [if_pos rfl] at H
                  have H' := Qa.mk H
                  clear H
                  have p118 : 0 ≤ (x10_4 : Int) := dT
                  have q118 : x10_4 < (y109.length : Int) := dT
                  obtain ⟨ad118, e118, hx118_0, hx118_1, hx118_2, hx118_3, hx118_4⟩ := Yb (Kd.R_reads' HO_6.out).2.2 x10_4 p118 q118
                  cases e118
                  replace p118 := eq_true p118
                  replace q118 := eq_true q118
                  have p119 : 0 ≤ (x10_4 : Int) := dT
                  have q119 : x10_4 < (l1.length : Int) := dT
                  obtain ⟨ad119, e119, hx119_0, hx119_1, hx119_2, hx119_3, hx119_4⟩ := Yb HR1.out x10_4 p119 q119
                  cases e119
                  replace hx119_0 := cut_ HB hx119_0
                  replace hx119_1 := cut_ HB hx119_1
                  replace hx119_2 := cut_ HB hx119_2
                  replace hx119_3 := cut_ HB hx119_3
                  replace hx119_4 := cut_ HB hx119_4
                  replace p119 := eq_true p119
                  replace q119 := eq_true q119
                  have p120 : 0 ≤ (x10_4 : Int) := dT
                  have q120 : x10_4 < (l1.length : Int) := dT
                  obtain ⟨ad120, e120, hx120_0, hx120_1, hx120_2, hx120_3, hx120_4⟩ := Yb HR1.out x10_4 p120 q120
                  obtain rfl : ad119 = ad120 := (by injection e120)
                  replace hx120_0 := cut_ HB hx120_0
                  replace hx120_1 := cut_ HB hx120_1
                  replace hx120_2 := cut_ HB hx120_2
                  replace hx120_3 := cut_ HB hx120_3
                  replace hx120_4 := cut_ HB hx120_4
                  replace p120 := eq_true p120
                  replace q120 := eq_true q120
                  go_wp2_with (first | (go_at_call 25; (with_reducible refine (Qa0.calls ((Qy l1 x10_4).f0.f0) ((Qy l1 x10_4).f0.f1) ((Qy l1 x10_4).f1.f0) ((Qy l1 x10_4).f1.f1) ((Qy l1 x10_4).f2) true _ A34.out).mono ?_); rintro e w36 ⟨rfl, hb⟩; replace HO_6 := rb HO_6 hb; replace HO_7 := Qa.mk (Kd.S_below (pS HO_7.out) hb); replace HB := bs HB hb; (try clear hb); (try clear hb2); (try clear hk); (try clear hi)))
                  repeat (go_quiet (first | (go_at_call 25; (with_reducible refine (Qa0.calls ((Qy l1 x10_4).f0.f0) ((Qy l1 x10_4).f0.f1) ((Qy l1 x10_4).f1.f0) ((Qy l1 x10_4).f1.f1) ((Qy l1 x10_4).f2) true _ A34.out).mono ?_); rintro e w36 ⟨rfl, hb⟩; replace HO_6 := rb HO_6 hb; replace HO_7 := Qa.mk (Kd.S_below (pS HO_7.out) hb); replace HB := bs HB hb; (try clear hb); (try clear hb2); (try clear hk); (try clear hi))); try go_wp2_with (first | (go_at_call 25; (with_reducible refine (Qa0.calls ((Qy l1 x10_4).f0.f0) ((Qy l1 x10_4).f0.f1) ((Qy l1 x10_4).f1.f0) ((Qy l1 x10_4).f1.f1) ((Qy l1 x10_4).f2) true _ A34.out).mono ?_); rintro e w36 ⟨rfl, hb⟩; replace HO_6 := rb HO_6 hb; replace HO_7 := Qa.mk (Kd.S_below (pS HO_7.out) hb); replace HB := bs HB hb; (try clear hb); (try clear hb2); (try clear hk); (try clear hi))))
                  go_roundg k4
                  case measure => have := HJ2.out; have := HJ14.out; have := HJ24.out; have := HK4.out; omega
                  case rel => exact ⟨(x9_4), (wrap64 (x10_4 + 1)), eS, eS, H', ⟨by have := HJ2.out; have := HJ14.out; have := HJ24.out; have := HK4.out; omega⟩, ⟨by (with_reducible repeat (first | apply Kd.R_alloc | apply Kd.R_drewN | apply Kd.R_drew)); exact HO_6.out⟩, ⟨by (with_reducible repeat (first | apply Kd.S_alloc | apply Kd.S_drewN | apply Kd.S_drew)); exact HO_7.out⟩, ⟨pE HB⟩⟩
                 ·replace c35 := Bool.eq_false_iff.mpr c35
                  subst c35
                  rw [if_neg (show ¬ (false = true) by decide)] at H
                  have H' := Qa.mk H
                  clear H
                  have p118 : 0 ≤ (x10_4 : Int) := dT
                  have q118 : x10_4 < (y109.length : Int) := dT
                  obtain ⟨ad118, e118, hx118_0, hx118_1, hx118_2, hx118_3, hx118_4⟩ := Yb (Kd.R_reads' HO_6.out).2.2 x10_4 p118 q118
                  cases e118
                  replace p118 := eq_true p118
                  replace q118 := eq_true q118
                  have p119 : 0 ≤ (x10_4 : Int) := dT
                  have q119 : x10_4 < (l1.length : Int) := dT
                  obtain ⟨ad119, e119, hx119_0, hx119_1, hx119_2, hx119_3, hx119_4⟩ := Yb HR1.out x10_4 p119 q119
                  cases e119
                  replace hx119_0 := cut_ HB hx119_0
                  replace hx119_1 := cut_ HB hx119_1
                  replace hx119_2 := cut_ HB hx119_2
                  replace hx119_3 := cut_ HB hx119_3
                  replace hx119_4 := cut_ HB hx119_4
                  replace p119 := eq_true p119
                  replace q119 := eq_true q119
                  have p120 : 0 ≤ (x10_4 : Int) := dT
                  have q120 : x10_4 < (l1.length : Int) := dT
                  obtain ⟨ad120, e120, hx120_0, hx120_1, hx120_2, hx120_3, hx120_4⟩ := Yb HR1.out x10_4 p120 q120
                  obtain rfl : ad119 = ad120 := (by injection e120)
                  replace hx120_0 := cut_ HB hx120_0
                  replace hx120_1 := cut_ HB hx120_1
                  replace hx120_2 := cut_ HB hx120_2
                  replace hx120_3 := cut_ HB hx120_3
                  replace hx120_4 := cut_ HB hx120_4
                  replace p120 := eq_true p120
                  replace q120 := eq_true q120
                  go_wp2_with (first | (go_at_call 25; (with_reducible refine (Qa0.calls ((Qy l1 x10_4).f0.f0) ((Qy l1 x10_4).f0.f1) ((Qy l1 x10_4).f1.f0) ((Qy l1 x10_4).f1.f1) ((Qy l1 x10_4).f2) false _ A34.out).mono ?_); rintro e w37 ⟨rfl, hb⟩; replace HO_6 := rb HO_6 hb; replace HO_7 := Qa.mk (Kd.S_below (pS HO_7.out) hb); replace HB := bs HB hb; (try clear hb); (try clear hb2); (try clear hk); (try clear hi)))
                  repeat (go_quiet (first | (go_at_call 25; (with_reducible refine (Qa0.calls ((Qy l1 x10_4).f0.f0) ((Qy l1 x10_4).f0.f1) ((Qy l1 x10_4).f1.f0) ((Qy l1 x10_4).f1.f1) ((Qy l1 x10_4).f2) false _ A34.out).mono ?_); rintro e w37 ⟨rfl, hb⟩; replace HO_6 := rb HO_6 hb; replace HO_7 := Qa.mk (Kd.S_below (pS HO_7.out) hb); replace HB := bs HB hb; (try clear hb); (try clear hb2); (try clear hk); (try clear hi))); try go_wp2_with (first | (go_at_call 25; (with_reducible refine (Qa0.calls ((Qy l1 x10_4).f0.f0) ((Qy l1 x10_4).f0.f1) ((Qy l1 x10_4).f1.f0) ((Qy l1 x10_4).f1.f1) ((Qy l1 x10_4).f2) false _ A34.out).mono ?_); rintro e w37 ⟨rfl, hb⟩; replace HO_6 := rb HO_6 hb; replace HO_7 := Qa.mk (Kd.S_below (pS HO_7.out) hb); replace HB := bs HB hb; (try clear hb); (try clear hb2); (try clear hk); (try clear hi))))
                  go_roundg k4
                  case measure => have := HJ2.out; have := HJ14.out; have := HJ24.out; have := HK4.out; omega
                  case rel => exact ⟨(3), (wrap64 (x10_4 + 1)), eS, eS, H', ⟨by have := HJ2.out; have := HJ14.out; have := HJ24.out; have := HK4.out; omega⟩, ⟨by (with_reducible repeat (first | apply Kd.R_alloc | apply Kd.R_drewN | apply Kd.R_drew)); exact HO_6.out⟩, ⟨by (with_reducible repeat (first | apply Kd.S_alloc | apply Kd.S_drewN | apply Kd.S_drew)); exact HO_7.out⟩, ⟨pE HB⟩⟩
                ·rw [if_neg c33] at H
                 have c33b0 : (x9_4 == 0) = false := beq_eq_false_iff_ne.mpr c33
                 have c33b1 : (x9_4 != 0) = true := bne_iff_ne.mpr c33
                 have H' := Qa.mk H
                 clear H
                 have p118 : 0 ≤ (x10_4 : Int) := dT
                 have q118 : x10_4 < (y109.length : Int) := dT
                 obtain ⟨ad118, e118, hx118_0, hx118_1, hx118_2, hx118_3, hx118_4⟩ := Yb (Kd.R_reads' HO_6.out).2.2 x10_4 p118 q118
                 cases e118
                 replace p118 := eq_true p118
                 replace q118 := eq_true q118
                 have p119 : 0 ≤ (x10_4 : Int) := dT
                 have q119 : x10_4 < (l1.length : Int) := dT
                 obtain ⟨ad119, e119, hx119_0, hx119_1, hx119_2, hx119_3, hx119_4⟩ := Yb HR1.out x10_4 p119 q119
                 cases e119
                 replace hx119_0 := cut_ HB hx119_0
                 replace hx119_1 := cut_ HB hx119_1
                 replace hx119_2 := cut_ HB hx119_2
                 replace hx119_3 := cut_ HB hx119_3
                 replace hx119_4 := cut_ HB hx119_4
                 replace p119 := eq_true p119
                 replace q119 := eq_true q119
                 go_wp2
                 repeat (go_quiet (fail); try go_wp2)
                 go_roundg k4
                 case measure => have := HJ2.out; have := HJ14.out; have := HJ24.out; have := HK4.out; omega
                 case rel => exact ⟨(x9_4), (wrap64 (x10_4 + 1)), eS, eS, H', ⟨by have := HJ2.out; have := HJ14.out; have := HJ24.out; have := HK4.out; omega⟩, ⟨by (with_reducible repeat (first | apply Kd.R_alloc | apply Kd.R_drewN | apply Kd.R_drew)); exact HO_6.out⟩, ⟨by (with_reducible repeat (first | apply Kd.S_alloc | apply Kd.S_drewN | apply Kd.S_drew)); exact HO_7.out⟩, ⟨pE HB⟩⟩
              ·rw [if_neg c31] at H
               exact absurd H (by simp)
             ·rw [if_neg c30] at H
              exact absurd H (by simp)
            ·rw [if_neg c29] at H
             have c29b0 : decide (x10_4 < (l1.length : Int)) = false := decide_eq_false c29
             clear c29
             by_cases c38 : x9_4 = 0
             ·rw [if_pos c38] at H
              have c38b0 : (x9_4 == 0) = true := beq_iff_eq.mpr c38
              have c38b1 : (x9_4 != 0) = false := bne_eq_false_iff_eq.mpr c38
              clear c38
              obtain ⟨t123, A39, H⟩ := bi H
              have HC40 := Qa.mk H
              clear H
              go_upto_region 20 with (first | (go_at_call 39; (with_reducible refine (Qar.calls k4 _ _ l0 _ _ l1 t123 _ ?side1 ?side2 ?side3 ?side4 A39.out).mono ?_); (case side1 => exact pC (Kd.C_below HR0.out HB.out)); (case side2 => exact HC0.out); (case side3 => exact pC (Kd.C_below HR1.out HB.out)); (case side4 => exact HC1.out); rintro e w41 ⟨v124, rfl, ho0, hb⟩; replace HO_6 := rb HO_6 hb; have HO125 := Qa.mk (Kd.S_lower (Kd.S_new' ho0 (Kd.S_lt (pS HO_7.out))) (Qr (pE HB))); replace HO_7 := Qa.mk (Kd.S_elder' (pS HO_7.out) (Kd.S_base ho0) hb); replace HB := bs HB hb; (try clear hb); (try clear hb2); (try clear hk); (try clear hi); (try clear ho0)))
              repeat (go_quiet (first | (go_at_call 39; (with_reducible refine (Qar.calls k4 _ _ l0 _ _ l1 t123 _ ?side1 ?side2 ?side3 ?side4 A39.out).mono ?_); (case side1 => exact pC (Kd.C_below HR0.out HB.out)); (case side2 => exact HC0.out); (case side3 => exact pC (Kd.C_below HR1.out HB.out)); (case side4 => exact HC1.out); rintro e w41 ⟨v124, rfl, ho0, hb⟩; replace HO_6 := rb HO_6 hb; have HO125 := Qa.mk (Kd.S_lower (Kd.S_new' ho0 (Kd.S_lt (pS HO_7.out))) (Qr (pE HB))); replace HO_7 := Qa.mk (Kd.S_elder' (pS HO_7.out) (Kd.S_base ho0) hb); replace HB := bs HB hb; (try clear hb); (try clear hb2); (try clear hk); (try clear hi); (try clear ho0))); go_upto_region 20 with (first | (go_at_call 39; (with_reducible refine (Qar.calls k4 _ _ l0 _ _ l1 t123 _ ?side1 ?side2 ?side3 ?side4 A39.out).mono ?_); (case side1 => exact pC (Kd.C_below HR0.out HB.out)); (case side2 => exact HC0.out); (case side3 => exact pC (Kd.C_below HR1.out HB.out)); (case side4 => exact HC1.out); rintro e w41 ⟨v124, rfl, ho0, hb⟩; replace HO_6 := rb HO_6 hb; have HO125 := Qa.mk (Kd.S_lower (Kd.S_new' ho0 (Kd.S_lt (pS HO_7.out))) (Qr (pE HB))); replace HO_7 := Qa.mk (Kd.S_elder' (pS HO_7.out) (Kd.S_base ho0) hb); replace HB := bs HB hb; (try clear hb); (try clear hb2); (try clear hk); (try clear hi); (try clear ho0))))
              (try simp only [Act.put, List.setIfInBounds_toArray, List.set_cons_zero, List.set_cons_succ])
              go_cut [100] (fun v100 wc => ∃ (kq : Nat) (x100_39 : Bool), v100 = .bool x100_39 ∧ Qa (Qao.j4 kq t112 t123 x100_39 = some r) ∧ Qa (kq ≤ k4) ∧ Qa (Kd.S (Kd.slice 3 (Kd.int .i64)) 27 wc w.heap.size (fun k_ => some k_ ≠ (v124 : Value).ownBlock) v114 t112) ∧ Qa (Kd.S (Kd.slice 3 (Kd.int .i64)) 27 wc w.heap.size (fun k_ => some k_ ≠ (v114 : Value).ownBlock) v124 t123) ∧ Qa (Below w.heap.size w wc))
              case first =>
               have H := HC40.out
               clear HC40
               by_cases c42 : t113 = 0
               ·rw [if_pos c42] at H
                have c42b0 : (t113 == 0) = true := beq_iff_eq.mpr c42
                have c42b1 : (t113 != 0) = false := bne_eq_false_iff_eq.mpr c42
                clear c42
                (first | rw [c42b0] | (simp only [QR, QU]; rw [c42b0]) | skip)
                have H' := Qa.mk H
                clear H
                obtain ⟨Ao43, co43, eo43⟩ := Kd.S_slice HO_7.out
                subst eo43
                obtain ⟨Ao44, co44, eo44⟩ := Kd.S_slice HO125.out
                subst eo44
                go_wp2
                repeat (go_quiet (fail); try go_wp2)
                go_meet
                case rel => exact ⟨_, (((t112.length : Int) != (t123.length : Int))), eS, H', ⟨by have := HJ2.out; have := HJ14.out; have := HJ24.out; have := HK4.out; first | omega | exact Nat.le_refl _⟩, ⟨by (with_reducible repeat (first | apply Kd.S_alloc | apply Kd.S_drewN | apply Kd.S_drew)); exact Kd.S_mono HO_7.out (fun _ hk => hk.2)⟩, ⟨by (with_reducible repeat (first | apply Kd.S_alloc | apply Kd.S_drewN | apply Kd.S_drew)); exact Kd.S_mono HO125.out (fun _ hk => hk.2)⟩, ⟨pE HB⟩⟩
               ·rw [if_neg c42] at H
                have c42b0 : (t113 == 0) = false := beq_eq_false_iff_ne.mpr c42
                have c42b1 : (t113 != 0) = true := bne_iff_ne.mpr c42
                (first | rw [c42b0] | (simp only [QR, QU]; rw [c42b0]) | skip)
                exact (Qao.dead_j4 _ _ _ _ H HRT.out).elim
              case rest =>
               clear HC40
               try clear c1
               try clear p1
               try clear q1
               try clear hx1
               try clear c2
               try clear p2
               try clear c3
               try clear c4
               try clear c4b0
               try clear c4b1
               try clear c5
               try clear c5b0
               try clear c5b1
               try clear c6
               try clear p6
               try clear c8
               try clear p11
               try clear q11
               try clear hx11
               try clear c12
               try clear p12
               try clear q12
               try clear hx12
               try clear c24
               try clear c24b0
               try clear c24b1
               try clear c26
               try clear c28
               try clear c29
               try clear c29b0
               try clear c30
               try clear c30b0
               try clear c31
               try clear c31b0
               try clear c32
               try clear c32b0
               try clear c33
               try clear c33b0
               try clear c33b1
               try clear c35
               try clear c38
               try clear c38b0
               try clear c38b1
               try clear c42
               try clear c42b0
               try clear c42b1
               try clear hx118_0
               try clear hx118_1
               try clear hx118_2
               try clear hx118_3
               try clear hx118_4
               try clear hx119_0
               try clear hx119_1
               try clear hx119_2
               try clear hx119_3
               try clear hx119_4
               try clear hx120_0
               try clear hx120_1
               try clear hx120_2
               try clear hx120_3
               try clear hx120_4
               try clear p118
               try clear p119
               try clear p120
               try clear p2
               try clear q118
               try clear q119
               try clear q120
               obtain ⟨kq, x100_39, rfl, HA, HJ39, HO_7, HO_11, HB⟩ := hcut
               cases kq with
               | zero => exact absurd HA.out (by simp [Qao.j4])
               | succ kj39 =>
                have H := HA.out
                clear HA
                simp only [Qao.j4] at H
                by_cases c45 : x100_39 = true
                ·subst c45
                 rw [if_pos rfl] at H
                 exact absurd ((Option.some.inj H).trans HRT.out) (by simp)
                ·replace c45 := Bool.eq_false_iff.mpr c45
                 subst c45
                 rw [if_neg (show ¬ (false = true) by decide)] at H
                 have H' := Qa.mk H
                 clear H
                 go_wp2
                 repeat (go_quiet (fail); try go_wp2)
                 go_loopg [12] kj39 (fun kq v12 w' => ∃ (x12_6 : Int), v12 = .int .i64 x12_6 ∧ Qa (Qao.l1 kq t112 t123 x12_6 = some r) ∧ Qa (kq ≤ kj39) ∧ Qa (Kd.S (Kd.slice 3 (Kd.int .i64)) 27 w' w.heap.size (fun k_ => some k_ ≠ (v124 : Value).ownBlock) v114 t112) ∧ Qa (Kd.S (Kd.slice 3 (Kd.int .i64)) 27 w' w.heap.size (fun k_ => some k_ ≠ (v114 : Value).ownBlock) v124 t123) ∧ Qa (Below w.heap.size w w'))
                 case atStart => exact ⟨(0), eS, H', ⟨Nat.le_refl _⟩, ⟨by (with_reducible repeat (first | apply Kd.S_alloc | apply Kd.S_drewN | apply Kd.S_drew)); exact HO_7.out⟩, ⟨by (with_reducible repeat (first | apply Kd.S_alloc | apply Kd.S_drewN | apply Kd.S_drew)); exact HO_11.out⟩, ⟨pE HB⟩⟩
                 case round =>
                  clear H'
                  try clear c1
                  try clear p1
                  try clear q1
                  try clear hx1
                  try clear c2
                  try clear p2
                  try clear c3
                  try clear c4
                  try clear c4b0
                  try clear c4b1
                  try clear c5
                  try clear c5b0
                  try clear c5b1
                  try clear c6
                  try clear p6
                  try clear c8
                  try clear p11
                  try clear q11
                  try clear hx11
                  try clear c12
                  try clear p12
                  try clear q12
                  try clear hx12
                  try clear c24
                  try clear c24b0
                  try clear c24b1
                  try clear c26
                  try clear c28
                  try clear c29
                  try clear c29b0
                  try clear c30
                  try clear c30b0
                  try clear c31
                  try clear c31b0
                  try clear c32
                  try clear c32b0
                  try clear c33
                  try clear c33b0
                  try clear c33b1
                  try clear c35
                  try clear c38
                  try clear c38b0
                  try clear c38b1
                  try clear c42
                  try clear c42b0
                  try clear c42b1
                  try clear c45
                  try clear hx118_0
                  try clear hx118_1
                  try clear hx118_2
                  try clear hx118_3
                  try clear hx118_4
                  try clear hx119_0
                  try clear hx119_1
                  try clear hx119_2
                  try clear hx119_3
                  try clear hx119_4
                  try clear hx120_0
                  try clear hx120_1
                  try clear hx120_2
                  try clear hx120_3
                  try clear hx120_4
                  try clear p1
                  try clear p11
                  try clear p118
                  try clear p119
                  try clear p12
                  try clear p120
                  try clear p2
                  try clear p6
                  try clear q1
                  try clear q11
                  try clear q118
                  try clear q119
                  try clear q12
                  try clear q120
                  obtain ⟨x12_6, rfl, HA, HK6, HO_7, HO_11, HB⟩ := hrel
                  cases gk with
                  | zero => exact absurd HA.out (by simp [Qao.l1])
                  | succ k6 =>
                   have H := HA.out
                   clear HA
                   simp only [Qao.l1] at H
                   by_cases c46 : x12_6 < (t123.length : Int)
                   ·rw [if_pos c46] at H
                    have c46b0 : decide (x12_6 < (t123.length : Int)) = true := decide_eq_true c46
                    clear c46
                    by_cases c47 : 0 ≤ x12_6
                    ·rw [if_pos c47] at H
                     have c47b0 : decide (0 ≤ x12_6) = true := decide_eq_true c47
                     clear c47
                     by_cases c48 : x12_6 < (t112.length : Int)
                     ·rw [if_pos c48] at H
                      have c48b0 : decide (x12_6 < (t112.length : Int)) = true := decide_eq_true c48
                      clear c48
                      obtain ⟨t128, A49, H⟩ := bi H
                      by_cases c50 : t128 = true
                      ·subst c50
                       rw [if_pos rfl] at H
                       have H' := Qa.mk H
                       clear H
                       obtain ⟨Ao51, co51, eo51⟩ := Kd.S_slice HO_11.out
                       subst eo51
                       obtain ⟨Ao52, co52, eo52⟩ := Kd.S_slice HO_7.out
                       subst eo52
                       have p126 : 0 ≤ (x12_6 : Int) := dT
                       have q126 : x12_6 < (t112.length : Int) := dT
                       obtain ⟨ad126, A126_0, c126_0, e126, hx126_0, hl126_0, hi126_0⟩ := XZ (Kd.S_reads' HO_7.out).2.2 x12_6 p126 q126
                       cases e126
                       obtain ⟨ce126, hce126, hMe126, hcc126⟩ := Kd.S_get HO_7.out [] x12_6 p126 (by first | exact q126 | exact dT | (have e_ := (Kd.S_reads' HO_7.out).1; omega))
                       obtain ⟨ve126_0, rfl, ge126_0⟩ := hMe126
                       have hv126_0 := hcc126 0 _ rfl
                       rw [Nat.add_zero, show ((Kd.slice 3 (Kd.int .i64))).sz = 1 from rfl, Nat.mul_one] at hv126_0
                       replace hv126_0 := Option.some.inj (hv126_0.symm.trans hx126_0)
                       rw [hv126_0] at ge126_0
                       have HL126_0 := Qa.mk (show Kd.R (Kd.int .i64) 3 _ _ _ _ (Jo t112 x12_6) from ge126_0)
                       clear hv126_0 ge126_0 hcc126 hce126
                       have HR126_0 := Qa.mk hi126_0
                       have HC126_0 := Qa.mk hl126_0
                       clear hi126_0 hl126_0
                       replace p126 := eq_true p126
                       replace q126 := eq_true q126
                       have p127 : 0 ≤ (x12_6 : Int) := dT
                       have q127 : x12_6 < (t123.length : Int) := dT
                       obtain ⟨ad127, A127_0, c127_0, e127, hx127_0, hl127_0, hi127_0⟩ := XZ (Kd.S_reads' HO_11.out).2.2 x12_6 p127 q127
                       cases e127
                       obtain ⟨ce127, hce127, hMe127, hcc127⟩ := Kd.S_get HO_11.out [] x12_6 p127 (by first | exact q127 | exact dT | (have e_ := (Kd.S_reads' HO_11.out).1; omega))
                       obtain ⟨ve127_0, rfl, ge127_0⟩ := hMe127
                       have hv127_0 := hcc127 0 _ rfl
                       rw [Nat.add_zero, show ((Kd.slice 3 (Kd.int .i64))).sz = 1 from rfl, Nat.mul_one] at hv127_0
                       replace hv127_0 := Option.some.inj (hv127_0.symm.trans hx127_0)
                       rw [hv127_0] at ge127_0
                       have HL127_0 := Qa.mk (show Kd.R (Kd.int .i64) 3 _ _ _ _ (Jo t123 x12_6) from ge127_0)
                       clear hv127_0 ge127_0 hcc127 hce127
                       have HR127_0 := Qa.mk hi127_0
                       have HC127_0 := Qa.mk hl127_0
                       clear hi127_0 hl127_0
                       replace p127 := eq_true p127
                       replace q127 := eq_true q127
                       go_wp2_with (first | (go_at_call 23; (with_reducible refine (Qm.calls k6 _ _ (Jo t112 x12_6) _ _ (Jo t123 x12_6) true _ ?side1 ?side2 ?side3 ?side4 A49.out).mono ?_); (case side1 => exact pC HR126_0.out); (case side2 => exact HC126_0.out); (case side3 => exact pC HR127_0.out); (case side4 => exact HC127_0.out); rintro e w' ⟨rfl, ⟨nd, rfl⟩⟩; (try first | exact ⟨rfl, _, World.drewN_drewN _ _ _⟩ | exact ⟨rfl, _, Eq.trans (World.drewN_drewN _ _ _) (congrArg (World.drewN _) (Nat.add_assoc _ _ _))⟩)))
                       repeat (go_quiet (first | (go_at_call 23; (with_reducible refine (Qm.calls k6 _ _ (Jo t112 x12_6) _ _ (Jo t123 x12_6) true _ ?side1 ?side2 ?side3 ?side4 A49.out).mono ?_); (case side1 => exact pC HR126_0.out); (case side2 => exact HC126_0.out); (case side3 => exact pC HR127_0.out); (case side4 => exact HC127_0.out); rintro e w' ⟨rfl, ⟨nd, rfl⟩⟩; (try first | exact ⟨rfl, _, World.drewN_drewN _ _ _⟩ | exact ⟨rfl, _, Eq.trans (World.drewN_drewN _ _ _) (congrArg (World.drewN _) (Nat.add_assoc _ _ _))⟩))); try go_wp2_with (first | (go_at_call 23; (with_reducible refine (Qm.calls k6 _ _ (Jo t112 x12_6) _ _ (Jo t123 x12_6) true _ ?side1 ?side2 ?side3 ?side4 A49.out).mono ?_); (case side1 => exact pC HR126_0.out); (case side2 => exact HC126_0.out); (case side3 => exact pC HR127_0.out); (case side4 => exact HC127_0.out); rintro e w' ⟨rfl, ⟨nd, rfl⟩⟩; (try first | exact ⟨rfl, _, World.drewN_drewN _ _ _⟩ | exact ⟨rfl, _, Eq.trans (World.drewN_drewN _ _ _) (congrArg (World.drewN _) (Nat.add_assoc _ _ _))⟩))))
                       go_roundg k6
                       case measure => have := HJ2.out; have := HJ14.out; have := HJ24.out; have := HK4.out; have := HJ39.out; have := HK6.out; omega
                       case rel => exact ⟨(wrap64 (x12_6 + 1)), eS, H', ⟨by have := HJ2.out; have := HJ14.out; have := HJ24.out; have := HK4.out; have := HJ39.out; have := HK6.out; omega⟩, ⟨by (with_reducible repeat (first | apply Kd.S_alloc | apply Kd.S_drewN | apply Kd.S_drew)); exact HO_7.out⟩, ⟨by (with_reducible repeat (first | apply Kd.S_alloc | apply Kd.S_drewN | apply Kd.S_drew)); exact HO_11.out⟩, ⟨pE HB⟩⟩
                      ·replace c50 := Bool.eq_false_iff.mpr c50
                       subst c50
                       rw [if_neg (show ¬ (false = true) by decide)] at H
                       exact absurd ((Option.some.inj H).trans HRT.out) (by simp)
                     ·rw [if_neg c48] at H
                      exact absurd H (by simp)
                    ·rw [if_neg c47] at H
                     exact absurd H (by simp)
                   ·rw [if_neg c46] at H
                    have c46b0 : decide (x12_6 < (t123.length : Int)) = false := decide_eq_false c46
                    clear c46
                    obtain ⟨t129, A53, H⟩ := bi H
                    obtain rfl := Option.some.inj H
                    obtain ⟨Ao54, co54, eo54⟩ := Kd.S_slice HO_11.out
                    subst eo54
                    go_wp2_with (first | (go_at_call 15; (with_reducible refine (Qd.calls k6  t129 _ A53.out).mono ?_); rintro e w55 ⟨rfl, hb⟩; replace HO_7 := Qa.mk (Kd.S_below (pS HO_7.out) hb); replace HO_11 := Qa.mk (Kd.S_below (pS HO_11.out) hb); replace HB := bs HB hb; (try clear hb); (try clear hb2); (try clear hk); (try clear hi)))
                    repeat (go_quiet (first | (go_at_call 15; (with_reducible refine (Qd.calls k6  t129 _ A53.out).mono ?_); rintro e w55 ⟨rfl, hb⟩; replace HO_7 := Qa.mk (Kd.S_below (pS HO_7.out) hb); replace HO_11 := Qa.mk (Kd.S_below (pS HO_11.out) hb); replace HB := bs HB hb; (try clear hb); (try clear hb2); (try clear hk); (try clear hi))); try go_wp2_with (first | (go_at_call 15; (with_reducible refine (Qd.calls k6  t129 _ A53.out).mono ?_); rintro e w55 ⟨rfl, hb⟩; replace HO_7 := Qa.mk (Kd.S_below (pS HO_7.out) hb); replace HO_11 := Qa.mk (Kd.S_below (pS HO_11.out) hb); replace HB := bs HB hb; (try clear hb); (try clear hb2); (try clear hk); (try clear hi))))
                    go_ret
                    exact ⟨eT, pE HB⟩
             ·rw [if_neg c38] at H
              have c38b0 : (x9_4 == 0) = false := beq_eq_false_iff_ne.mpr c38
              have c38b1 : (x9_4 != 0) = true := bne_iff_ne.mpr c38
              by_cases c56 : t113 = x9_4
              ·rw [if_pos c56] at H
               have c56b0 : (t113 == x9_4) = true := beq_iff_eq.mpr c56
               have c56b1 : (t113 != x9_4) = false := bne_eq_false_iff_eq.mpr c56
               clear c56
               by_cases c57 : (t112.length : Int) = 0
               ·rw [if_pos c57] at H
                have c57b0 : ((t112.length : Int) == 0) = true := beq_iff_eq.mpr c57
                have c57b1 : ((t112.length : Int) != 0) = false := bne_eq_false_iff_eq.mpr c57
                clear c57
                obtain ⟨t122, A58, H⟩ := bi H
                obtain rfl := Option.some.inj H
                obtain ⟨Ao59, co59, eo59⟩ := Kd.S_slice HO_7.out
                subst eo59
                go_wp2_with (first | (go_at_call 15; (with_reducible refine (Qd.calls k4  t122 _ A58.out).mono ?_); rintro e w60 ⟨rfl, hb⟩; replace HO_6 := rb HO_6 hb; replace HO_7 := Qa.mk (Kd.S_below (pS HO_7.out) hb); replace HB := bs HB hb; (try clear hb); (try clear hb2); (try clear hk); (try clear hi)))
                repeat (go_quiet (first | (go_at_call 15; (with_reducible refine (Qd.calls k4  t122 _ A58.out).mono ?_); rintro e w60 ⟨rfl, hb⟩; replace HO_6 := rb HO_6 hb; replace HO_7 := Qa.mk (Kd.S_below (pS HO_7.out) hb); replace HB := bs HB hb; (try clear hb); (try clear hb2); (try clear hk); (try clear hi))); try go_wp2_with (first | (go_at_call 15; (with_reducible refine (Qd.calls k4  t122 _ A58.out).mono ?_); rintro e w60 ⟨rfl, hb⟩; replace HO_6 := rb HO_6 hb; replace HO_7 := Qa.mk (Kd.S_below (pS HO_7.out) hb); replace HB := bs HB hb; (try clear hb); (try clear hb2); (try clear hk); (try clear hi))))
                go_ret
                exact ⟨eT, pE HB⟩
               ·rw [if_neg c57] at H
                have c57b0 : ((t112.length : Int) == 0) = false := beq_eq_false_iff_ne.mpr c57
                have c57b1 : ((t112.length : Int) != 0) = true := bne_iff_ne.mpr c57
                have c57b2 : ¬ (t112 = []) := fun h_ => c57 (by rw [h_]; rfl)
                exact absurd ((Option.some.inj H).trans HRT.out) (by simp)
              ·rw [if_neg c56] at H
               have c56b0 : (t113 == x9_4) = false := beq_eq_false_iff_ne.mpr c56
               have c56b1 : (t113 != x9_4) = true := bne_iff_ne.mpr c56
               exact absurd ((Option.some.inj H).trans HRT.out) (by simp)
         ·replace c28 := Bool.eq_false_iff.mpr c28
          subst c28
          rw [if_neg (show ¬ (false = true) by decide)] at H
          exact absurd ((Option.some.inj H).trans HRT.out) (by simp)
    ·rw [if_neg c12] at H
     exact absurd H (by simp)
end Go.Proofs.YtjaapkkpmegkfaaGreat.P
