/- Part 4 of what the law's proof needs: words, walks of functions and plain facts. -/
import Derived.Shelf.SlicesQ.Load
import Derived.Shelf.Abstract
import Derived.Lib.Hide
import Derived.Lib.BufferMore
import Derived.Lib.LazyBuf
import Derived.Test.YtjaapkkpmegkfaaGreatM02
set_option linter.unusedVariables false
set_option linter.unusedSimpArgs false
namespace Go.Proofs.YtjaapkkpmegkfaaGreat.P
open Go.RowKit Go.Proofs.YtjaapkkpmegkfaaGreatW.PrintWords Go.Proofs.YtjaapkkpmegkfaaGreatW.PrintLast Go.Proofs.YtjaapkkpmegkfaaGreatW.PrintMore
attribute [local go_sem] JG JH JY JX Jv Ju JJ JK
def Zk.f (a0_0 a0_1 a0_2 a0_3 a0_4 : Int) : Option Bool := (Q1.f a0_0 a0_1 0 200).bind fun t102 => (if t102 = true then ((Qk.f 0 500 (([a0_2] : List Int))).bind fun t106 => (if t106 = true then ((Qk.f 0 50 (([a0_3] : List Int))).bind fun t110 => (if t110 = true then ((Qk.f 0 12 (([a0_4] : List Int))).bind fun t114 => (some (!t114))) else (some true))) else (some true))) else (some true))
set_option maxHeartbeats 8000000 in
set_option maxRecDepth 100000 in
theorem Zk.calls (a0_0 a0_1 a0_2 a0_3 a0_4 : Int) (r : Bool) (w : World) (h : Zk.f a0_0 a0_1 a0_2 a0_3 a0_4 = some r) :
  Calls Tryz.prog 66 #[.agg #[.int .i64 a0_0, .int .i64 a0_1, .int .i64 a0_2, .int .i64 a0_3, .int .i64 a0_4]] w fun e w' => e = .returned (.bool r) ∧ Below w.heap.size w w' := by
 have hu100 := Tryz.underlying100
 have hu24 := Tryz.underlying24
 have HB := Qa.mk (Below.refl w.heap.size w)
 have H : ((Q1.f a0_0 a0_1 0 200).bind fun t102 => (if t102 = true then ((Qk.f 0 500 (([a0_2] : List Int))).bind fun t106 => (if t106 = true then ((Qk.f 0 50 (([a0_3] : List Int))).bind fun t110 => (if t110 = true then ((Qk.f 0 12 (([a0_4] : List Int))).bind fun t114 => (some (!t114))) else (some true))) else (some true))) else (some true))) = some r := h
 clear h
 obtain ⟨t102, A2, H⟩ := bi H
 by_cases c3 : t102 = true
 ·subst c3
  rw [if_pos rfl] at H
  obtain ⟨y103, hy103⟩ : ∃ y_ : List Int, y_ = (([a0_2] : List Int)) := ⟨_, rfl⟩
  replace H : Option.bind (Qk.f 0 500 y103) _ = some r := yy hy103 H
  have Ny103 := Qa.mk hy103
  clear hy103
  obtain ⟨t106, A4, H⟩ := bi H
  by_cases c5 : t106 = true
  ·subst c5
   rw [if_pos rfl] at H
   obtain ⟨y107, hy107⟩ : ∃ y_ : List Int, y_ = (([a0_3] : List Int)) := ⟨_, rfl⟩
   replace H : Option.bind (Qk.f 0 50 y107) _ = some r := yy hy107 H
   have Ny107 := Qa.mk hy107
   clear hy107
   obtain ⟨t110, A6, H⟩ := bi H
   by_cases c7 : t110 = true
   ·subst c7
    rw [if_pos rfl] at H
    obtain ⟨y111, hy111⟩ : ∃ y_ : List Int, y_ = (([a0_4] : List Int)) := ⟨_, rfl⟩
    replace H : Option.bind (Qk.f 0 12 y111) _ = some r := yy hy111 H
    have Ny111 := Qa.mk hy111
    clear hy111
    obtain ⟨t114, A8, H⟩ := bi H
    obtain rfl := Option.some.inj H
    go_enter Tryz.func66, Tryz.ntmps66
    go_wp2_with (first | ((with_reducible refine gd 1 ?_); (try (refine QG (by rfl) ?_; dsimp only)); refine bx 1 #[.int .i64 a0_0, .int .i64 a0_1, .int .i64 a0_2, .int .i64 a0_3, .int .i64 a0_4] 100 ?_; intro gb101 hg w9 BK101 hb; have GW101 := gs HB hg; replace HB := bs HB hb; clear hb hg; obtain ⟨_, _, _, _, _, _, _, _, _, _⟩ := cf5 BK101) | ((with_reducible refine gc 67 rfl ?_); refine gL 5 Tryz.func67 #[.agg #[.int .i64 a0_0, .int .i64 a0_1], .int .i64 0, .int .i64 200] ?_; (with_reducible refine (Q1.calls a0_0 a0_1 0 200 true _ A2.out).mono ?_); rintro e w11 ⟨rfl, hb⟩; refine ⟨_, rfl, ?_⟩; replace BK101 := bb BK101 hb; replace HB := bs HB hb; clear hb; obtain ⟨_, _, _, _, _, _, _, _, _, _⟩ := cf5 BK101) | ((with_reducible refine gd 10 ?_); (try (refine QG (by rfl) ?_; dsimp only)); refine Kd.R_lit (Kd.int .i64) _ 3 ?hg (N := 10) ?hd (xs := ([a0_2] : List Int)) (inner := [.int .i64 a0_2]) (ok := fun _ => True) (okp := fun _ => True) ?hr ?hp (fun _ hk => hk) trivial (Below.refl _ _) (Nat.le_refl _) (by simp) ?_; (case hd => rfl); (case hg => rfl); (case hr => first | (go_simp; done) | (go_simp; rfl)); (case hp => exact (Reps.one (show Kd.M (Kd.int .i64) _ _ _ a0_2 [.int .i64 a0_2] from rfl) (Reps.none _ _))); intro v104 w13 ho14 hb hg_ hnew_; clear hg_ hnew_; (first | rw [← Ny103.out] at ho14 | (simp only [Int.reduceToNat] at ho14; rw [← Ny103.out] at ho14)); have HO105 := rl ho14 HB; replace BK101 := bb BK101 hb; replace HB := bs HB hb; clear hb ho14; obtain ⟨Ao15, co15, eo15⟩ := Kd.R_slice HO105.out; subst eo15) | (go_at_call 68; (with_reducible refine (Qk.calls 0 500 _ _ y103 true _ ?side1 ?side2 A4.out).mono ?_); (case side1 => exact pC (Kd.R_reads' HO105.out).2.2); (case side2 => exact (Kd.R_reads' HO105.out).2.1); rintro e w16 ⟨rfl, hb⟩; replace HO105 := rb HO105 hb; replace BK101 := bb BK101 hb; replace HB := bs HB hb; (try clear hb); (try clear hb2); (try clear hk); (try clear hi); obtain ⟨_, _, _, _, _, _, _, _, _, _⟩ := cf5 BK101) | ((with_reducible refine gd 17 ?_); (try (refine QG (by rfl) ?_; dsimp only)); refine Kd.R_lit (Kd.int .i64) _ 3 ?hg (N := 17) ?hd (xs := ([a0_3] : List Int)) (inner := [.int .i64 a0_3]) (ok := fun _ => True) (okp := fun _ => True) ?hr ?hp (fun _ hk => hk) trivial (Below.refl _ _) (Nat.le_refl _) (by simp) ?_; (case hd => rfl); (case hg => rfl); (case hr => first | (go_simp; done) | (go_simp; rfl)); (case hp => exact (Reps.one (show Kd.M (Kd.int .i64) _ _ _ a0_3 [.int .i64 a0_3] from rfl) (Reps.none _ _))); intro v108 w18 ho19 hb hg_ hnew_; clear hg_ hnew_; (first | rw [← Ny107.out] at ho19 | (simp only [Int.reduceToNat] at ho19; rw [← Ny107.out] at ho19)); have HO109 := Qa.mk (Kd.R_lower (Kd.R_new' ho19 (Kd.R_lt (pR HO105.out))) (Qr (pE HB))); replace HO105 := re HO105 ho19 hb; replace BK101 := bb BK101 hb; replace HB := bs HB hb; clear hb ho19; obtain ⟨Ao20, co20, eo20⟩ := Kd.R_slice HO109.out; subst eo20) | (go_at_call 68; (with_reducible refine (Qk.calls 0 50 _ _ y107 true _ ?side1 ?side2 A6.out).mono ?_); (case side1 => exact pC (Kd.R_reads' HO109.out).2.2); (case side2 => exact (Kd.R_reads' HO109.out).2.1); rintro e w21 ⟨rfl, hb⟩; replace HO105 := rb HO105 hb; replace HO109 := rb HO109 hb; replace BK101 := bb BK101 hb; replace HB := bs HB hb; (try clear hb); (try clear hb2); (try clear hk); (try clear hi); obtain ⟨_, _, _, _, _, _, _, _, _, _⟩ := cf5 BK101) | ((with_reducible refine gd 24 ?_); (try (refine QG (by rfl) ?_; dsimp only)); refine Kd.R_lit (Kd.int .i64) _ 3 ?hg (N := 24) ?hd (xs := ([a0_4] : List Int)) (inner := [.int .i64 a0_4]) (ok := fun _ => True) (okp := fun _ => True) ?hr ?hp (fun _ hk => hk) trivial (Below.refl _ _) (Nat.le_refl _) (by simp) ?_; (case hd => rfl); (case hg => rfl); (case hr => first | (go_simp; done) | (go_simp; rfl)); (case hp => exact (Reps.one (show Kd.M (Kd.int .i64) _ _ _ a0_4 [.int .i64 a0_4] from rfl) (Reps.none _ _))); intro v112 w23 ho24 hb hg_ hnew_; clear hg_ hnew_; (first | rw [← Ny111.out] at ho24 | (simp only [Int.reduceToNat] at ho24; rw [← Ny111.out] at ho24)); have HO113 := Qa.mk (Kd.R_lower (Kd.R_new' (Kd.R_new' ho24 (Kd.R_lt (pR HO105.out))) (Kd.R_lt (pR HO109.out))) (Qr (pE HB))); replace HO105 := re HO105 ho24 hb; replace HO109 := re HO109 ho24 hb; replace BK101 := bb BK101 hb; replace HB := bs HB hb; clear hb ho24; obtain ⟨Ao25, co25, eo25⟩ := Kd.R_slice HO113.out; subst eo25) | (go_at_call 68; (with_reducible refine (Qk.calls 0 12 _ _ y111 t114 _ ?side1 ?side2 A8.out).mono ?_); (case side1 => exact pC (Kd.R_reads' HO113.out).2.2); (case side2 => exact (Kd.R_reads' HO113.out).2.1); rintro e w26 ⟨rfl, hb⟩; replace HO105 := rb HO105 hb; replace HO109 := rb HO109 hb; replace HO113 := rb HO113 hb; replace BK101 := bb BK101 hb; replace HB := bs HB hb; (try clear hb); (try clear hb2); (try clear hk); (try clear hi)))
    go_ret
    exact ⟨eT, pE HB⟩
   ·replace c7 := Bool.eq_false_iff.mpr c7
    subst c7
    rw [if_neg (show ¬ (false = true) by decide)] at H
    obtain rfl := Option.some.inj H
    go_enter Tryz.func66, Tryz.ntmps66
    go_wp2_with (first | ((with_reducible refine gd 1 ?_); (try (refine QG (by rfl) ?_; dsimp only)); refine bx 1 #[.int .i64 a0_0, .int .i64 a0_1, .int .i64 a0_2, .int .i64 a0_3, .int .i64 a0_4] 100 ?_; intro gb101 hg w27 BK101 hb; have GW101 := gs HB hg; replace HB := bs HB hb; clear hb hg; obtain ⟨_, _, _, _, _, _, _, _, _, _⟩ := cf5 BK101) | ((with_reducible refine gc 67 rfl ?_); refine gL 5 Tryz.func67 #[.agg #[.int .i64 a0_0, .int .i64 a0_1], .int .i64 0, .int .i64 200] ?_; (with_reducible refine (Q1.calls a0_0 a0_1 0 200 true _ A2.out).mono ?_); rintro e w29 ⟨rfl, hb⟩; refine ⟨_, rfl, ?_⟩; replace BK101 := bb BK101 hb; replace HB := bs HB hb; clear hb; obtain ⟨_, _, _, _, _, _, _, _, _, _⟩ := cf5 BK101) | ((with_reducible refine gd 10 ?_); (try (refine QG (by rfl) ?_; dsimp only)); refine Kd.R_lit (Kd.int .i64) _ 3 ?hg (N := 10) ?hd (xs := ([a0_2] : List Int)) (inner := [.int .i64 a0_2]) (ok := fun _ => True) (okp := fun _ => True) ?hr ?hp (fun _ hk => hk) trivial (Below.refl _ _) (Nat.le_refl _) (by simp) ?_; (case hd => rfl); (case hg => rfl); (case hr => first | (go_simp; done) | (go_simp; rfl)); (case hp => exact (Reps.one (show Kd.M (Kd.int .i64) _ _ _ a0_2 [.int .i64 a0_2] from rfl) (Reps.none _ _))); intro v104 w31 ho32 hb hg_ hnew_; clear hg_ hnew_; (first | rw [← Ny103.out] at ho32 | (simp only [Int.reduceToNat] at ho32; rw [← Ny103.out] at ho32)); have HO105 := rl ho32 HB; replace BK101 := bb BK101 hb; replace HB := bs HB hb; clear hb ho32; obtain ⟨Ao33, co33, eo33⟩ := Kd.R_slice HO105.out; subst eo33) | (go_at_call 68; (with_reducible refine (Qk.calls 0 500 _ _ y103 true _ ?side1 ?side2 A4.out).mono ?_); (case side1 => exact pC (Kd.R_reads' HO105.out).2.2); (case side2 => exact (Kd.R_reads' HO105.out).2.1); rintro e w34 ⟨rfl, hb⟩; replace HO105 := rb HO105 hb; replace BK101 := bb BK101 hb; replace HB := bs HB hb; (try clear hb); (try clear hb2); (try clear hk); (try clear hi); obtain ⟨_, _, _, _, _, _, _, _, _, _⟩ := cf5 BK101) | ((with_reducible refine gd 17 ?_); (try (refine QG (by rfl) ?_; dsimp only)); refine Kd.R_lit (Kd.int .i64) _ 3 ?hg (N := 17) ?hd (xs := ([a0_3] : List Int)) (inner := [.int .i64 a0_3]) (ok := fun _ => True) (okp := fun _ => True) ?hr ?hp (fun _ hk => hk) trivial (Below.refl _ _) (Nat.le_refl _) (by simp) ?_; (case hd => rfl); (case hg => rfl); (case hr => first | (go_simp; done) | (go_simp; rfl)); (case hp => exact (Reps.one (show Kd.M (Kd.int .i64) _ _ _ a0_3 [.int .i64 a0_3] from rfl) (Reps.none _ _))); intro v108 w36 ho37 hb hg_ hnew_; clear hg_ hnew_; (first | rw [← Ny107.out] at ho37 | (simp only [Int.reduceToNat] at ho37; rw [← Ny107.out] at ho37)); have HO109 := Qa.mk (Kd.R_lower (Kd.R_new' ho37 (Kd.R_lt (pR HO105.out))) (Qr (pE HB))); replace HO105 := re HO105 ho37 hb; replace BK101 := bb BK101 hb; replace HB := bs HB hb; clear hb ho37; obtain ⟨Ao38, co38, eo38⟩ := Kd.R_slice HO109.out; subst eo38) | (go_at_call 68; (with_reducible refine (Qk.calls 0 50 _ _ y107 false _ ?side1 ?side2 A6.out).mono ?_); (case side1 => exact pC (Kd.R_reads' HO109.out).2.2); (case side2 => exact (Kd.R_reads' HO109.out).2.1); rintro e w39 ⟨rfl, hb⟩; replace HO105 := rb HO105 hb; replace HO109 := rb HO109 hb; replace BK101 := bb BK101 hb; replace HB := bs HB hb; (try clear hb); (try clear hb2); (try clear hk); (try clear hi)))
    go_ret
    exact ⟨eT, pE HB⟩
  ·replace c5 := Bool.eq_false_iff.mpr c5
   subst c5
   rw [if_neg (show ¬ (false = true) by decide)] at H
   obtain rfl := Option.some.inj H
   go_enter Tryz.func66, Tryz.ntmps66
   go_wp2_with (first | ((with_reducible refine gd 1 ?_); (try (refine QG (by rfl) ?_; dsimp only)); refine bx 1 #[.int .i64 a0_0, .int .i64 a0_1, .int .i64 a0_2, .int .i64 a0_3, .int .i64 a0_4] 100 ?_; intro gb101 hg w40 BK101 hb; have GW101 := gs HB hg; replace HB := bs HB hb; clear hb hg; obtain ⟨_, _, _, _, _, _, _, _, _, _⟩ := cf5 BK101) | ((with_reducible refine gc 67 rfl ?_); refine gL 5 Tryz.func67 #[.agg #[.int .i64 a0_0, .int .i64 a0_1], .int .i64 0, .int .i64 200] ?_; (with_reducible refine (Q1.calls a0_0 a0_1 0 200 true _ A2.out).mono ?_); rintro e w42 ⟨rfl, hb⟩; refine ⟨_, rfl, ?_⟩; replace BK101 := bb BK101 hb; replace HB := bs HB hb; clear hb; obtain ⟨_, _, _, _, _, _, _, _, _, _⟩ := cf5 BK101) | ((with_reducible refine gd 10 ?_); (try (refine QG (by rfl) ?_; dsimp only)); refine Kd.R_lit (Kd.int .i64) _ 3 ?hg (N := 10) ?hd (xs := ([a0_2] : List Int)) (inner := [.int .i64 a0_2]) (ok := fun _ => True) (okp := fun _ => True) ?hr ?hp (fun _ hk => hk) trivial (Below.refl _ _) (Nat.le_refl _) (by simp) ?_; (case hd => rfl); (case hg => rfl); (case hr => first | (go_simp; done) | (go_simp; rfl)); (case hp => exact (Reps.one (show Kd.M (Kd.int .i64) _ _ _ a0_2 [.int .i64 a0_2] from rfl) (Reps.none _ _))); intro v104 w44 ho45 hb hg_ hnew_; clear hg_ hnew_; (first | rw [← Ny103.out] at ho45 | (simp only [Int.reduceToNat] at ho45; rw [← Ny103.out] at ho45)); have HO105 := rl ho45 HB; replace BK101 := bb BK101 hb; replace HB := bs HB hb; clear hb ho45; obtain ⟨Ao46, co46, eo46⟩ := Kd.R_slice HO105.out; subst eo46) | (go_at_call 68; (with_reducible refine (Qk.calls 0 500 _ _ y103 false _ ?side1 ?side2 A4.out).mono ?_); (case side1 => exact pC (Kd.R_reads' HO105.out).2.2); (case side2 => exact (Kd.R_reads' HO105.out).2.1); rintro e w47 ⟨rfl, hb⟩; replace HO105 := rb HO105 hb; replace BK101 := bb BK101 hb; replace HB := bs HB hb; (try clear hb); (try clear hb2); (try clear hk); (try clear hi)))
   go_ret
   exact ⟨eT, pE HB⟩
 ·replace c3 := Bool.eq_false_iff.mpr c3
  subst c3
  rw [if_neg (show ¬ (false = true) by decide)] at H
  obtain rfl := Option.some.inj H
  go_enter Tryz.func66, Tryz.ntmps66
  go_wp2_with (first | ((with_reducible refine gd 1 ?_); (try (refine QG (by rfl) ?_; dsimp only)); refine bx 1 #[.int .i64 a0_0, .int .i64 a0_1, .int .i64 a0_2, .int .i64 a0_3, .int .i64 a0_4] 100 ?_; intro gb101 hg w48 BK101 hb; have GW101 := gs HB hg; replace HB := bs HB hb; clear hb hg; obtain ⟨_, _, _, _, _, _, _, _, _, _⟩ := cf5 BK101) | ((with_reducible refine gc 67 rfl ?_); refine gL 5 Tryz.func67 #[.agg #[.int .i64 a0_0, .int .i64 a0_1], .int .i64 0, .int .i64 200] ?_; (with_reducible refine (Q1.calls a0_0 a0_1 0 200 false _ A2.out).mono ?_); rintro e w50 ⟨rfl, hb⟩; refine ⟨_, rfl, ?_⟩; replace BK101 := bb BK101 hb; replace HB := bs HB hb; clear hb))
  go_ret
  exact ⟨eT, pE HB⟩
set_option maxHeartbeats 4000000 in
set_option maxRecDepth 100000 in
theorem hof104.callsO (q : S100 → Option Bool) (g : Nat) (lb : Array Value) (eg : ∀ args w, (callFunc g args).run Tryz.prog w = .ok (.enter g args) w) (Ad : Option Addr) (c : Nat) (l : List S100) (r : Int) (w : World) (hr : Kd.C k100 w Ad l.length l)
  (hp : ∀ x ∈ l, ∀ b, q x = some b → ∀ (W : World), Below w.heap.size w W → Calls Tryz.prog g (#[.agg #[.int .i64 x.f0.f0, .int .i64 x.f0.f1, .int .i64 x.f1, .int .i64 x.f2, .int .i64 x.f3]] ++ lb) W fun e w' => e = .returned (.bool b) ∧ Below W.heap.size W w') (h : idxO q l 0 = some r) :
  Calls Tryz.prog 104 #[.slice Ad l.length c, .func (.func g) #[] lb] w fun e w' => e = .returned (.int .i64 r) ∧ Below w.heap.size w w' := by
 have hbig : l.length ≤ 9223372036854775807 := hr.2.1
 have e0 := Lib.hid (Zx q l)
 have hr' := Lib.hid hr
 have hp' := Lib.hid hp
 have H0 : Hid (idxO q (l.drop 0) 0 = some r) := Lib.hid (by rw [List.drop_zero]; exact h)
 clear hr hp h
 go_enter Tryz.func104, Tryz.ntmps104
 go_wp2
 go_loopg [5, 8] l.length (fun gg _ s8 wr => ∃ kk : Nat, kk ≤ l.length ∧ l.length - kk ≤ gg ∧ s8 = .int .i64 kk ∧ Aside (Below w.heap.size w wr) ∧ Aside (idxO q (l.drop kk) kk = some r))
 case atStart => exact ⟨0, Nat.zero_le _, by omega, rfl, Below.refl _ w, H0.out⟩
 case round =>
  obtain ⟨kk, hkk, hg, rfl, BW, HE⟩ := hrel
  by_cases hlt : kk < l.length
  ·have hltz : (kk : Int) < (l.length : Int) := by omega
   obtain ⟨ad, rfl, h0_, h1_, h2_, h3_, h4_⟩ := Zf (Kd.C_below hr'.out BW.out) (kk : Int) (by omega) (by omega)
   simp only [Int.toNat_natCast] at h0_ h1_ h2_ h3_ h4_
   have hrd : Qf l (kk : Int) = l[kk] := by simp [Qf, List.getD_eq_getElem?_getD, List.getElem?_eq_getElem hlt]
   rw [hrd] at h0_ h1_ h2_ h3_ h4_
   clear hrd
   have H1 := HE.out
   rw [e0.out kk hlt] at H1
   obtain ⟨b, hb, H2⟩ := Option.bind_eq_some_iff.mp H1
   have hcall := hp'.out l[kk] (List.getElem_mem hlt) b hb wr BW.out
   generalize hy : l[kk] = y at h0_ h1_ h2_ h3_ h4_ hcall
   have H2' := Lib.hid H2
   clear hy H2 H1 hb
   cases b with
   | true =>
    go_wp2_with (go_at_fn g; refine hcall.mono ?_; rintro e w' ⟨rfl, hb'⟩)
    go_ret
    refine ⟨?_, Below.trans BW.out (hb'.mono BW.out.size)⟩
    have H3 := H2'.out
    simp only [if_true] at H3
    rw [← Option.some.inj H3]
    rfl
   | false =>
    go_wp2_with (go_at_fn g; refine hcall.mono ?_; rintro e w' ⟨rfl, hb'⟩)
    go_roundg (l.length - (kk + 1))
    case measure => omega
    case rel =>
     refine ⟨kk + 1, by omega, by omega, by go_num, Below.trans BW.out (hb'.mono BW.out.size), (show Aside _ from ?_)⟩
     have H3 := H2'.out
     have H4 : idxO q (l.drop (kk + 1)) (kk + 1) = some r := by simpa using H3
     exact H4
  ·have hltz : ¬ (kk : Int) < (l.length : Int) := by omega
   have HK := Lib.hid (show l.length ≤ kk by omega)
   go_wp2
   go_ret
   refine ⟨?_, BW.out⟩
   have H3 := HE.out
   rw [List.drop_eq_nil_of_le HK.out] at H3
   have H4 : some (-1 : Int) = some r := H3
   rw [← Option.some.inj H4]
   rfl
set_option maxHeartbeats 4000000 in
theorem hof69.callsO (q : S100 → Option Bool) (g : Nat) (lb : Array Value) (eg : ∀ args w, (callFunc g args).run Tryz.prog w = .ok (.enter g args) w) (Ad : Option Addr) (c : Nat) (l : List S100) (r : Bool) (w : World) (hr : Kd.C k100 w Ad l.length l)
  (hp : ∀ x ∈ l, ∀ b, q x = some b → ∀ (W : World), Below w.heap.size w W → Calls Tryz.prog g (#[.agg #[.int .i64 x.f0.f0, .int .i64 x.f0.f1, .int .i64 x.f1, .int .i64 x.f2, .int .i64 x.f3]] ++ lb) W fun e w' => e = .returned (.bool b) ∧ Below W.heap.size W w') (h : anyO q l = some r) :
  Calls Tryz.prog 69 #[.slice Ad l.length c, .func (.func g) #[] lb] w fun e w' => e = .returned (.bool r) ∧ Below w.heap.size w w' := by
 obtain ⟨j, h1, rfl⟩ := Zs q l 0 r h
 have hcon := Lib.hid (hof104.callsO q g lb eg Ad c l j w hr hp h1)
 clear hr hp h1 h
 go_enter Tryz.func69, Tryz.ntmps69
 go_wp2_with (go_at_call 104; refine hcon.out.mono ?_; rintro e w' ⟨rfl, hb'⟩)
 go_ret
 exact ⟨rfl, hb'⟩
def Jw.f (l : List S100) : Option Bool := anyO (fun x => Zk.f x.f0.f0 x.f0.f1 x.f1 x.f2 x.f3) l
theorem Jw.calls (Ad : Option Addr) (c : Nat) (l : List S100) (r : Bool) (w : World) (hr : Kd.C k100 w Ad l.length l) (hc : l.length ≤ c) (h : Jw.f l = some r) :
  Calls Tryz.prog 69 #[.slice Ad l.length c, .func (.func 66) #[] #[]] w fun e w' => e = .returned (.bool r) ∧ Below w.heap.size w w' :=
 hof69.callsO (fun x => Zk.f x.f0.f0 x.f0.f1 x.f1 x.f2 x.f3) 66 _ (enters_of Tryz.func66 (by kernel_rfl) rfl) Ad c l r w hr (fun x hx b hq W hbW => by
  have hcl := Zk.calls x.f0.f0 x.f0.f1 x.f1 x.f2 x.f3 b W hq
  exact hcl) h
def Jf.f (l0 : List S100) : Option Int := if (l0.length : Int) > 4 then (some 5) else (if (l0.length : Int) = 0 then (some 7) else ((Jw.f l0).bind fun t101 => (if t101 = true then (some 2) else (some 0))))
set_option maxHeartbeats 8000000 in
set_option maxRecDepth 100000 in
theorem Jf.calls (A0 : Option Addr) (c0 : Nat) (l0 : List S100) (r : Int) (w : World) (hr0 : Kd.C k100 w A0 l0.length l0) (hc0 : l0.length ≤ c0) (h : Jf.f l0 = some r) :
  Calls Tryz.prog 18 #[.slice A0 l0.length c0] w fun e w' => e = .returned (.int .i64 r) ∧ Below w.heap.size w w' := by
 have HR0 := Qa.mk hr0
 have HC0 := Qa.mk hc0
 clear hr0 hc0
 have HB := Qa.mk (Below.refl w.heap.size w)
 have H : (if (l0.length : Int) > 4 then (some 5) else (if (l0.length : Int) = 0 then (some 7) else ((Jw.f l0).bind fun t101 => (if t101 = true then (some 2) else (some 0))))) = some r := h
 clear h
 by_cases c2 : (l0.length : Int) > 4
 ·rw [if_pos c2] at H
  have c2b0 : decide (4 < (l0.length : Int)) = true := decide_eq_true c2
  have c2b1 : decide (4 < l0.length) = true := decide_eq_true (by omega)
  clear c2
  obtain rfl := Option.some.inj H
  go_enter Tryz.func18, Tryz.ntmps18
  go_wp2
  go_ret
  exact ⟨eT, pE HB⟩
 ·rw [if_neg c2] at H
  have c2b0 : decide (4 < (l0.length : Int)) = false := decide_eq_false c2
  have c2b1 : decide (4 < l0.length) = false := decide_eq_false (by omega)
  clear c2
  by_cases c3 : (l0.length : Int) = 0
  ·rw [if_pos c3] at H
   have c3b0 : ((l0.length : Int) == 0) = true := beq_iff_eq.mpr c3
   have c3b1 : ((l0.length : Int) != 0) = false := bne_eq_false_iff_eq.mpr c3
   clear c3
   obtain rfl := Option.some.inj H
   go_enter Tryz.func18, Tryz.ntmps18
   go_wp2
   go_ret
   exact ⟨eT, pE HB⟩
  ·rw [if_neg c3] at H
   have c3b0 : ((l0.length : Int) == 0) = false := beq_eq_false_iff_ne.mpr c3
   have c3b1 : ((l0.length : Int) != 0) = true := bne_iff_ne.mpr c3
   have c3b2 : ¬ (l0 = []) := fun h_ => c3 (by rw [h_]; rfl)
   obtain ⟨t101, A4, H⟩ := bi H
   by_cases c5 : t101 = true
   ·subst c5
    rw [if_pos rfl] at H
    obtain rfl := Option.some.inj H
    go_enter Tryz.func18, Tryz.ntmps18
    go_wp2_with (first | ((with_reducible refine gc 69 rfl ?_); refine gL 15 Tryz.func69 #[.slice A0 l0.length c0, .func (.func 66) #[] #[]] ?_; (with_reducible refine (Jw.calls _ _ l0  true _ ?side1 ?side2 A4.out).mono ?_); (case side1 => exact pC HR0.out); (case side2 => exact HC0.out); rintro e w6 ⟨rfl, hb⟩; refine ⟨_, rfl, ?_⟩; replace HB := bs HB hb; clear hb))
    go_ret
    exact ⟨eT, pE HB⟩
   ·replace c5 := Bool.eq_false_iff.mpr c5
    subst c5
    rw [if_neg (show ¬ (false = true) by decide)] at H
    obtain rfl := Option.some.inj H
    go_enter Tryz.func18, Tryz.ntmps18
    go_wp2_with (first | ((with_reducible refine gc 69 rfl ?_); refine gL 15 Tryz.func69 #[.slice A0 l0.length c0, .func (.func 66) #[] #[]] ?_; (with_reducible refine (Jw.calls _ _ l0  false _ ?side1 ?side2 A4.out).mono ?_); (case side1 => exact pC HR0.out); (case side2 => exact HC0.out); rintro e w7 ⟨rfl, hb⟩; refine ⟨_, rfl, ?_⟩; replace HB := bs HB hb; clear hb))
    go_ret
    exact ⟨eT, pE HB⟩
def Jc.f (a0_0 a0_1 a0_2 a0_3 a0_4 : Int) : Option Bool := (Q1.f a0_0 a0_1 1 2000).bind fun t102 => (if t102 = true then ((Q1.f a0_2 a0_3 0 300).bind fun t103 => (if t103 = true then ((Qk.f 0 500 (([a0_4] : List Int))).bind fun t107 => (some t107)) else (some false))) else (some false))
set_option maxHeartbeats 8000000 in
set_option maxRecDepth 100000 in
theorem Jc.calls (a0_0 a0_1 a0_2 a0_3 a0_4 : Int) (r : Bool) (w : World) (h : Jc.f a0_0 a0_1 a0_2 a0_3 a0_4 = some r) :
  Calls Tryz.prog 70 #[.agg #[.int .i64 a0_0, .int .i64 a0_1, .int .i64 a0_2, .int .i64 a0_3, .int .i64 a0_4]] w fun e w' => e = .returned (.bool r) ∧ Below w.heap.size w w' := by
 have hu26 := Tryz.underlying26
 have hu24 := Tryz.underlying24
 have HB := Qa.mk (Below.refl w.heap.size w)
 have H : ((Q1.f a0_0 a0_1 1 2000).bind fun t102 => (if t102 = true then ((Q1.f a0_2 a0_3 0 300).bind fun t103 => (if t103 = true then ((Qk.f 0 500 (([a0_4] : List Int))).bind fun t107 => (some t107)) else (some false))) else (some false))) = some r := h
 clear h
 obtain ⟨t102, A2, H⟩ := bi H
 by_cases c3 : t102 = true
 ·subst c3
  rw [if_pos rfl] at H
  obtain ⟨t103, A4, H⟩ := bi H
  by_cases c5 : t103 = true
  ·subst c5
   rw [if_pos rfl] at H
   obtain ⟨y104, hy104⟩ : ∃ y_ : List Int, y_ = (([a0_4] : List Int)) := ⟨_, rfl⟩
   replace H : Option.bind (Qk.f 0 500 y104) _ = some r := yy hy104 H
   have Ny104 := Qa.mk hy104
   clear hy104
   obtain ⟨t107, A6, H⟩ := bi H
   obtain rfl := Option.some.inj H
   go_enter Tryz.func70, Tryz.ntmps70
   go_wp2_with (first | ((with_reducible refine gd 1 ?_); (try (refine QG (by rfl) ?_; dsimp only)); refine bx 1 #[.int .i64 a0_0, .int .i64 a0_1, .int .i64 a0_2, .int .i64 a0_3, .int .i64 a0_4] 26 ?_; intro gb101 hg w7 BK101 hb; have GW101 := gs HB hg; replace HB := bs HB hb; clear hb hg; obtain ⟨_, _, _, _, _, _, _, _, _, _⟩ := cf5 BK101) | ((with_reducible refine gc 67 rfl ?_); refine gL 5 Tryz.func67 #[.agg #[.int .i64 a0_0, .int .i64 a0_1], .int .i64 1, .int .i64 2000] ?_; (with_reducible refine (Q1.calls a0_0 a0_1 1 2000 true _ A2.out).mono ?_); rintro e w9 ⟨rfl, hb⟩; refine ⟨_, rfl, ?_⟩; replace BK101 := bb BK101 hb; replace HB := bs HB hb; clear hb; obtain ⟨_, _, _, _, _, _, _, _, _, _⟩ := cf5 BK101) | (go_at_call 67; (with_reducible refine (Q1.calls a0_2 a0_3 0 300 true _ A4.out).mono ?_); rintro e w11 ⟨rfl, hb⟩; replace BK101 := bb BK101 hb; replace HB := bs HB hb; (try clear hb); (try clear hb2); (try clear hk); (try clear hi); obtain ⟨_, _, _, _, _, _, _, _, _, _⟩ := cf5 BK101) | ((with_reducible refine gd 14 ?_); (try (refine QG (by rfl) ?_; dsimp only)); refine Kd.R_lit (Kd.int .i64) _ 3 ?hg (N := 14) ?hd (xs := ([a0_4] : List Int)) (inner := [.int .i64 a0_4]) (ok := fun _ => True) (okp := fun _ => True) ?hr ?hp (fun _ hk => hk) trivial (Below.refl _ _) (Nat.le_refl _) (by simp) ?_; (case hd => rfl); (case hg => rfl); (case hr => first | (go_simp; done) | (go_simp; rfl)); (case hp => exact (Reps.one (show Kd.M (Kd.int .i64) _ _ _ a0_4 [.int .i64 a0_4] from rfl) (Reps.none _ _))); intro v105 w13 ho14 hb hg_ hnew_; clear hg_ hnew_; (first | rw [← Ny104.out] at ho14 | (simp only [Int.reduceToNat] at ho14; rw [← Ny104.out] at ho14)); have HO106 := rl ho14 HB; replace BK101 := bb BK101 hb; replace HB := bs HB hb; clear hb ho14; obtain ⟨Ao15, co15, eo15⟩ := Kd.R_slice HO106.out; subst eo15) | (go_at_call 68; (with_reducible refine (Qk.calls 0 500 _ _ y104 t107 _ ?side1 ?side2 A6.out).mono ?_); (case side1 => exact pC (Kd.R_reads' HO106.out).2.2); (case side2 => exact (Kd.R_reads' HO106.out).2.1); rintro e w16 ⟨rfl, hb⟩; replace HO106 := rb HO106 hb; replace BK101 := bb BK101 hb; replace HB := bs HB hb; (try clear hb); (try clear hb2); (try clear hk); (try clear hi)))
   go_ret
   exact ⟨eT, pE HB⟩
  ·replace c5 := Bool.eq_false_iff.mpr c5
   subst c5
   rw [if_neg (show ¬ (false = true) by decide)] at H
   obtain rfl := Option.some.inj H
   go_enter Tryz.func70, Tryz.ntmps70
   go_wp2_with (first | ((with_reducible refine gd 1 ?_); (try (refine QG (by rfl) ?_; dsimp only)); refine bx 1 #[.int .i64 a0_0, .int .i64 a0_1, .int .i64 a0_2, .int .i64 a0_3, .int .i64 a0_4] 26 ?_; intro gb101 hg w17 BK101 hb; have GW101 := gs HB hg; replace HB := bs HB hb; clear hb hg; obtain ⟨_, _, _, _, _, _, _, _, _, _⟩ := cf5 BK101) | ((with_reducible refine gc 67 rfl ?_); refine gL 5 Tryz.func67 #[.agg #[.int .i64 a0_0, .int .i64 a0_1], .int .i64 1, .int .i64 2000] ?_; (with_reducible refine (Q1.calls a0_0 a0_1 1 2000 true _ A2.out).mono ?_); rintro e w19 ⟨rfl, hb⟩; refine ⟨_, rfl, ?_⟩; replace BK101 := bb BK101 hb; replace HB := bs HB hb; clear hb; obtain ⟨_, _, _, _, _, _, _, _, _, _⟩ := cf5 BK101) | (go_at_call 67; (with_reducible refine (Q1.calls a0_2 a0_3 0 300 false _ A4.out).mono ?_); rintro e w21 ⟨rfl, hb⟩; replace BK101 := bb BK101 hb; replace HB := bs HB hb; (try clear hb); (try clear hb2); (try clear hk); (try clear hi)))
   go_ret
   exact ⟨eT, pE HB⟩
 ·replace c3 := Bool.eq_false_iff.mpr c3
  subst c3
  rw [if_neg (show ¬ (false = true) by decide)] at H
  obtain rfl := Option.some.inj H
  go_enter Tryz.func70, Tryz.ntmps70
  go_wp2_with (first | ((with_reducible refine gd 1 ?_); (try (refine QG (by rfl) ?_; dsimp only)); refine bx 1 #[.int .i64 a0_0, .int .i64 a0_1, .int .i64 a0_2, .int .i64 a0_3, .int .i64 a0_4] 26 ?_; intro gb101 hg w22 BK101 hb; have GW101 := gs HB hg; replace HB := bs HB hb; clear hb hg; obtain ⟨_, _, _, _, _, _, _, _, _, _⟩ := cf5 BK101) | ((with_reducible refine gc 67 rfl ?_); refine gL 5 Tryz.func67 #[.agg #[.int .i64 a0_0, .int .i64 a0_1], .int .i64 1, .int .i64 2000] ?_; (with_reducible refine (Q1.calls a0_0 a0_1 1 2000 false _ A2.out).mono ?_); rintro e w24 ⟨rfl, hb⟩; refine ⟨_, rfl, ?_⟩; replace BK101 := bb BK101 hb; replace HB := bs HB hb; clear hb))
  go_ret
  exact ⟨eT, pE HB⟩
def Zn.f (a0 a1 : Int) : Option Int := some (wrap64 (Int.tdiv (wrap64 ((wrap64 (a0 * a1)) + 999)) 1000))
set_option maxHeartbeats 8000000 in
set_option maxRecDepth 100000 in
theorem Zn.calls (a0 a1 r : Int) (w : World) (h : Zn.f a0 a1 = some r) :
  Calls Tryz.prog 105 #[.int .i64 a0, .int .i64 a1] w fun e w' => e = .returned (.int .i64 r) ∧ JB w w' := by
 have H : (some (wrap64 (Int.tdiv (wrap64 ((wrap64 (a0 * a1)) + 999)) 1000))) = some r := h
 clear h
 obtain rfl := Option.some.inj H
 go_enter Tryz.func105, Tryz.ntmps105
 go_wp2
 go_ret
 exact ⟨eS, dS⟩
def QP.f (a0_0 a0_1 a0_2 a0_3 a0_4 : Int) (l0_5 : List S100) : Option (Int × Int) := (Zn.f a0_0 a0_2).bind fun t103 => ((Zn.f a0_1 a0_3).bind fun t104 => (some (t103, t104)))
def QP.T1 : Bool × List (List Nat × List Nat) := (true, [([], []), ([0], [0]), ([1], [1]), ([2], [2]), ([], []), ([4], [4]), ([5], [5]), ([6], [6]), ([3, 7], [3, 7]), ([], []), ([9], [9]), ([10], [10]), ([11], [11]), ([], []), ([13], [13]), ([14], [14]), ([15], [15]), ([12, 16, 8], [12, 16]), ([8, 17], [8, 17]), ([18, 17, 0, 1, 2, 3, 4, 5, 6, 7, 8, 9, 10, 11, 12, 13, 14, 15, 16, 17, 18], [18])])
def QP.B1 : List Nat := [0, 1, 3, 7, 0, 16, 48, 112, 255, 0, 512, 1536, 3584, 0, 8192, 24576, 57344, 131071, 262143, 524287]
theorem QP.tab1 : rtab .any (ZG Tryz.f71 1) = QP.T1 := by kernel_rfl
theorem QP.bits1 : J0 QP.T1.2 QP.B1 = true := by kernel_rfl
set_option maxHeartbeats 8000000 in
set_option maxRecDepth 100000 in
theorem QP.calls (a0_0 a0_1 a0_2 a0_3 a0_4 : Int) (A0_5 : Option Addr) (c0_5 : Nat) (l0_5 : List S100) (r1 r2 : Int) (w : World) (hr0_5 : Kd.C k100 w A0_5 l0_5.length l0_5) (hc0_5 : l0_5.length ≤ c0_5) (h : QP.f a0_0 a0_1 a0_2 a0_3 a0_4 l0_5 = some (r1, r2)) :
  Calls Tryz.prog 71 #[.agg #[.int .i64 a0_0, .int .i64 a0_1, .int .i64 a0_2, .int .i64 a0_3, .int .i64 a0_4, .slice A0_5 l0_5.length c0_5]] w fun e w' => e = .returned (.agg #[.int .i64 r1, .int .i64 r2]) ∧ Below w.heap.size w w' := by
 have hu120 := Tryz.underlying120
 have hu24 := Tryz.underlying24
 have HR0_5 := Qa.mk hr0_5
 have HC0_5 := Qa.mk hc0_5
 clear hr0_5 hc0_5
 have HB := Qa.mk (Below.refl w.heap.size w)
 have H : ((Zn.f a0_0 a0_2).bind fun t103 => ((Zn.f a0_1 a0_3).bind fun t104 => (some (t103, t104)))) = some (r1, r2) := h
 clear h
 obtain ⟨t103, A2, H⟩ := bi H
 obtain ⟨t104, A3, H⟩ := bi H
 simp only [Option.some.injEq, Prod.mk.injEq] at H
 obtain ⟨rfl, rfl⟩ := H
 go_enter Tryz.func71, Tryz.ntmps71
 try go_wp2_with (first | ((with_reducible refine gd 1 ?_); refine bx 1 #[.int .i64 a0_0, .int .i64 a0_1, .int .i64 a0_2, .int .i64 a0_3, .int .i64 a0_4, .slice A0_5 l0_5.length c0_5] 120 ?_; intro gb101 hg w4 BK101 hb; have GW101 := gs HB hg; replace HB := bs HB hb; clear hb hg) | ((with_reducible refine gd 2 ?_); refine bx 2 #[.int .i64 0, .int .i64 0] 24 ?_; intro gb102 hg w5 BK102 hb; have GW102 := gs HB hg; replace HB := bs HB hb; have NB101_102 := nl BK101 hg; have NB102_101 := nr BK101 hg; replace BK101 := bb BK101 hb; clear hb hg))
 replace BK101 := Qa.mk (Qh BK101.out)
 replace BK102 := Qa.mk (Qh BK102.out)
 replace HB := Qa.mk (QM HB.out)
 refine JS (n := 20) (S := fun w' => w'.cell? ⟨gb101, 0, none⟩ = some (.int .i64 a0_0) ∧ w'.cell? ⟨gb101, 1, none⟩ = some (.int .i64 a0_1) ∧ w'.cell? ⟨gb101, 2, none⟩ = some (.int .i64 a0_2) ∧ w'.cell? ⟨gb101, 3, none⟩ = some (.int .i64 a0_3) ∧ w'.cell? ⟨gb101, 4, none⟩ = some (.int .i64 a0_4) ∧ w'.cell? ⟨gb101, 5, none⟩ = some (.slice A0_5 l0_5.length c0_5)) (ds := []) #[false, false, false, false, false, false, false, false, false, false, false, false, false, false, false, false, false, false, false, false] (by kernel_rfl) rfl rfl ⟨(Qb BK101.out 0).trans rfl, (Qb BK101.out 1).trans rfl, (Qb BK101.out 2).trans rfl, (Qb BK101.out 3).trans rfl, (Qb BK101.out 4).trans rfl, (Qb BK101.out 5).trans rfl⟩ (fun hHeld => ?_); refine Jk QP.tab1 QP.bits1 (fun HT_ HW_ => ?_)
 generalize w5.drew = w6 at BK101 BK102 HB hHeld ⊢
 refine pu 0 3 ?_
 refine pu 1 4 ?_
 refine pu 2 5 ?_
 refine pu 4 7 ?_
 refine pu 5 8 ?_
 refine pu 6 9 ?_
 refine pu 9 12 ?_
 refine pu 10 13 ?_
 refine pu 11 14 ?_
 refine pu 13 16 ?_
 refine pu 14 17 ?_
 refine pu 15 18 ?_
 refine tk 3 6 hHeld ?_
 refine tk 7 10 hHeld ?_
 refine tk 12 15 hHeld ?_
 refine tk 16 19 hHeld ?_
 refine on 8 (fun K hK => ?_)
 refine gO Tryz.func105 #[.int .i64 a0_0, .int .i64 a0_2] ?_
 with_reducible refine (Zn.calls a0_0 a0_2 t103 _ A2.out).mono ?_
 rintro e w' ⟨rfl, ⟨nd, rfl⟩⟩
 refine ⟨_, rfl, ?_⟩
 refine hK.out _ _ ⟨(Qb BK101.out 0).trans rfl, (Qb BK101.out 1).trans rfl, (Qb BK101.out 2).trans rfl, (Qb BK101.out 3).trans rfl, (Qb BK101.out 4).trans rfl, (Qb BK101.out 5).trans rfl⟩ (fun hHeld => ?_)
 clear hK K
 refine QY (a' := ?_) ?_ ?_
 rotate_left
 ·show Act.put _ (some 11) _ = _
  simp only [Act.put, List.setIfInBounds_toArray, List.set_cons_zero, List.set_cons_succ, QR, QU]
  rfl
 refine on 17 (fun K hK => ?_)
 refine gO Tryz.func105 #[.int .i64 a0_1, .int .i64 a0_3] ?_
 with_reducible refine (Zn.calls a0_1 a0_3 t104 _ A3.out).mono ?_
 rintro e w' ⟨rfl, ⟨nd, rfl⟩⟩
 refine ⟨_, rfl, ?_⟩
 refine hK.out _ _ ⟨(Qb BK101.out 0).trans rfl, (Qb BK101.out 1).trans rfl, (Qb BK101.out 2).trans rfl, (Qb BK101.out 3).trans rfl, (Qb BK101.out 4).trans rfl, (Qb BK101.out 5).trans rfl⟩ (fun hHeld => ?_)
 clear hK K
 refine QY (a' := ?_) ?_ ?_
 rotate_left
 ·show Act.put _ (some 20) _ = _
  simp only [Act.put, List.setIfInBounds_toArray, List.set_cons_zero, List.set_cons_succ, QR, QU]
  rfl
 refine pu 18 21 ?_
 refine on 19 (fun K hK => ?_)
 have hs7 : w6.cell? ⟨gb102, 0, none⟩ = some (.int .i64 0) := (Qb BK102.out 0).trans rfl
 have hfs7 := Qq BK102.out 0
 have hns7_0 := NB101_102.out
 have hms7_0 := NB102_101.out
 have hs8 : w6.cell? ⟨gb102, 1, none⟩ = some (.int .i64 0) := (Qb BK102.out 1).trans rfl
 have hfs8 := Qq BK102.out 1
 have hns8_0 := NB101_102.out
 have hms8_0 := NB102_101.out
 refine Z7 (w1 := ?_) (by rfl) rfl ?_ ?_
 rotate_left
 ·go_simp
  rfl
 refine hK.out _ _ ⟨((QW (p := ⟨gb102, _, none⟩) NB101_102.out _).trans (((QW (p := ⟨gb102, _, none⟩) NB101_102.out _).trans (hHeld.1)))), ((QW (p := ⟨gb102, _, none⟩) NB101_102.out _).trans (((QW (p := ⟨gb102, _, none⟩) NB101_102.out _).trans (hHeld.2.1)))), ((QW (p := ⟨gb102, _, none⟩) NB101_102.out _).trans (((QW (p := ⟨gb102, _, none⟩) NB101_102.out _).trans (hHeld.2.2.1)))), ((QW (p := ⟨gb102, _, none⟩) NB101_102.out _).trans (((QW (p := ⟨gb102, _, none⟩) NB101_102.out _).trans (hHeld.2.2.2.1)))), ((QW (p := ⟨gb102, _, none⟩) NB101_102.out _).trans (((QW (p := ⟨gb102, _, none⟩) NB101_102.out _).trans (hHeld.2.2.2.2.1)))), ((QW (p := ⟨gb102, _, none⟩) NB101_102.out _).trans (((QW (p := ⟨gb102, _, none⟩) NB101_102.out _).trans (hHeld.2.2.2.2.2))))⟩ (fun hHeld => ?_)
 clear hK K
 refine JD (JM HT_.out (by kernel_rfl)) ?_
 try go_wp2
 refine bodyPost_ret (results_cell_row rfl _ _ gb102 24 #[.int .i64 t103, .int .i64 t104] (0, 0) _ rfl (by refine pB ?_; refine Qg (cs := #[.int .i64 t103, .int .i64 0]) ?_ 1 _ rfl; refine pB ?_; refine Qg (cs := #[.int .i64 0, .int .i64 0]) ?_ 0 _ rfl; (with_reducible repeat (first | refine Qt ?_ _ | refine Qh ?_ | refine blk_alloc ?_ _)); exact BK102.out) Tryz.underlying24 rfl (by kernel_rfl)) rfl ?_
 exact ⟨eT, pE HB⟩
def Zl.f (a0_0 a0_1 a0_2 a0_3 a0_4 : Int) : Option (Int × Int × Int) := (Jc.f a0_0 a0_1 a0_2 a0_3 a0_4).bind fun t103 => (if t103 = true then ((QP.f a0_0 a0_1 a0_2 a0_3 a0_4 ([] : List S100)).bind fun bt104 => (some (bt104.1, bt104.2, 0))) else (some (0, 0, 3)))
set_option maxHeartbeats 8000000 in
set_option maxRecDepth 100000 in
theorem Zl.calls (a0_0 a0_1 a0_2 a0_3 a0_4 r1 r2 r3 : Int) (w : World) (h : Zl.f a0_0 a0_1 a0_2 a0_3 a0_4 = some (r1, r2, r3)) :
  Calls Tryz.prog 19 #[.agg #[.int .i64 a0_0, .int .i64 a0_1, .int .i64 a0_2, .int .i64 a0_3, .int .i64 a0_4]] w fun e w' => e = .returned (.tuple #[.agg #[.int .i64 r1, .int .i64 r2], .int .i64 r3]) ∧ Below w.heap.size w w' := by
 have hu26 := Tryz.underlying26
 have hu24 := Tryz.underlying24
 have hu120 := Tryz.underlying120
 have HB := Qa.mk (Below.refl w.heap.size w)
 have H : ((Jc.f a0_0 a0_1 a0_2 a0_3 a0_4).bind fun t103 => (if t103 = true then ((QP.f a0_0 a0_1 a0_2 a0_3 a0_4 ([] : List S100)).bind fun bt104 => (some (bt104.1, bt104.2, 0))) else (some (0, 0, 3)))) = some (r1, r2, r3) := h
 clear h
 obtain ⟨t103, A2, H⟩ := bi H
 by_cases c3 : t103 = true
 ·subst c3
  rw [if_pos rfl] at H
  obtain ⟨⟨t104, t105⟩, A4, H⟩ := bi H
  simp only [Option.some.injEq, Prod.mk.injEq] at H
  obtain ⟨rfl, rfl, rfl⟩ := H
  go_enter Tryz.func19, Tryz.ntmps19
  go_wp2_with (first | ((with_reducible refine gd 1 ?_); refine bx 1 #[.int .i64 a0_0, .int .i64 a0_1, .int .i64 a0_2, .int .i64 a0_3, .int .i64 a0_4] 26 ?_; intro gb101 hg w5 BK101 hb; have GW101 := gs HB hg; replace HB := bs HB hb; clear hb hg) | ((with_reducible refine gd 2 ?_); refine bx 2 #[.int .i64 0, .int .i64 0] 24 ?_; intro gb102 hg w6 BK102 hb; have GW102 := gs HB hg; replace HB := bs HB hb; have NB101_102 := nl BK101 hg; have NB102_101 := nr BK101 hg; replace BK101 := bb BK101 hb; clear hb hg; have hnb7 := NB101_102.out; have hnc7 := NB102_101.out; obtain ⟨_, _, _, _, _, _, _, _, _, _⟩ := cf5 BK101) | ((with_reducible refine gc 70 rfl ?_); refine gL 5 Tryz.func70 #[.agg #[.int .i64 a0_0, .int .i64 a0_1, .int .i64 a0_2, .int .i64 a0_3, .int .i64 a0_4]] ?_; (with_reducible refine (Jc.calls a0_0 a0_1 a0_2 a0_3 a0_4 true _ A2.out).mono ?_); rintro e w9 ⟨rfl, hb⟩; refine ⟨_, rfl, ?_⟩; replace BK101 := bb BK101 hb; replace BK102 := bb BK102 hb; replace HB := bs HB hb; clear hb; obtain ⟨_, _, _, _, _, _, _, _, _, _⟩ := cf5 BK101) | ((with_reducible refine gc 71 rfl ?_); refine gL 10 Tryz.func71 #[.agg #[.int .i64 a0_0, .int .i64 a0_1, .int .i64 a0_2, .int .i64 a0_3, .int .i64 a0_4, .slice none 0 0]] ?_; (refine (QP.calls a0_0 a0_1 a0_2 a0_3 a0_4 _ _ ([] : List S100) t104 t105 _ ?side1 ?side2 A4.out).mono ?_); (case side1 => exact Kd.C_nil _ _); (case side2 => exact Nat.le_refl _); rintro e w11 ⟨rfl, hb⟩; refine ⟨_, rfl, ?_⟩; replace BK101 := bb BK101 hb; replace BK102 := bb BK102 hb; replace HB := bs HB hb; clear hb; obtain ⟨_, _, _, _⟩ := cf2 BK102))
  refine bodyPost_ret (JL rfl _ _ gb102 24 #[.int .i64 t104, .int .i64 t105] (0, 0) _ rfl (by refine pB ?_; refine Qg (cs := #[.int .i64 t104, .int .i64 0]) ?_ 1 _ rfl; refine pB ?_; refine Qg (cs := #[.int .i64 0, .int .i64 0]) ?_ 0 _ rfl; (with_reducible repeat (first | refine Qt ?_ _ | refine Qh ?_ | refine blk_alloc ?_ _)); exact BK102.out) Tryz.underlying24 rfl (by kernel_rfl)) rfl ?_
  exact ⟨eT, pE HB⟩
 ·replace c3 := Bool.eq_false_iff.mpr c3
  subst c3
  rw [if_neg (show ¬ (false = true) by decide)] at H
  simp only [Option.some.injEq, Prod.mk.injEq] at H
  obtain ⟨rfl, rfl, rfl⟩ := H
  go_enter Tryz.func19, Tryz.ntmps19
  go_wp2_with (first | ((with_reducible refine gd 1 ?_); refine bx 1 #[.int .i64 a0_0, .int .i64 a0_1, .int .i64 a0_2, .int .i64 a0_3, .int .i64 a0_4] 26 ?_; intro gb101 hg w13 BK101 hb; have GW101 := gs HB hg; replace HB := bs HB hb; clear hb hg) | ((with_reducible refine gd 2 ?_); refine bx 2 #[.int .i64 0, .int .i64 0] 24 ?_; intro gb102 hg w14 BK102 hb; have GW102 := gs HB hg; replace HB := bs HB hb; have NB101_102 := nl BK101 hg; have NB102_101 := nr BK101 hg; replace BK101 := bb BK101 hb; clear hb hg; have hnb15 := NB101_102.out; have hnc15 := NB102_101.out; obtain ⟨_, _, _, _, _, _, _, _, _, _⟩ := cf5 BK101) | ((with_reducible refine gc 70 rfl ?_); refine gL 5 Tryz.func70 #[.agg #[.int .i64 a0_0, .int .i64 a0_1, .int .i64 a0_2, .int .i64 a0_3, .int .i64 a0_4]] ?_; (with_reducible refine (Jc.calls a0_0 a0_1 a0_2 a0_3 a0_4 false _ A2.out).mono ?_); rintro e w17 ⟨rfl, hb⟩; refine ⟨_, rfl, ?_⟩; replace BK101 := bb BK101 hb; replace BK102 := bb BK102 hb; replace HB := bs HB hb; clear hb; obtain ⟨_, _, _, _⟩ := cf2 BK102))
  refine bodyPost_ret (JL rfl _ _ gb102 24 #[.int .i64 0, .int .i64 0] (0, 0) _ rfl (by refine pB ?_; refine Qg (cs := #[.int .i64 0, .int .i64 0]) ?_ 1 _ rfl; refine pB ?_; refine Qg (cs := #[.int .i64 0, .int .i64 0]) ?_ 0 _ rfl; (with_reducible repeat (first | refine Qt ?_ _ | refine Qh ?_ | refine blk_alloc ?_ _)); exact BK102.out) Tryz.underlying24 rfl (by kernel_rfl)) rfl ?_
  exact ⟨eT, pE HB⟩
def Jd.f (l0 : List S100) (a1_0 a1_1 a1_2 a1_3 a1_4 : Int) : Option (Int × Int × Int × Int × Int × (List S100) × Int) := (Jf.f l0).bind fun t103 => (if t103 = 0 then ((Jc.f a1_0 a1_1 a1_2 a1_3 a1_4).bind fun t104 => (if t104 = true then (some (a1_0, a1_1, a1_2, a1_3, a1_4, l0, t103)) else (some (a1_0, a1_1, a1_2, a1_3, a1_4, l0, 3)))) else (some (a1_0, a1_1, a1_2, a1_3, a1_4, l0, t103)))
set_option maxHeartbeats 8000000 in
set_option maxRecDepth 100000 in
theorem Jd.calls (P0_ : Nat → Prop) (A0 : Option Addr) (c0 : Nat) (l0 : List S100) (a1_0 a1_1 a1_2 a1_3 a1_4 r1 r2 r3 r4 r5 : Int) (r6 : List S100) (r7 : Int) (w : World) (hs0 : Kd.V k100 100 w w.heap.size (fun k_ => P0_ k_) (.slice A0 l0.length c0) l0) (h : Jd.f l0 a1_0 a1_1 a1_2 a1_3 a1_4 = some (r1, r2, r3, r4, r5, r6, r7)) :
  Calls Tryz.prog 78 #[.slice A0 l0.length c0, .agg #[.int .i64 a1_0, .int .i64 a1_1, .int .i64 a1_2, .int .i64 a1_3, .int .i64 a1_4]] w fun e w' => ∃ v5_ : Value, e = .returned (.tuple #[.agg #[.int .i64 r1, .int .i64 r2, .int .i64 r3, .int .i64 r4, .int .i64 r5, v5_], .int .i64 r7]) ∧ Kd.V k100 100 w' w.heap.size (fun k_ => (P0_ k_ ∨ w.heap.size ≤ k_)) v5_ r6 ∧ Below w.heap.size w w' := by
 have hu26 := Tryz.underlying26
 have hu120 := Tryz.underlying120
 have HO0 := Qa.mk (show Kd.V k100 100 w w.heap.size (fun k_ => (P0_ k_ ∨ w.heap.size ≤ k_)) (.slice A0 l0.length c0) l0 from Kd.V_mono hs0 (fun k_ hk => .inl hk))
 have HB := Qa.mk (Below.refl w.heap.size w)
 have H : ((Jf.f l0).bind fun t103 => (if t103 = 0 then ((Jc.f a1_0 a1_1 a1_2 a1_3 a1_4).bind fun t104 => (if t104 = true then (some (a1_0, a1_1, a1_2, a1_3, a1_4, l0, t103)) else (some (a1_0, a1_1, a1_2, a1_3, a1_4, l0, 3)))) else (some (a1_0, a1_1, a1_2, a1_3, a1_4, l0, t103)))) = some (r1, r2, r3, r4, r5, r6, r7) := h
 clear h
 obtain ⟨t103, A3, H⟩ := bi H
 by_cases c4 : t103 = 0
 ·rw [if_pos c4] at H
  have c4b0 : (t103 == 0) = true := beq_iff_eq.mpr c4
  have c4b1 : (t103 != 0) = false := bne_eq_false_iff_eq.mpr c4
  clear c4
  obtain ⟨t104, A5, H⟩ := bi H
  by_cases c6 : t104 = true
  ·subst c6
   rw [if_pos rfl] at H
   simp only [Option.some.injEq, Prod.mk.injEq] at H
   obtain ⟨rfl, rfl, rfl, rfl, rfl, rfl, rfl⟩ := H
   go_enter Tryz.func78, Tryz.ntmps78
   go_wp2_with (first | ((with_reducible refine gd 3 ?_); refine bx 3 #[.int .i64 a1_0, .int .i64 a1_1, .int .i64 a1_2, .int .i64 a1_3, .int .i64 a1_4] 26 ?_; intro gb101 hg w7 hbox hb; replace HO0 := ve HO0 hg hb; have BK101 := hbox; have GW101 := gs HB hg; replace HB := bs HB hb; clear hb hg) | ((with_reducible refine gd 4 ?_); refine bx 4 #[.int .i64 0, .int .i64 0, .int .i64 0, .int .i64 0, .int .i64 0, .slice none 0 0] 120 ?_; intro gb102 hg w8 hbox hb; replace HO0 := ve HO0 hg hb; have BK102 := hbox; have GW102 := gs HB hg; replace HB := bs HB hb; have NB101_102 := nl BK101 hg; have NB102_101 := nr BK101 hg; replace BK101 := bb BK101 hb; clear hb hg) | ((with_reducible refine gc 18 rfl ?_); refine gL 8 Tryz.func18 #[.slice A0 l0.length c0] ?_; (with_reducible refine (Jf.calls _ _ l0 t103 _ ?side1 ?side2 A3.out).mono ?_); (case side1 => exact pC (Kd.V_reads' HO0.out).2.2); (case side2 => exact (Kd.V_reads' HO0.out).2.1); rintro e w9 ⟨rfl, hb⟩; refine ⟨_, rfl, ?_⟩; replace HO0 := vb HO0 hb; replace BK101 := bb BK101 hb; replace BK102 := bb BK102 hb; replace HB := bs HB hb; clear hb; have hnb10 := NB101_102.out; have hnc10 := NB102_101.out; obtain ⟨_, _, _, _, _, _, _, _, _, _⟩ := cf5 BK101) | (go_at_call 70; (with_reducible refine (Jc.calls a1_0 a1_1 a1_2 a1_3 a1_4 true _ A5.out).mono ?_); rintro e w12 ⟨rfl, hb⟩; replace HO0 := vb HO0 hb; replace BK101 := bb BK101 hb; replace BK102 := bb BK102 hb; replace HB := bs HB hb; (try clear hb); (try clear hb2); (try clear hk); (try clear hi); obtain ⟨_, _, _, _, _, _, _, _, _, _⟩ := cf5 BK101; obtain ⟨_, _, _, _, _, _, _, _, _, _, _, _⟩ := cf6 BK102))
   refine bodyPost_ret (JL rfl _ _ gb102 120 #[.int .i64 a1_0, .int .i64 a1_1, .int .i64 a1_2, .int .i64 a1_3, .int .i64 a1_4, .slice A0 l0.length c0] (0, 0) _ rfl (by refine pB ?_; refine Qg (cs := #[.int .i64 a1_0, .int .i64 a1_1, .int .i64 a1_2, .int .i64 a1_3, .int .i64 a1_4, .slice none 0 0]) ?_ 5 _ rfl; refine pB ?_; refine Qg (cs := #[.int .i64 a1_0, .int .i64 a1_1, .int .i64 a1_2, .int .i64 a1_3, .int .i64 0, .slice none 0 0]) ?_ 4 _ rfl; refine pB ?_; refine Qg (cs := #[.int .i64 a1_0, .int .i64 a1_1, .int .i64 a1_2, .int .i64 0, .int .i64 0, .slice none 0 0]) ?_ 3 _ rfl; refine pB ?_; refine Qg (cs := #[.int .i64 a1_0, .int .i64 a1_1, .int .i64 0, .int .i64 0, .int .i64 0, .slice none 0 0]) ?_ 2 _ rfl; refine pB ?_; refine Qg (cs := #[.int .i64 a1_0, .int .i64 0, .int .i64 0, .int .i64 0, .int .i64 0, .slice none 0 0]) ?_ 1 _ rfl; refine pB ?_; refine Qg (cs := #[.int .i64 0, .int .i64 0, .int .i64 0, .int .i64 0, .int .i64 0, .slice none 0 0]) ?_ 0 _ rfl; (with_reducible repeat (first | refine Qt ?_ _ | refine Qh ?_ | refine blk_alloc ?_ _)); exact BK102.out) Tryz.underlying120 rfl (by kernel_rfl)) rfl ?_
   exact ⟨_, eT, by (with_reducible repeat (first | apply Kd.V_alloc | apply Kd.V_drewN | apply Kd.V_drew)); exact Kd.V_mono (Kd.V_far (p := ⟨gb102, 5, none⟩) (Kd.V_far (p := ⟨gb102, 4, none⟩) (Kd.V_far (p := ⟨gb102, 3, none⟩) (Kd.V_far (p := ⟨gb102, 2, none⟩) (Kd.V_far (p := ⟨gb102, 1, none⟩) (Kd.V_far (p := ⟨gb102, 0, none⟩) (Kd.V_mono HO0.out (fun k_ hk => (⟨hk, hk.2⟩ : _ ∧ k_ ≠ gb102))) (fun _ hk => hk.2) (.int .i64 a1_0)) (fun _ hk => hk.2) (.int .i64 a1_1)) (fun _ hk => hk.2) (.int .i64 a1_2)) (fun _ hk => hk.2) (.int .i64 a1_3)) (fun _ hk => hk.2) (.int .i64 a1_4)) (fun _ hk => hk.2) (.slice A0 l0.length c0)) (fun _ hk => hk.1.1.1), pE HB⟩
  ·replace c6 := Bool.eq_false_iff.mpr c6
   subst c6
   rw [if_neg (show ¬ (false = true) by decide)] at H
   simp only [Option.some.injEq, Prod.mk.injEq] at H
   obtain ⟨rfl, rfl, rfl, rfl, rfl, rfl, rfl⟩ := H
   go_enter Tryz.func78, Tryz.ntmps78
   go_wp2_with (first | ((with_reducible refine gd 3 ?_); refine bx 3 #[.int .i64 a1_0, .int .i64 a1_1, .int .i64 a1_2, .int .i64 a1_3, .int .i64 a1_4] 26 ?_; intro gb101 hg w15 hbox hb; replace HO0 := ve HO0 hg hb; have BK101 := hbox; have GW101 := gs HB hg; replace HB := bs HB hb; clear hb hg) | ((with_reducible refine gd 4 ?_); refine bx 4 #[.int .i64 0, .int .i64 0, .int .i64 0, .int .i64 0, .int .i64 0, .slice none 0 0] 120 ?_; intro gb102 hg w16 hbox hb; replace HO0 := ve HO0 hg hb; have BK102 := hbox; have GW102 := gs HB hg; replace HB := bs HB hb; have NB101_102 := nl BK101 hg; have NB102_101 := nr BK101 hg; replace BK101 := bb BK101 hb; clear hb hg) | ((with_reducible refine gc 18 rfl ?_); refine gL 8 Tryz.func18 #[.slice A0 l0.length c0] ?_; (with_reducible refine (Jf.calls _ _ l0 t103 _ ?side1 ?side2 A3.out).mono ?_); (case side1 => exact pC (Kd.V_reads' HO0.out).2.2); (case side2 => exact (Kd.V_reads' HO0.out).2.1); rintro e w17 ⟨rfl, hb⟩; refine ⟨_, rfl, ?_⟩; replace HO0 := vb HO0 hb; replace BK101 := bb BK101 hb; replace BK102 := bb BK102 hb; replace HB := bs HB hb; clear hb; have hnb18 := NB101_102.out; have hnc18 := NB102_101.out; obtain ⟨_, _, _, _, _, _, _, _, _, _⟩ := cf5 BK101) | (go_at_call 70; (with_reducible refine (Jc.calls a1_0 a1_1 a1_2 a1_3 a1_4 false _ A5.out).mono ?_); rintro e w20 ⟨rfl, hb⟩; replace HO0 := vb HO0 hb; replace BK101 := bb BK101 hb; replace BK102 := bb BK102 hb; replace HB := bs HB hb; (try clear hb); (try clear hb2); (try clear hk); (try clear hi); obtain ⟨_, _, _, _, _, _, _, _, _, _⟩ := cf5 BK101; obtain ⟨_, _, _, _, _, _, _, _, _, _, _, _⟩ := cf6 BK102))
   refine bodyPost_ret (JL rfl _ _ gb102 120 #[.int .i64 a1_0, .int .i64 a1_1, .int .i64 a1_2, .int .i64 a1_3, .int .i64 a1_4, .slice A0 l0.length c0] (0, 0) _ rfl (by refine pB ?_; refine Qg (cs := #[.int .i64 a1_0, .int .i64 a1_1, .int .i64 a1_2, .int .i64 a1_3, .int .i64 a1_4, .slice none 0 0]) ?_ 5 _ rfl; refine pB ?_; refine Qg (cs := #[.int .i64 a1_0, .int .i64 a1_1, .int .i64 a1_2, .int .i64 a1_3, .int .i64 0, .slice none 0 0]) ?_ 4 _ rfl; refine pB ?_; refine Qg (cs := #[.int .i64 a1_0, .int .i64 a1_1, .int .i64 a1_2, .int .i64 0, .int .i64 0, .slice none 0 0]) ?_ 3 _ rfl; refine pB ?_; refine Qg (cs := #[.int .i64 a1_0, .int .i64 a1_1, .int .i64 0, .int .i64 0, .int .i64 0, .slice none 0 0]) ?_ 2 _ rfl; refine pB ?_; refine Qg (cs := #[.int .i64 a1_0, .int .i64 0, .int .i64 0, .int .i64 0, .int .i64 0, .slice none 0 0]) ?_ 1 _ rfl; refine pB ?_; refine Qg (cs := #[.int .i64 0, .int .i64 0, .int .i64 0, .int .i64 0, .int .i64 0, .slice none 0 0]) ?_ 0 _ rfl; (with_reducible repeat (first | refine Qt ?_ _ | refine Qh ?_ | refine blk_alloc ?_ _)); exact BK102.out) Tryz.underlying120 rfl (by kernel_rfl)) rfl ?_
   exact ⟨_, eT, by (with_reducible repeat (first | apply Kd.V_alloc | apply Kd.V_drewN | apply Kd.V_drew)); exact Kd.V_mono (Kd.V_far (p := ⟨gb102, 5, none⟩) (Kd.V_far (p := ⟨gb102, 4, none⟩) (Kd.V_far (p := ⟨gb102, 3, none⟩) (Kd.V_far (p := ⟨gb102, 2, none⟩) (Kd.V_far (p := ⟨gb102, 1, none⟩) (Kd.V_far (p := ⟨gb102, 0, none⟩) (Kd.V_mono HO0.out (fun k_ hk => (⟨hk, hk.2⟩ : _ ∧ k_ ≠ gb102))) (fun _ hk => hk.2) (.int .i64 a1_0)) (fun _ hk => hk.2) (.int .i64 a1_1)) (fun _ hk => hk.2) (.int .i64 a1_2)) (fun _ hk => hk.2) (.int .i64 a1_3)) (fun _ hk => hk.2) (.int .i64 a1_4)) (fun _ hk => hk.2) (.slice A0 l0.length c0)) (fun _ hk => hk.1.1.1), pE HB⟩
 ·rw [if_neg c4] at H
  have c4b0 : (t103 == 0) = false := beq_eq_false_iff_ne.mpr c4
  have c4b1 : (t103 != 0) = true := bne_iff_ne.mpr c4
  simp only [Option.some.injEq, Prod.mk.injEq] at H
  obtain ⟨rfl, rfl, rfl, rfl, rfl, rfl, rfl⟩ := H
  go_enter Tryz.func78, Tryz.ntmps78
  go_wp2_with (first | ((with_reducible refine gd 3 ?_); refine bx 3 #[.int .i64 a1_0, .int .i64 a1_1, .int .i64 a1_2, .int .i64 a1_3, .int .i64 a1_4] 26 ?_; intro gb101 hg w23 hbox hb; replace HO0 := ve HO0 hg hb; have BK101 := hbox; have GW101 := gs HB hg; replace HB := bs HB hb; clear hb hg) | ((with_reducible refine gd 4 ?_); refine bx 4 #[.int .i64 0, .int .i64 0, .int .i64 0, .int .i64 0, .int .i64 0, .slice none 0 0] 120 ?_; intro gb102 hg w24 hbox hb; replace HO0 := ve HO0 hg hb; have BK102 := hbox; have GW102 := gs HB hg; replace HB := bs HB hb; have NB101_102 := nl BK101 hg; have NB102_101 := nr BK101 hg; replace BK101 := bb BK101 hb; clear hb hg) | ((with_reducible refine gc 18 rfl ?_); refine gL 8 Tryz.func18 #[.slice A0 l0.length c0] ?_; (with_reducible refine (Jf.calls _ _ l0 t103 _ ?side1 ?side2 A3.out).mono ?_); (case side1 => exact pC (Kd.V_reads' HO0.out).2.2); (case side2 => exact (Kd.V_reads' HO0.out).2.1); rintro e w25 ⟨rfl, hb⟩; refine ⟨_, rfl, ?_⟩; replace HO0 := vb HO0 hb; replace BK101 := bb BK101 hb; replace BK102 := bb BK102 hb; replace HB := bs HB hb; clear hb; have hnb26 := NB101_102.out; have hnc26 := NB102_101.out; obtain ⟨_, _, _, _, _, _, _, _, _, _⟩ := cf5 BK101; obtain ⟨_, _, _, _, _, _, _, _, _, _, _, _⟩ := cf6 BK102))
  refine bodyPost_ret (JL rfl _ _ gb102 120 #[.int .i64 a1_0, .int .i64 a1_1, .int .i64 a1_2, .int .i64 a1_3, .int .i64 a1_4, .slice A0 l0.length c0] (0, 0) _ rfl (by refine pB ?_; refine Qg (cs := #[.int .i64 a1_0, .int .i64 a1_1, .int .i64 a1_2, .int .i64 a1_3, .int .i64 a1_4, .slice none 0 0]) ?_ 5 _ rfl; refine pB ?_; refine Qg (cs := #[.int .i64 a1_0, .int .i64 a1_1, .int .i64 a1_2, .int .i64 a1_3, .int .i64 0, .slice none 0 0]) ?_ 4 _ rfl; refine pB ?_; refine Qg (cs := #[.int .i64 a1_0, .int .i64 a1_1, .int .i64 a1_2, .int .i64 0, .int .i64 0, .slice none 0 0]) ?_ 3 _ rfl; refine pB ?_; refine Qg (cs := #[.int .i64 a1_0, .int .i64 a1_1, .int .i64 0, .int .i64 0, .int .i64 0, .slice none 0 0]) ?_ 2 _ rfl; refine pB ?_; refine Qg (cs := #[.int .i64 a1_0, .int .i64 0, .int .i64 0, .int .i64 0, .int .i64 0, .slice none 0 0]) ?_ 1 _ rfl; refine pB ?_; refine Qg (cs := #[.int .i64 0, .int .i64 0, .int .i64 0, .int .i64 0, .int .i64 0, .slice none 0 0]) ?_ 0 _ rfl; (with_reducible repeat (first | refine Qt ?_ _ | refine Qh ?_ | refine blk_alloc ?_ _)); exact BK102.out) Tryz.underlying120 rfl (by kernel_rfl)) rfl ?_
  exact ⟨_, eT, by (with_reducible repeat (first | apply Kd.V_alloc | apply Kd.V_drewN | apply Kd.V_drew)); exact Kd.V_mono (Kd.V_far (p := ⟨gb102, 5, none⟩) (Kd.V_far (p := ⟨gb102, 4, none⟩) (Kd.V_far (p := ⟨gb102, 3, none⟩) (Kd.V_far (p := ⟨gb102, 2, none⟩) (Kd.V_far (p := ⟨gb102, 1, none⟩) (Kd.V_far (p := ⟨gb102, 0, none⟩) (Kd.V_mono HO0.out (fun k_ hk => (⟨hk, hk.2⟩ : _ ∧ k_ ≠ gb102))) (fun _ hk => hk.2) (.int .i64 a1_0)) (fun _ hk => hk.2) (.int .i64 a1_1)) (fun _ hk => hk.2) (.int .i64 a1_2)) (fun _ hk => hk.2) (.int .i64 a1_3)) (fun _ hk => hk.2) (.int .i64 a1_4)) (fun _ hk => hk.2) (.slice A0 l0.length c0)) (fun _ hk => hk.1.1.1), pE HB⟩
def QJ.l0 : Nat → List S100 → List Int → Int → Int → Int → Int → Int → Int → Int → List S100 → Option (Int × Int × Int × Int × Int × (List S100) × Int)
 | 0, _, _, _, _, _, _, _, _, _, _ => none
 | k + 1, x0, x28, x29, x30, x113000, x113001, x113002, x113003, x113004, x113005 => if x30 < x29 then (if 0 ≤ x30 then (if x30 < (x28.length : Int) then (if x30 < (x0.length : Int) then ((Qk.f 0 ((Qf x0 x30).f3) (([rd x28 x30] : List Int))).bind fun t118 => (if t118 = true then (QJ.l0 k x0 x28 x29 (wrap64 (x30 + 1)) x113000 x113001 x113002 x113003 x113004 x113005) else (some (x113000, x113001, x113002, x113003, x113004, x113005, 4)))) else (none)) else (none)) else (none)) else (some (x113000, x113001, x113002, x113003, x113004, x113005, 0))
def QJ.f (k : Nat) (l0 : List S100) (a1_0 a1_1 a1_2 a1_3 a1_4 : Int) (l2 : List Int) : Option (Int × Int × Int × Int × Int × (List S100) × Int) := (Jd.f l0 a1_0 a1_1 a1_2 a1_3 a1_4).bind fun bt103 => (if bt103.2.2.2.2.2.2 = 0 then (if (l2.length : Int) = (l0.length : Int) then (QJ.l0 k l0 l2 (l2.length : Int) 0 bt103.1 bt103.2.1 bt103.2.2.1 bt103.2.2.2.1 bt103.2.2.2.2.1 bt103.2.2.2.2.2.1) else (some (bt103.1, bt103.2.1, bt103.2.2.1, bt103.2.2.2.1, bt103.2.2.2.2.1, bt103.2.2.2.2.2.1, 4))) else (some (bt103.1, bt103.2.1, bt103.2.2.1, bt103.2.2.2.1, bt103.2.2.2.2.1, bt103.2.2.2.2.2.1, bt103.2.2.2.2.2.2)))
theorem QJ.mono_l : ∀ k, (∀ y0 y1 y2 y3 y4 y5 y6 y7 y8 y9, LeO (QJ.l0 k y0 y1 y2 y3 y4 y5 y6 y7 y8 y9) (QJ.l0 (k + 1) y0 y1 y2 y3 y4 y5 y6 y7 y8 y9))
 | 0 => fun _ _ _ _ _ _ _ _ _ _ r h => by simp [QJ.l0] at h
 | k + 1 => by
  have ih0 := QJ.mono_l k
  ·intro y0 y1 y2 y3 y4 y5 y6 y7 y8 y9
   unfold QJ.l0
   repeat' first
   | (with_reducible exact ih0 _ _ _ _ _ _ _ _ _ _)
   | (with_reducible exact LeO.refl _)
   | (with_reducible exact LeO.none _)
   | (with_reducible refine LeO.ite ?_ ?_)
   | (with_reducible refine LeO.bind ?_ (fun _ => ?_))
theorem QJ.mono : ∀ a0 a1 a2 a3 a4 a5 a6 k, LeO (QJ.f k a0 a1 a2 a3 a4 a5 a6) (QJ.f (k + 1) a0 a1 a2 a3 a4 a5 a6) := by
 intro a0 a1 a2 a3 a4 a5 a6 k
 have ih0 := QJ.mono_l k
 unfold QJ.f
 repeat' first
   | (with_reducible exact ih0 _ _ _ _ _ _ _ _ _ _)
   | (with_reducible exact LeO.refl _)
   | (with_reducible exact LeO.none _)
   | (with_reducible refine LeO.ite ?_ ?_)
   | (with_reducible refine LeO.bind ?_ (fun _ => ?_))
set_option maxHeartbeats 8000000 in
set_option maxRecDepth 100000 in
theorem QJ.calls (k : Nat) (P0_ : Nat → Prop) (A0 : Option Addr) (c0 : Nat) (l0 : List S100) (a1_0 a1_1 a1_2 a1_3 a1_4 : Int) (A2 : Option Addr) (c2 : Nat) (l2 : List Int) (r1 r2 r3 r4 r5 : Int) (r6 : List S100) (r7 : Int) (w : World) (hs0 : Kd.V k100 100 w w.heap.size (fun k_ => P0_ k_) (.slice A0 l0.length c0) l0) (hr2 : Kd.C (Kd.int .i64) w A2 l2.length l2) (hc2 : l2.length ≤ c2) (h : QJ.f k l0 a1_0 a1_1 a1_2 a1_3 a1_4 l2 = some (r1, r2, r3, r4, r5, r6, r7)) :
  Calls Tryz.prog 72 #[.slice A0 l0.length c0, .agg #[.int .i64 a1_0, .int .i64 a1_1, .int .i64 a1_2, .int .i64 a1_3, .int .i64 a1_4], .slice A2 l2.length c2] w fun e w' => ∃ v5_ : Value, e = .returned (.tuple #[.agg #[.int .i64 r1, .int .i64 r2, .int .i64 r3, .int .i64 r4, .int .i64 r5, v5_], .int .i64 r7]) ∧ Kd.V k100 100 w' w.heap.size (fun k_ => (P0_ k_ ∨ w.heap.size ≤ k_)) v5_ r6 ∧ Below w.heap.size w w' := by
 have hu26 := Tryz.underlying26
 have hu120 := Tryz.underlying120
 have HO0 := Qa.mk (show Kd.V k100 100 w w.heap.size (fun k_ => (P0_ k_ ∨ w.heap.size ≤ k_)) (.slice A0 l0.length c0) l0 from Kd.V_mono hs0 (fun k_ hk => .inl hk))
 have HR2 := Qa.mk hr2
 have HC2 := Qa.mk hc2
 clear hr2 hc2
 have HB := Qa.mk (Below.refl w.heap.size w)
 have H : ((Jd.f l0 a1_0 a1_1 a1_2 a1_3 a1_4).bind fun bt103 => (if bt103.2.2.2.2.2.2 = 0 then (if (l2.length : Int) = (l0.length : Int) then (QJ.l0 k l0 l2 (l2.length : Int) 0 bt103.1 bt103.2.1 bt103.2.2.1 bt103.2.2.2.1 bt103.2.2.2.2.1 bt103.2.2.2.2.2.1) else (some (bt103.1, bt103.2.1, bt103.2.2.1, bt103.2.2.2.1, bt103.2.2.2.2.1, bt103.2.2.2.2.2.1, 4))) else (some (bt103.1, bt103.2.1, bt103.2.2.1, bt103.2.2.2.1, bt103.2.2.2.2.1, bt103.2.2.2.2.2.1, bt103.2.2.2.2.2.2)))) = some (r1, r2, r3, r4, r5, r6, r7) := h
 clear h
 obtain ⟨⟨t103, t104, t105, t106, t107, t108, t111⟩, A4, H⟩ := bi H
 by_cases c5 : t111 = 0
 ·rw [if_pos c5] at H
  have c5b0 : (t111 == 0) = true := beq_iff_eq.mpr c5
  have c5b1 : (t111 != 0) = false := bne_eq_false_iff_eq.mpr c5
  clear c5
  by_cases c6 : (l2.length : Int) = (l0.length : Int)
  ·rw [if_pos c6] at H
   have c6b0 : ((l2.length : Int) == (l0.length : Int)) = true := beq_iff_eq.mpr c6
   have c6b1 : ((l2.length : Int) != (l0.length : Int)) = false := bne_eq_false_iff_eq.mpr c6
   have c6b2 : (l2.length == l0.length) = true := by first | simpa using c6 | (simp at c6 ⊢; omega)
   clear c6
   have H' := Qa.mk H
   clear H
   go_enter Tryz.func72, Tryz.ntmps72
   go_wp2_with (first | ((with_reducible refine gd 4 ?_); refine bx 4 #[.int .i64 a1_0, .int .i64 a1_1, .int .i64 a1_2, .int .i64 a1_3, .int .i64 a1_4] 26 ?_; intro gb101 hg w7 hbox hb; replace HO0 := ve HO0 hg hb; have BK101 := hbox; have GW101 := gs HB hg; replace HB := bs HB hb; clear hb hg) | ((with_reducible refine gd 6 ?_); refine bx 6 #[.int .i64 0, .int .i64 0, .int .i64 0, .int .i64 0, .int .i64 0, .slice none 0 0] 120 ?_; intro gb102 hg w8 hbox hb; replace HO0 := ve HO0 hg hb; have BK102 := hbox; have GW102 := gs HB hg; replace HB := bs HB hb; have NB101_102 := nl BK101 hg; have NB102_101 := nr BK101 hg; replace BK101 := bb BK101 hb; clear hb hg; have hnb9 := NB101_102.out; have hnc9 := NB102_101.out; obtain ⟨hcz10_0, hcz10_1, hcz10_2, hcz10_3, hcz10_4, hfz10_0, hfz10_1, hfz10_2, hfz10_3, hfz10_4⟩ := cf5 BK101) | ((with_reducible refine gc 78 rfl ?_); refine gL 15 Tryz.func78 #[.slice A0 l0.length c0, .agg #[.int .i64 a1_0, .int .i64 a1_1, .int .i64 a1_2, .int .i64 a1_3, .int .i64 a1_4]] ?_; (with_reducible refine (Jd.calls (fun k_ => (((P0_ k_ ∨ w.heap.size ≤ k_) ∧ k_ ≠ gb101) ∧ k_ ≠ gb102)) _ _ l0 a1_0 a1_1 a1_2 a1_3 a1_4 t103 t104 t105 t106 t107 t108 t111 _ ?side1 A4.out).mono ?_); (case side1 => exact HO0.out); rintro e w11 ⟨v109, rfl, ho0, hb⟩; refine ⟨_, rfl, ?_⟩; replace HO0 := vb HO0 hb; have HO110 := Qa.mk (Kd.V_lower (Kd.V_mono (ok' := fun k_ => (P0_ k_ ∨ w.heap.size ≤ k_) ∧ k_ ≠ gb101 ∧ k_ ≠ gb102) ho0 (fun k_ hk_ => ⟨Or.elim hk_ (fun hs_ => hs_.1.1) (fun hn_ => (.inr (Nat.le_trans (Qr (pE HB)) hn_))), Or.elim hk_ (fun hs_ => hs_.1.2) (fun hn_ => (Kd.freshB (g := gb101) (o := .cells #[.int .i64 a1_0, .int .i64 a1_1, .int .i64 a1_2, .int .i64 a1_3, .int .i64 a1_4] 26 (0, 0)) (pB BK101.out) k_ hn_)), Or.elim hk_ (fun hs_ => hs_.2) (fun hn_ => (Kd.freshB (g := gb102) (o := .cells #[.int .i64 0, .int .i64 0, .int .i64 0, .int .i64 0, .int .i64 0, .slice none 0 0] 120 (0, 0)) (pB BK102.out) k_ hn_))⟩)) (Qr (pE HB))); replace BK101 := bb BK101 hb; replace BK102 := bb BK102 hb; replace HB := bs HB hb; clear hb ho0) | ((with_reducible refine gd 8 ?_); refine bx 8 #[.int .i64 0, .int .i64 0, .int .i64 0, .int .i64 0, .int .i64 0, .slice none 0 0] 120 ?_; intro gb112 hg w12 hbox hb; replace HO0 := ve HO0 hg hb; replace HO110 := ve HO110 hg hb; have BK112 := hbox; have GW112 := gs HB hg; replace HB := bs HB hb; have NB101_112 := nl BK101 hg; have NB112_101 := nr BK101 hg; replace BK101 := bb BK101 hb; have NB102_112 := nl BK102 hg; have NB112_102 := nr BK102 hg; replace BK102 := bb BK102 hb; clear hb hg; have hnb13 := NB112_101.out; have hnc13 := NB101_112.out; have hnb14 := NB112_102.out; have hnc14 := NB102_112.out; obtain ⟨hcz15_0, hcz15_1, hcz15_2, hcz15_3, hcz15_4, hcz15_5, hfz15_0, hfz15_1, hfz15_2, hfz15_3, hfz15_4, hfz15_5⟩ := cf6 BK112; obtain ⟨Ao16, co16, eo16⟩ := Kd.V_slice HO110.out; subst eo16))
   go_loopg [30] k (fun kq v30 w' => ∃ (x30_1 : Int) (x103000_1 : Int) (x103001_1 : Int) (x103002_1 : Int) (x103003_1 : Int) (x103004_1 : Int), v30 = .int .i64 x30_1 ∧ Qa (QJ.l0 kq l0 l2 (l2.length : Int) x30_1 t103 t104 t105 t106 t107 t108 = some (r1, r2, r3, r4, r5, r6, r7)) ∧ Qa (kq ≤ k) ∧ Qa (Kd.V k100 100 w' w.heap.size (fun k_ => (P0_ k_ ∨ w.heap.size ≤ k_) ∧ k_ ≠ gb101 ∧ k_ ≠ gb102 ∧ k_ ≠ gb112) (.slice A0 l0.length c0) l0) ∧ Qa (Kd.V k100 100 w' w.heap.size (fun k_ => (P0_ k_ ∨ w.heap.size ≤ k_) ∧ k_ ≠ gb101 ∧ k_ ≠ gb102 ∧ k_ ≠ gb112) (.slice Ao16 t108.length co16) t108) ∧ Qa (w'.heap[gb101]? = some (.cells #[.int .i64 a1_0, .int .i64 a1_1, .int .i64 a1_2, .int .i64 a1_3, .int .i64 a1_4] 26 (0, 0))) ∧ Qa (w'.heap[gb102]? = some (.cells #[.int .i64 x103000_1, .int .i64 x103001_1, .int .i64 x103002_1, .int .i64 x103003_1, .int .i64 x103004_1, (.slice none 0 0)] 120 (0, 0))) ∧ Qa (w'.heap[gb112]? = some (.cells #[.int .i64 t103, .int .i64 t104, .int .i64 t105, .int .i64 t106, .int .i64 t107, (.slice Ao16 t108.length co16)] 120 (0, 0))) ∧ Qa (Below w.heap.size w w'))
   case atStart => exact ⟨(0), (0), (0), (0), (0), (0), eS, H', ⟨Nat.le_refl _⟩, ⟨by (with_reducible repeat (first | apply Kd.V_alloc | apply Kd.V_drewN | apply Kd.V_drew)); exact Kd.V_mono (Kd.V_far (p := ⟨gb112, 5, none⟩) (Kd.V_far (p := ⟨gb112, 4, none⟩) (Kd.V_far (p := ⟨gb112, 3, none⟩) (Kd.V_far (p := ⟨gb112, 2, none⟩) (Kd.V_far (p := ⟨gb112, 1, none⟩) (Kd.V_far (p := ⟨gb112, 0, none⟩) (Kd.V_mono HO0.out (fun k_ hk => (⟨hk, hk.2⟩ : _ ∧ k_ ≠ gb112))) (fun _ hk => hk.2) (.int .i64 t103)) (fun _ hk => hk.2) (.int .i64 t104)) (fun _ hk => hk.2) (.int .i64 t105)) (fun _ hk => hk.2) (.int .i64 t106)) (fun _ hk => hk.2) (.int .i64 t107)) (fun _ hk => hk.2) (.slice Ao16 t108.length co16)) (fun _ hk => ⟨hk.1.1.1.1, ⟨hk.1.1.1.2, ⟨hk.1.1.2, hk.1.2⟩⟩⟩)⟩, ⟨by (with_reducible repeat (first | apply Kd.V_alloc | apply Kd.V_drewN | apply Kd.V_drew)); exact Kd.V_mono (Kd.V_far (p := ⟨gb112, 5, none⟩) (Kd.V_far (p := ⟨gb112, 4, none⟩) (Kd.V_far (p := ⟨gb112, 3, none⟩) (Kd.V_far (p := ⟨gb112, 2, none⟩) (Kd.V_far (p := ⟨gb112, 1, none⟩) (Kd.V_far (p := ⟨gb112, 0, none⟩) (Kd.V_mono HO110.out (fun k_ hk => (⟨hk, hk.2⟩ : _ ∧ k_ ≠ gb112))) (fun _ hk => hk.2) (.int .i64 t103)) (fun _ hk => hk.2) (.int .i64 t104)) (fun _ hk => hk.2) (.int .i64 t105)) (fun _ hk => hk.2) (.int .i64 t106)) (fun _ hk => hk.2) (.int .i64 t107)) (fun _ hk => hk.2) (.slice Ao16 t108.length co16)) (fun _ hk => ⟨hk.1.1.1, ⟨hk.1.1.2.1, ⟨hk.1.1.2.2, hk.1.2⟩⟩⟩)⟩, ⟨by refine pB ?_; refine Qx ?_ NB101_112.out _; refine pB ?_; refine Qx ?_ NB101_112.out _; refine pB ?_; refine Qx ?_ NB101_112.out _; refine pB ?_; refine Qx ?_ NB101_112.out _; refine pB ?_; refine Qx ?_ NB101_112.out _; refine pB ?_; refine Qx ?_ NB101_112.out _; (with_reducible repeat (first | refine Qt ?_ _ | refine Qh ?_ | refine blk_alloc ?_ _)); exact BK101.out⟩, ⟨by refine pB ?_; refine Qx ?_ NB102_112.out _; refine pB ?_; refine Qx ?_ NB102_112.out _; refine pB ?_; refine Qx ?_ NB102_112.out _; refine pB ?_; refine Qx ?_ NB102_112.out _; refine pB ?_; refine Qx ?_ NB102_112.out _; refine pB ?_; refine Qx ?_ NB102_112.out _; (with_reducible repeat (first | refine Qt ?_ _ | refine Qh ?_ | refine blk_alloc ?_ _)); exact BK102.out⟩, ⟨by refine pB ?_; refine Qg (cs := #[.int .i64 t103, .int .i64 t104, .int .i64 t105, .int .i64 t106, .int .i64 t107, .slice none 0 0]) ?_ 5 _ rfl; refine pB ?_; refine Qg (cs := #[.int .i64 t103, .int .i64 t104, .int .i64 t105, .int .i64 t106, .int .i64 0, .slice none 0 0]) ?_ 4 _ rfl; refine pB ?_; refine Qg (cs := #[.int .i64 t103, .int .i64 t104, .int .i64 t105, .int .i64 0, .int .i64 0, .slice none 0 0]) ?_ 3 _ rfl; refine pB ?_; refine Qg (cs := #[.int .i64 t103, .int .i64 t104, .int .i64 0, .int .i64 0, .int .i64 0, .slice none 0 0]) ?_ 2 _ rfl; refine pB ?_; refine Qg (cs := #[.int .i64 t103, .int .i64 0, .int .i64 0, .int .i64 0, .int .i64 0, .slice none 0 0]) ?_ 1 _ rfl; refine pB ?_; refine Qg (cs := #[.int .i64 0, .int .i64 0, .int .i64 0, .int .i64 0, .int .i64 0, .slice none 0 0]) ?_ 0 _ rfl; (with_reducible repeat (first | refine Qt ?_ _ | refine Qh ?_ | refine blk_alloc ?_ _)); exact BK112.out⟩, ⟨pE HB⟩⟩
   case round =>
    clear H'
    try clear c1
    try clear c2
    try clear p2
    try clear c5
    try clear c5b0
    try clear c5b1
    try clear c6
    try clear c6b0
    try clear c6b1
    try clear c6b2
    try clear c7
    try clear c9
    try clear c13
    try clear c14
    try clear hcz10_0
    try clear hcz10_1
    try clear hcz10_2
    try clear hcz10_3
    try clear hcz10_4
    try clear hcz15_0
    try clear hcz15_1
    try clear hcz15_2
    try clear hcz15_3
    try clear hcz15_4
    try clear hcz15_5
    try clear hfz10_0
    try clear hfz10_1
    try clear hfz10_2
    try clear hfz10_3
    try clear hfz10_4
    try clear hfz15_0
    try clear hfz15_1
    try clear hfz15_2
    try clear hfz15_3
    try clear hfz15_4
    try clear hfz15_5
    obtain ⟨x30_1, x103000_1, x103001_1, x103002_1, x103003_1, x103004_1, rfl, HA, HK1, HO_0, HO_113005, BK101, BK102, BK112, HB⟩ := hrel
    cases gk with
    | zero => exact absurd HA.out (by simp [QJ.l0])
    | succ k1 =>
     have H := HA.out
     clear HA
     simp only [QJ.l0] at H
     by_cases c17 : x30_1 < (l2.length : Int)
     ·rw [if_pos c17] at H
      have c17b0 : decide (x30_1 < (l2.length : Int)) = true := decide_eq_true c17
      clear c17
      by_cases c18 : 0 ≤ x30_1
      ·rw [if_pos c18] at H
       have c18b0 : decide (0 ≤ x30_1) = true := decide_eq_true c18
       clear c18
       by_cases c19 : x30_1 < (l2.length : Int)
       ·rw [if_pos c19] at H
        have c19b0 : decide (x30_1 < (l2.length : Int)) = true := decide_eq_true c19
        clear c19
        by_cases c20 : x30_1 < (l0.length : Int)
        ·rw [if_pos c20] at H
         have c20b0 : decide (x30_1 < (l0.length : Int)) = true := decide_eq_true c20
         clear c20
         obtain ⟨y115, hy115⟩ : ∃ y_ : List Int, y_ = (([rd l2 x30_1] : List Int)) := ⟨_, rfl⟩
         replace H : Option.bind (Qk.f 0 ((Qf l0 x30_1).f3) y115) _ = some (r1, r2, r3, r4, r5, r6, r7) := yy hy115 H
         have Ny115 := Qa.mk hy115
         clear hy115
         obtain ⟨t118, A21, H⟩ := bi H
         by_cases c22 : t118 = true
         ·subst c22
          rw [if_pos rfl] at H
          have H' := Qa.mk H
          clear H
          have p113 : 0 ≤ (x30_1 : Int) := dT
          have q113 : x30_1 < (l2.length : Int) := dT
          obtain ⟨ad113, e113, hx113_0⟩ := Kd.at_int HR2.out x30_1 p113 q113
          cases e113
          replace hx113_0 := cut_ HB hx113_0
          replace p113 := eq_true p113
          replace q113 := eq_true q113
          have p114 : 0 ≤ (x30_1 : Int) := dT
          have q114 : x30_1 < (l0.length : Int) := dT
          obtain ⟨ad114, e114, hx114_0, hx114_1, hx114_2, hx114_3, hx114_4⟩ := Zf (Kd.V_reads' HO_0.out).2.2 x30_1 p114 q114
          cases e114
          replace p114 := eq_true p114
          replace q114 := eq_true q114
          go_wp2_with (first | ((with_reducible refine gd 41 ?_); refine Kd.R_lit (Kd.int .i64) _ 3 ?hg (N := 41) ?hd (xs := ([rd l2 x30_1] : List Int)) (inner := [.int .i64 (rd l2 x30_1)]) (ok := fun _ => True) (okp := fun _ => True) ?hr ?hp (fun _ hk => hk) trivial (Below.refl _ _) (Nat.le_refl _) (by simp) ?_; (case hd => rfl); (case hg => rfl); (case hr => first | (go_simp; done) | (go_simp; rfl)); (case hp => exact (Reps.one (show Kd.M (Kd.int .i64) _ _ _ (rd l2 x30_1) [.int .i64 (rd l2 x30_1)] from rfl) (Reps.none _ _))); intro v116 w23 ho24 hb hg_ hnew_; clear hg_ hnew_; (first | rw [← Ny115.out] at ho24 | (simp only [Int.reduceToNat] at ho24; rw [← Ny115.out] at ho24)); replace HO_0 := Qa.mk (Kd.V_elder' (pV HO_0.out) (Kd.R_base ho24) hb); replace HO_113005 := Qa.mk (Kd.V_elder' (pV HO_113005.out) (Kd.R_base ho24) hb); have HO117 := Qa.mk (Kd.R_lower (Kd.R_newM (M := fun k_ => (w.heap.size ≤ k_)) ho24 (Qr (pE HB)) (fun k_ h_ => h_)) (Qr (pE HB))); replace BK101 := bb BK101 hb; replace BK102 := bb BK102 hb; replace BK112 := bb BK112 hb; replace HB := bs HB hb; clear hb ho24; obtain ⟨Ao25, co25, eo25⟩ := Kd.R_slice HO117.out; subst eo25) | ((with_reducible refine gc 68 rfl ?_); refine gL 42 Tryz.func68 #[.int .i64 0, .int .i64 ((Qf l0 x30_1).f3), .slice Ao25 y115.length co25] ?_; (with_reducible refine (Qk.calls 0 ((Qf l0 x30_1).f3) _ _ y115 true _ ?side1 ?side2 A21.out).mono ?_); (case side1 => exact pC (Kd.R_reads' HO117.out).2.2); (case side2 => exact (Kd.R_reads' HO117.out).2.1); rintro e w26 ⟨rfl, hb⟩; refine ⟨_, rfl, ?_⟩; replace HO_0 := vb HO_0 hb; replace HO_113005 := vb HO_113005 hb; replace HO117 := rb HO117 hb; replace BK101 := bb BK101 hb; replace BK102 := bb BK102 hb; replace BK112 := bb BK112 hb; replace HB := bs HB hb; clear hb))
          go_roundg k1
          case measure => have := HK1.out; omega
          case rel => exact ⟨(wrap64 (x30_1 + 1)), (x103000_1), (x103001_1), (x103002_1), (x103003_1), (x103004_1), eS, H', ⟨by have := HK1.out; omega⟩, ⟨by (with_reducible repeat (first | apply Kd.V_alloc | apply Kd.V_drewN | apply Kd.V_drew)); exact Kd.V_mono HO_0.out (fun _ hk => ⟨hk.1.1, ⟨hk.1.2.1, ⟨hk.1.2.2.1, hk.1.2.2.2⟩⟩⟩)⟩, ⟨by (with_reducible repeat (first | apply Kd.V_alloc | apply Kd.V_drewN | apply Kd.V_drew)); exact Kd.V_mono HO_113005.out (fun _ hk => ⟨hk.1.1, ⟨hk.1.2.1, ⟨hk.1.2.2.1, hk.1.2.2.2⟩⟩⟩)⟩, ⟨pB BK101.out⟩, ⟨pB BK102.out⟩, ⟨pB BK112.out⟩, ⟨pE HB⟩⟩
         ·replace c22 := Bool.eq_false_iff.mpr c22
          subst c22
          rw [if_neg (show ¬ (false = true) by decide)] at H
          simp only [Option.some.injEq, Prod.mk.injEq] at H
          obtain ⟨rfl, rfl, rfl, rfl, rfl, rfl, rfl⟩ := H
          have p113 : 0 ≤ (x30_1 : Int) := dT
          have q113 : x30_1 < (l2.length : Int) := dT
          obtain ⟨ad113, e113, hx113_0⟩ := Kd.at_int HR2.out x30_1 p113 q113
          cases e113
          replace hx113_0 := cut_ HB hx113_0
          replace p113 := eq_true p113
          replace q113 := eq_true q113
          have p114 : 0 ≤ (x30_1 : Int) := dT
          have q114 : x30_1 < (l0.length : Int) := dT
          obtain ⟨ad114, e114, hx114_0, hx114_1, hx114_2, hx114_3, hx114_4⟩ := Zf (Kd.V_reads' HO_0.out).2.2 x30_1 p114 q114
          cases e114
          replace p114 := eq_true p114
          replace q114 := eq_true q114
          go_wp2_with (first | ((with_reducible refine gd 41 ?_); refine Kd.R_lit (Kd.int .i64) _ 3 ?hg (N := 41) ?hd (xs := ([rd l2 x30_1] : List Int)) (inner := [.int .i64 (rd l2 x30_1)]) (ok := fun _ => True) (okp := fun _ => True) ?hr ?hp (fun _ hk => hk) trivial (Below.refl _ _) (Nat.le_refl _) (by simp) ?_; (case hd => rfl); (case hg => rfl); (case hr => first | (go_simp; done) | (go_simp; rfl)); (case hp => exact (Reps.one (show Kd.M (Kd.int .i64) _ _ _ (rd l2 x30_1) [.int .i64 (rd l2 x30_1)] from rfl) (Reps.none _ _))); intro v116 w27 ho28 hb hg_ hnew_; clear hg_ hnew_; (first | rw [← Ny115.out] at ho28 | (simp only [Int.reduceToNat] at ho28; rw [← Ny115.out] at ho28)); replace HO_0 := Qa.mk (Kd.V_elder' (pV HO_0.out) (Kd.R_base ho28) hb); replace HO_113005 := Qa.mk (Kd.V_elder' (pV HO_113005.out) (Kd.R_base ho28) hb); have HO117 := Qa.mk (Kd.R_lower (Kd.R_newM (M := fun k_ => (w.heap.size ≤ k_)) ho28 (Qr (pE HB)) (fun k_ h_ => h_)) (Qr (pE HB))); replace BK101 := bb BK101 hb; replace BK102 := bb BK102 hb; replace BK112 := bb BK112 hb; replace HB := bs HB hb; clear hb ho28; obtain ⟨Ao29, co29, eo29⟩ := Kd.R_slice HO117.out; subst eo29) | ((with_reducible refine gc 68 rfl ?_); refine gL 42 Tryz.func68 #[.int .i64 0, .int .i64 ((Qf l0 x30_1).f3), .slice Ao29 y115.length co29] ?_; (with_reducible refine (Qk.calls 0 ((Qf l0 x30_1).f3) _ _ y115 false _ ?side1 ?side2 A21.out).mono ?_); (case side1 => exact pC (Kd.R_reads' HO117.out).2.2); (case side2 => exact (Kd.R_reads' HO117.out).2.1); rintro e w30 ⟨rfl, hb⟩; refine ⟨_, rfl, ?_⟩; replace HO_0 := vb HO_0 hb; replace HO_113005 := vb HO_113005 hb; replace HO117 := rb HO117 hb; replace BK101 := bb BK101 hb; replace BK102 := bb BK102 hb; replace BK112 := bb BK112 hb; replace HB := bs HB hb; clear hb; have hnb31 := NB112_101.out; have hnc31 := NB101_112.out; have hnb32 := NB112_102.out; have hnc32 := NB102_112.out; obtain ⟨_, _, _, _, _, _, _, _, _, _, _, _⟩ := cf6 BK112; have hnb34 := NB102_101.out; have hnc34 := NB101_102.out; obtain ⟨_, _, _, _, _, _, _, _, _, _, _, _⟩ := cf6 BK102))
          refine bodyPost_ret (JL rfl _ _ gb102 120 #[.int .i64 t103, .int .i64 t104, .int .i64 t105, .int .i64 t106, .int .i64 t107, .slice Ao16 t108.length co16] (0, 0) _ rfl (by refine pB ?_; refine Qg (cs := #[.int .i64 t103, .int .i64 t104, .int .i64 t105, .int .i64 t106, .int .i64 t107, .slice none 0 0]) ?_ 5 _ rfl; refine pB ?_; refine Qg (cs := #[.int .i64 t103, .int .i64 t104, .int .i64 t105, .int .i64 t106, .int .i64 x103004_1, .slice none 0 0]) ?_ 4 _ rfl; refine pB ?_; refine Qg (cs := #[.int .i64 t103, .int .i64 t104, .int .i64 t105, .int .i64 x103003_1, .int .i64 x103004_1, .slice none 0 0]) ?_ 3 _ rfl; refine pB ?_; refine Qg (cs := #[.int .i64 t103, .int .i64 t104, .int .i64 x103002_1, .int .i64 x103003_1, .int .i64 x103004_1, .slice none 0 0]) ?_ 2 _ rfl; refine pB ?_; refine Qg (cs := #[.int .i64 t103, .int .i64 x103001_1, .int .i64 x103002_1, .int .i64 x103003_1, .int .i64 x103004_1, .slice none 0 0]) ?_ 1 _ rfl; refine pB ?_; refine Qg (cs := #[.int .i64 x103000_1, .int .i64 x103001_1, .int .i64 x103002_1, .int .i64 x103003_1, .int .i64 x103004_1, .slice none 0 0]) ?_ 0 _ rfl; (with_reducible repeat (first | refine Qt ?_ _ | refine Qh ?_ | refine blk_alloc ?_ _)); exact BK102.out) Tryz.underlying120 rfl (by kernel_rfl)) rfl ?_
          exact ⟨_, eT, by (with_reducible repeat (first | apply Kd.V_alloc | apply Kd.V_drewN | apply Kd.V_drew)); exact Kd.V_mono (Kd.V_far (p := ⟨gb102, 5, none⟩) (Kd.V_far (p := ⟨gb102, 4, none⟩) (Kd.V_far (p := ⟨gb102, 3, none⟩) (Kd.V_far (p := ⟨gb102, 2, none⟩) (Kd.V_far (p := ⟨gb102, 1, none⟩) (Kd.V_far (p := ⟨gb102, 0, none⟩) (Kd.V_mono HO_113005.out (fun k_ hk => (⟨hk, hk.1.2.2.1⟩ : _ ∧ k_ ≠ gb102))) (fun _ hk => hk.2) (.int .i64 t103)) (fun _ hk => hk.2) (.int .i64 t104)) (fun _ hk => hk.2) (.int .i64 t105)) (fun _ hk => hk.2) (.int .i64 t106)) (fun _ hk => hk.2) (.int .i64 t107)) (fun _ hk => hk.2) (.slice Ao16 t108.length co16)) (fun _ hk => hk.1.1.1), pE HB⟩
        ·rw [if_neg c20] at H
         exact absurd H (by simp)
       ·rw [if_neg c19] at H
        exact absurd H (by simp)
      ·rw [if_neg c18] at H
       exact absurd H (by simp)
     ·rw [if_neg c17] at H
      have c17b0 : decide (x30_1 < (l2.length : Int)) = false := decide_eq_false c17
      clear c17
      simp only [Option.some.injEq, Prod.mk.injEq] at H
      obtain ⟨rfl, rfl, rfl, rfl, rfl, rfl, rfl⟩ := H
      have hnb36 := NB112_101.out
      have hnc36 := NB101_112.out
      have hnb37 := NB112_102.out
      have hnc37 := NB102_112.out
      obtain ⟨_, _, _, _, _, _, _, _, _, _, _, _⟩ := cf6 BK112
      have hnb39 := NB102_101.out
      have hnc39 := NB101_102.out
      obtain ⟨_, _, _, _, _, _, _, _, _, _, _, _⟩ := cf6 BK102
      go_wp2
      refine bodyPost_ret (JL rfl _ _ gb102 120 #[.int .i64 t103, .int .i64 t104, .int .i64 t105, .int .i64 t106, .int .i64 t107, .slice Ao16 t108.length co16] (0, 0) _ rfl (by refine pB ?_; refine Qg (cs := #[.int .i64 t103, .int .i64 t104, .int .i64 t105, .int .i64 t106, .int .i64 t107, .slice none 0 0]) ?_ 5 _ rfl; refine pB ?_; refine Qg (cs := #[.int .i64 t103, .int .i64 t104, .int .i64 t105, .int .i64 t106, .int .i64 x103004_1, .slice none 0 0]) ?_ 4 _ rfl; refine pB ?_; refine Qg (cs := #[.int .i64 t103, .int .i64 t104, .int .i64 t105, .int .i64 x103003_1, .int .i64 x103004_1, .slice none 0 0]) ?_ 3 _ rfl; refine pB ?_; refine Qg (cs := #[.int .i64 t103, .int .i64 t104, .int .i64 x103002_1, .int .i64 x103003_1, .int .i64 x103004_1, .slice none 0 0]) ?_ 2 _ rfl; refine pB ?_; refine Qg (cs := #[.int .i64 t103, .int .i64 x103001_1, .int .i64 x103002_1, .int .i64 x103003_1, .int .i64 x103004_1, .slice none 0 0]) ?_ 1 _ rfl; refine pB ?_; refine Qg (cs := #[.int .i64 x103000_1, .int .i64 x103001_1, .int .i64 x103002_1, .int .i64 x103003_1, .int .i64 x103004_1, .slice none 0 0]) ?_ 0 _ rfl; (with_reducible repeat (first | refine Qt ?_ _ | refine Qh ?_ | refine blk_alloc ?_ _)); exact BK102.out) Tryz.underlying120 rfl (by kernel_rfl)) rfl ?_
      exact ⟨_, eT, by (with_reducible repeat (first | apply Kd.V_alloc | apply Kd.V_drewN | apply Kd.V_drew)); exact Kd.V_mono (Kd.V_far (p := ⟨gb102, 5, none⟩) (Kd.V_far (p := ⟨gb102, 4, none⟩) (Kd.V_far (p := ⟨gb102, 3, none⟩) (Kd.V_far (p := ⟨gb102, 2, none⟩) (Kd.V_far (p := ⟨gb102, 1, none⟩) (Kd.V_far (p := ⟨gb102, 0, none⟩) (Kd.V_mono HO_113005.out (fun k_ hk => (⟨hk, hk.2.2.1⟩ : _ ∧ k_ ≠ gb102))) (fun _ hk => hk.2) (.int .i64 t103)) (fun _ hk => hk.2) (.int .i64 t104)) (fun _ hk => hk.2) (.int .i64 t105)) (fun _ hk => hk.2) (.int .i64 t106)) (fun _ hk => hk.2) (.int .i64 t107)) (fun _ hk => hk.2) (.slice Ao16 t108.length co16)) (fun _ hk => hk.1.1), pE HB⟩
  ·rw [if_neg c6] at H
   have c6b0 : ((l2.length : Int) == (l0.length : Int)) = false := beq_eq_false_iff_ne.mpr c6
   have c6b1 : ((l2.length : Int) != (l0.length : Int)) = true := bne_iff_ne.mpr c6
   have c6b2 : (l2.length == l0.length) = false := by first | simpa using c6 | (simp at c6 ⊢; omega)
   simp only [Option.some.injEq, Prod.mk.injEq] at H
   obtain ⟨rfl, rfl, rfl, rfl, rfl, rfl, rfl⟩ := H
   go_enter Tryz.func72, Tryz.ntmps72
   go_wp2_with (first | ((with_reducible refine gd 4 ?_); refine bx 4 #[.int .i64 a1_0, .int .i64 a1_1, .int .i64 a1_2, .int .i64 a1_3, .int .i64 a1_4] 26 ?_; intro gb101 hg w41 hbox hb; replace HO0 := ve HO0 hg hb; have BK101 := hbox; have GW101 := gs HB hg; replace HB := bs HB hb; clear hb hg) | ((with_reducible refine gd 6 ?_); refine bx 6 #[.int .i64 0, .int .i64 0, .int .i64 0, .int .i64 0, .int .i64 0, .slice none 0 0] 120 ?_; intro gb102 hg w42 hbox hb; replace HO0 := ve HO0 hg hb; have BK102 := hbox; have GW102 := gs HB hg; replace HB := bs HB hb; have NB101_102 := nl BK101 hg; have NB102_101 := nr BK101 hg; replace BK101 := bb BK101 hb; clear hb hg; have hnb43 := NB101_102.out; have hnc43 := NB102_101.out; obtain ⟨_, _, _, _, _, _, _, _, _, _⟩ := cf5 BK101) | ((with_reducible refine gc 78 rfl ?_); refine gL 15 Tryz.func78 #[.slice A0 l0.length c0, .agg #[.int .i64 a1_0, .int .i64 a1_1, .int .i64 a1_2, .int .i64 a1_3, .int .i64 a1_4]] ?_; (with_reducible refine (Jd.calls (fun k_ => (((P0_ k_ ∨ w.heap.size ≤ k_) ∧ k_ ≠ gb101) ∧ k_ ≠ gb102)) _ _ l0 a1_0 a1_1 a1_2 a1_3 a1_4 t103 t104 t105 t106 t107 t108 t111 _ ?side1 A4.out).mono ?_); (case side1 => exact HO0.out); rintro e w45 ⟨v109, rfl, ho0, hb⟩; refine ⟨_, rfl, ?_⟩; replace HO0 := vb HO0 hb; have HO110 := Qa.mk (Kd.V_lower (Kd.V_mono (ok' := fun k_ => (P0_ k_ ∨ w.heap.size ≤ k_) ∧ k_ ≠ gb101 ∧ k_ ≠ gb102) ho0 (fun k_ hk_ => ⟨Or.elim hk_ (fun hs_ => hs_.1.1) (fun hn_ => (.inr (Nat.le_trans (Qr (pE HB)) hn_))), Or.elim hk_ (fun hs_ => hs_.1.2) (fun hn_ => (Kd.freshB (g := gb101) (o := .cells #[.int .i64 a1_0, .int .i64 a1_1, .int .i64 a1_2, .int .i64 a1_3, .int .i64 a1_4] 26 (0, 0)) (pB BK101.out) k_ hn_)), Or.elim hk_ (fun hs_ => hs_.2) (fun hn_ => (Kd.freshB (g := gb102) (o := .cells #[.int .i64 0, .int .i64 0, .int .i64 0, .int .i64 0, .int .i64 0, .slice none 0 0] 120 (0, 0)) (pB BK102.out) k_ hn_))⟩)) (Qr (pE HB))); replace BK101 := bb BK101 hb; replace BK102 := bb BK102 hb; replace HB := bs HB hb; clear hb ho0) | ((with_reducible refine gd 8 ?_); refine bx 8 #[.int .i64 0, .int .i64 0, .int .i64 0, .int .i64 0, .int .i64 0, .slice none 0 0] 120 ?_; intro gb112 hg w46 hbox hb; replace HO0 := ve HO0 hg hb; replace HO110 := ve HO110 hg hb; have BK112 := hbox; have GW112 := gs HB hg; replace HB := bs HB hb; have NB101_112 := nl BK101 hg; have NB112_101 := nr BK101 hg; replace BK101 := bb BK101 hb; have NB102_112 := nl BK102 hg; have NB112_102 := nr BK102 hg; replace BK102 := bb BK102 hb; clear hb hg; have hnb47 := NB112_101.out; have hnc47 := NB101_112.out; have hnb48 := NB112_102.out; have hnc48 := NB102_112.out; obtain ⟨_, _, _, _, _, _, _, _, _, _, _, _⟩ := cf6 BK112; obtain ⟨Ao50, co50, eo50⟩ := Kd.V_slice HO110.out; subst eo50; obtain ⟨_, _, _, _, _, _, _, _, _, _, _, _⟩ := cf6 BK102))
   refine bodyPost_ret (JL rfl _ _ gb102 120 #[.int .i64 t103, .int .i64 t104, .int .i64 t105, .int .i64 t106, .int .i64 t107, .slice Ao50 t108.length co50] (0, 0) _ rfl (by refine pB ?_; refine Qg (cs := #[.int .i64 t103, .int .i64 t104, .int .i64 t105, .int .i64 t106, .int .i64 t107, .slice none 0 0]) ?_ 5 _ rfl; refine pB ?_; refine Qg (cs := #[.int .i64 t103, .int .i64 t104, .int .i64 t105, .int .i64 t106, .int .i64 0, .slice none 0 0]) ?_ 4 _ rfl; refine pB ?_; refine Qg (cs := #[.int .i64 t103, .int .i64 t104, .int .i64 t105, .int .i64 0, .int .i64 0, .slice none 0 0]) ?_ 3 _ rfl; refine pB ?_; refine Qg (cs := #[.int .i64 t103, .int .i64 t104, .int .i64 0, .int .i64 0, .int .i64 0, .slice none 0 0]) ?_ 2 _ rfl; refine pB ?_; refine Qg (cs := #[.int .i64 t103, .int .i64 0, .int .i64 0, .int .i64 0, .int .i64 0, .slice none 0 0]) ?_ 1 _ rfl; refine pB ?_; refine Qg (cs := #[.int .i64 0, .int .i64 0, .int .i64 0, .int .i64 0, .int .i64 0, .slice none 0 0]) ?_ 0 _ rfl; refine pB ?_; refine Qx ?_ NB102_112.out _; refine pB ?_; refine Qx ?_ NB102_112.out _; refine pB ?_; refine Qx ?_ NB102_112.out _; refine pB ?_; refine Qx ?_ NB102_112.out _; refine pB ?_; refine Qx ?_ NB102_112.out _; refine pB ?_; refine Qx ?_ NB102_112.out _; (with_reducible repeat (first | refine Qt ?_ _ | refine Qh ?_ | refine blk_alloc ?_ _)); exact BK102.out) Tryz.underlying120 rfl (by kernel_rfl)) rfl ?_
   exact ⟨_, eT, by (with_reducible repeat (first | apply Kd.V_alloc | apply Kd.V_drewN | apply Kd.V_drew)); exact Kd.V_mono (Kd.V_far (p := ⟨gb102, 5, none⟩) (Kd.V_far (p := ⟨gb102, 4, none⟩) (Kd.V_far (p := ⟨gb102, 3, none⟩) (Kd.V_far (p := ⟨gb102, 2, none⟩) (Kd.V_far (p := ⟨gb102, 1, none⟩) (Kd.V_far (p := ⟨gb102, 0, none⟩) (Kd.V_far (p := ⟨gb112, 5, none⟩) (Kd.V_far (p := ⟨gb112, 4, none⟩) (Kd.V_far (p := ⟨gb112, 3, none⟩) (Kd.V_far (p := ⟨gb112, 2, none⟩) (Kd.V_far (p := ⟨gb112, 1, none⟩) (Kd.V_far (p := ⟨gb112, 0, none⟩) (Kd.V_mono (Kd.V_mono HO110.out (fun k_ hk => (⟨hk, hk.2⟩ : _ ∧ k_ ≠ gb112))) (fun k_ hk => (⟨hk, hk.1.1.2.2⟩ : _ ∧ k_ ≠ gb102))) (fun _ hk => hk.1.2) (.int .i64 t103)) (fun _ hk => hk.1.2) (.int .i64 t104)) (fun _ hk => hk.1.2) (.int .i64 t105)) (fun _ hk => hk.1.2) (.int .i64 t106)) (fun _ hk => hk.1.2) (.int .i64 t107)) (fun _ hk => hk.1.2) (.slice Ao50 t108.length co50)) (fun _ hk => hk.2) (.int .i64 t103)) (fun _ hk => hk.2) (.int .i64 t104)) (fun _ hk => hk.2) (.int .i64 t105)) (fun _ hk => hk.2) (.int .i64 t106)) (fun _ hk => hk.2) (.int .i64 t107)) (fun _ hk => hk.2) (.slice Ao50 t108.length co50)) (fun _ hk => hk.1.1.1.1), pE HB⟩
 ·rw [if_neg c5] at H
  have c5b0 : (t111 == 0) = false := beq_eq_false_iff_ne.mpr c5
  have c5b1 : (t111 != 0) = true := bne_iff_ne.mpr c5
  simp only [Option.some.injEq, Prod.mk.injEq] at H
  obtain ⟨rfl, rfl, rfl, rfl, rfl, rfl, rfl⟩ := H
  go_enter Tryz.func72, Tryz.ntmps72
  go_wp2_with (first | ((with_reducible refine gd 4 ?_); refine bx 4 #[.int .i64 a1_0, .int .i64 a1_1, .int .i64 a1_2, .int .i64 a1_3, .int .i64 a1_4] 26 ?_; intro gb101 hg w52 hbox hb; replace HO0 := ve HO0 hg hb; have BK101 := hbox; have GW101 := gs HB hg; replace HB := bs HB hb; clear hb hg) | ((with_reducible refine gd 6 ?_); refine bx 6 #[.int .i64 0, .int .i64 0, .int .i64 0, .int .i64 0, .int .i64 0, .slice none 0 0] 120 ?_; intro gb102 hg w53 hbox hb; replace HO0 := ve HO0 hg hb; have BK102 := hbox; have GW102 := gs HB hg; replace HB := bs HB hb; have NB101_102 := nl BK101 hg; have NB102_101 := nr BK101 hg; replace BK101 := bb BK101 hb; clear hb hg; have hnb54 := NB101_102.out; have hnc54 := NB102_101.out; obtain ⟨_, _, _, _, _, _, _, _, _, _⟩ := cf5 BK101) | ((with_reducible refine gc 78 rfl ?_); refine gL 15 Tryz.func78 #[.slice A0 l0.length c0, .agg #[.int .i64 a1_0, .int .i64 a1_1, .int .i64 a1_2, .int .i64 a1_3, .int .i64 a1_4]] ?_; (with_reducible refine (Jd.calls (fun k_ => (((P0_ k_ ∨ w.heap.size ≤ k_) ∧ k_ ≠ gb101) ∧ k_ ≠ gb102)) _ _ l0 a1_0 a1_1 a1_2 a1_3 a1_4 t103 t104 t105 t106 t107 t108 t111 _ ?side1 A4.out).mono ?_); (case side1 => exact HO0.out); rintro e w56 ⟨v109, rfl, ho0, hb⟩; refine ⟨_, rfl, ?_⟩; replace HO0 := vb HO0 hb; have HO110 := Qa.mk (Kd.V_lower (Kd.V_mono (ok' := fun k_ => (P0_ k_ ∨ w.heap.size ≤ k_) ∧ k_ ≠ gb101 ∧ k_ ≠ gb102) ho0 (fun k_ hk_ => ⟨Or.elim hk_ (fun hs_ => hs_.1.1) (fun hn_ => (.inr (Nat.le_trans (Qr (pE HB)) hn_))), Or.elim hk_ (fun hs_ => hs_.1.2) (fun hn_ => (Kd.freshB (g := gb101) (o := .cells #[.int .i64 a1_0, .int .i64 a1_1, .int .i64 a1_2, .int .i64 a1_3, .int .i64 a1_4] 26 (0, 0)) (pB BK101.out) k_ hn_)), Or.elim hk_ (fun hs_ => hs_.2) (fun hn_ => (Kd.freshB (g := gb102) (o := .cells #[.int .i64 0, .int .i64 0, .int .i64 0, .int .i64 0, .int .i64 0, .slice none 0 0] 120 (0, 0)) (pB BK102.out) k_ hn_))⟩)) (Qr (pE HB))); replace BK101 := bb BK101 hb; replace BK102 := bb BK102 hb; replace HB := bs HB hb; clear hb ho0) | ((with_reducible refine gd 8 ?_); refine bx 8 #[.int .i64 0, .int .i64 0, .int .i64 0, .int .i64 0, .int .i64 0, .slice none 0 0] 120 ?_; intro gb112 hg w57 hbox hb; replace HO0 := ve HO0 hg hb; replace HO110 := ve HO110 hg hb; have BK112 := hbox; have GW112 := gs HB hg; replace HB := bs HB hb; have NB101_112 := nl BK101 hg; have NB112_101 := nr BK101 hg; replace BK101 := bb BK101 hb; have NB102_112 := nl BK102 hg; have NB112_102 := nr BK102 hg; replace BK102 := bb BK102 hb; clear hb hg; have hnb58 := NB112_101.out; have hnc58 := NB101_112.out; have hnb59 := NB112_102.out; have hnc59 := NB102_112.out; obtain ⟨_, _, _, _, _, _, _, _, _, _, _, _⟩ := cf6 BK112; obtain ⟨Ao61, co61, eo61⟩ := Kd.V_slice HO110.out; subst eo61; obtain ⟨_, _, _, _, _, _, _, _, _, _, _, _⟩ := cf6 BK102))
  refine bodyPost_ret (JL rfl _ _ gb102 120 #[.int .i64 t103, .int .i64 t104, .int .i64 t105, .int .i64 t106, .int .i64 t107, .slice Ao61 t108.length co61] (0, 0) _ rfl (by refine pB ?_; refine Qg (cs := #[.int .i64 t103, .int .i64 t104, .int .i64 t105, .int .i64 t106, .int .i64 t107, .slice none 0 0]) ?_ 5 _ rfl; refine pB ?_; refine Qg (cs := #[.int .i64 t103, .int .i64 t104, .int .i64 t105, .int .i64 t106, .int .i64 0, .slice none 0 0]) ?_ 4 _ rfl; refine pB ?_; refine Qg (cs := #[.int .i64 t103, .int .i64 t104, .int .i64 t105, .int .i64 0, .int .i64 0, .slice none 0 0]) ?_ 3 _ rfl; refine pB ?_; refine Qg (cs := #[.int .i64 t103, .int .i64 t104, .int .i64 0, .int .i64 0, .int .i64 0, .slice none 0 0]) ?_ 2 _ rfl; refine pB ?_; refine Qg (cs := #[.int .i64 t103, .int .i64 0, .int .i64 0, .int .i64 0, .int .i64 0, .slice none 0 0]) ?_ 1 _ rfl; refine pB ?_; refine Qg (cs := #[.int .i64 0, .int .i64 0, .int .i64 0, .int .i64 0, .int .i64 0, .slice none 0 0]) ?_ 0 _ rfl; refine pB ?_; refine Qx ?_ NB102_112.out _; refine pB ?_; refine Qx ?_ NB102_112.out _; refine pB ?_; refine Qx ?_ NB102_112.out _; refine pB ?_; refine Qx ?_ NB102_112.out _; refine pB ?_; refine Qx ?_ NB102_112.out _; refine pB ?_; refine Qx ?_ NB102_112.out _; (with_reducible repeat (first | refine Qt ?_ _ | refine Qh ?_ | refine blk_alloc ?_ _)); exact BK102.out) Tryz.underlying120 rfl (by kernel_rfl)) rfl ?_
  exact ⟨_, eT, by (with_reducible repeat (first | apply Kd.V_alloc | apply Kd.V_drewN | apply Kd.V_drew)); exact Kd.V_mono (Kd.V_far (p := ⟨gb102, 5, none⟩) (Kd.V_far (p := ⟨gb102, 4, none⟩) (Kd.V_far (p := ⟨gb102, 3, none⟩) (Kd.V_far (p := ⟨gb102, 2, none⟩) (Kd.V_far (p := ⟨gb102, 1, none⟩) (Kd.V_far (p := ⟨gb102, 0, none⟩) (Kd.V_far (p := ⟨gb112, 5, none⟩) (Kd.V_far (p := ⟨gb112, 4, none⟩) (Kd.V_far (p := ⟨gb112, 3, none⟩) (Kd.V_far (p := ⟨gb112, 2, none⟩) (Kd.V_far (p := ⟨gb112, 1, none⟩) (Kd.V_far (p := ⟨gb112, 0, none⟩) (Kd.V_mono (Kd.V_mono HO110.out (fun k_ hk => (⟨hk, hk.2⟩ : _ ∧ k_ ≠ gb112))) (fun k_ hk => (⟨hk, hk.1.1.2.2⟩ : _ ∧ k_ ≠ gb102))) (fun _ hk => hk.1.2) (.int .i64 t103)) (fun _ hk => hk.1.2) (.int .i64 t104)) (fun _ hk => hk.1.2) (.int .i64 t105)) (fun _ hk => hk.1.2) (.int .i64 t106)) (fun _ hk => hk.1.2) (.int .i64 t107)) (fun _ hk => hk.1.2) (.slice Ao61 t108.length co61)) (fun _ hk => hk.2) (.int .i64 t103)) (fun _ hk => hk.2) (.int .i64 t104)) (fun _ hk => hk.2) (.int .i64 t105)) (fun _ hk => hk.2) (.int .i64 t106)) (fun _ hk => hk.2) (.int .i64 t107)) (fun _ hk => hk.2) (.slice Ao61 t108.length co61)) (fun _ hk => hk.1.1.1.1), pE HB⟩
def ZF.f (a0_0 a0_1 a0_2 a0_3 a0_4 : Int) : Option Int := some a0_0
set_option maxHeartbeats 8000000 in
set_option maxRecDepth 100000 in
theorem ZF.calls (a0_0 a0_1 a0_2 a0_3 a0_4 r : Int) (w : World) (h : ZF.f a0_0 a0_1 a0_2 a0_3 a0_4 = some r) :
  Calls Tryz.prog 106 #[.agg #[.int .i64 a0_0, .int .i64 a0_1, .int .i64 a0_2, .int .i64 a0_3, .int .i64 a0_4]] w fun e w' => e = .returned (.int .i64 r) ∧ Below w.heap.size w w' := by
 have hu100 := Tryz.underlying100
 have HB := Qa.mk (Below.refl w.heap.size w)
 have H : (some a0_0) = some r := h
 clear h
 obtain rfl := Option.some.inj H
 go_enter Tryz.func106, Tryz.ntmps106
 go_wp2_with (first | ((with_reducible refine gd 1 ?_); refine bx 1 #[.int .i64 a0_0, .int .i64 a0_1, .int .i64 a0_2, .int .i64 a0_3, .int .i64 a0_4] 100 ?_; intro gb101 hg w2 BK101 hb; have GW101 := gs HB hg; replace HB := bs HB hb; clear hb hg; obtain ⟨_, _, _, _, _, _, _, _, _, _⟩ := cf5 BK101))
 go_ret
 exact ⟨eT, pE HB⟩
def Qp.l0 : Nat → Int → List Int → Int → Int → Int → Int → Int → Int → Int → List S100 → Option Int
 | 0, _, _, _, _, _, _, _, _, _, _ => none
 | k + 1, x6, x9, x10, x11, x102000, x102001, x102002, x102003, x102004, x102005 => if x11 < x10 then (if 0 ≤ x11 then (if x11 < (x9.length : Int) then (if x11 < (x102005.length : Int) then ((ZF.f ((Qf x102005 x11).f0.f0) ((Qf x102005 x11).f0.f1) ((Qf x102005 x11).f1) ((Qf x102005 x11).f2) ((Qf x102005 x11).f3)).bind fun t104 => (Qp.l0 k (wrap64 (x6 + (wrap64 ((rd x9 x11) * t104)))) x9 x10 (wrap64 (x11 + 1)) x102000 x102001 x102002 x102003 x102004 x102005)) else (none)) else (none)) else (none)) else (some x6)
def Qp.f (k : Nat) (a0_0 a0_1 a0_2 a0_3 a0_4 : Int) (l0_5 : List S100) (l1 : List Int)  : Option Int := Qp.l0 k 0 l1 (l1.length : Int) 0 a0_0 a0_1 a0_2 a0_3 a0_4 l0_5
theorem Qp.mono_l : ∀ k, (∀ y0 y1 y2 y3 y4 y5 y6 y7 y8 y9, LeO (Qp.l0 k y0 y1 y2 y3 y4 y5 y6 y7 y8 y9) (Qp.l0 (k + 1) y0 y1 y2 y3 y4 y5 y6 y7 y8 y9))
 | 0 => fun _ _ _ _ _ _ _ _ _ _ r h => by simp [Qp.l0] at h
 | k + 1 => by
  have ih0 := Qp.mono_l k
  ·intro y0 y1 y2 y3 y4 y5 y6 y7 y8 y9
   unfold Qp.l0
   repeat' first
   | (with_reducible exact ih0 _ _ _ _ _ _ _ _ _ _)
   | (with_reducible exact LeO.refl _)
   | (with_reducible exact LeO.none _)
   | (with_reducible refine LeO.ite ?_ ?_)
   | (with_reducible refine LeO.bind ?_ (fun _ => ?_))
theorem Qp.mono : ∀ a0 a1 a2 a3 a4 a5 a6 k, LeO (Qp.f k a0 a1 a2 a3 a4 a5 a6) (Qp.f (k + 1) a0 a1 a2 a3 a4 a5 a6) := by
 intro a0 a1 a2 a3 a4 a5 a6 k
 have ih0 := Qp.mono_l k
 unfold Qp.f
 repeat' first
   | (with_reducible exact ih0 _ _ _ _ _ _ _ _ _ _)
   | (with_reducible exact LeO.refl _)
   | (with_reducible exact LeO.none _)
   | (with_reducible refine LeO.ite ?_ ?_)
   | (with_reducible refine LeO.bind ?_ (fun _ => ?_))
set_option maxHeartbeats 8000000 in
set_option maxRecDepth 100000 in
theorem Qp.calls (k : Nat) (a0_0 a0_1 a0_2 a0_3 a0_4 : Int) (A0_5 : Option Addr) (c0_5 : Nat) (l0_5 : List S100) (A1 : Option Addr) (c1 : Nat) (l1 : List Int)  (r : Int) (w : World) (hr0_5 : Kd.C k100 w A0_5 l0_5.length l0_5) (hc0_5 : l0_5.length ≤ c0_5) (hr1 : Kd.C (Kd.int .i64) w A1 l1.length l1) (hc1 : l1.length ≤ c1) (h : Qp.f k a0_0 a0_1 a0_2 a0_3 a0_4 l0_5 l1 = some r) :
  Calls Tryz.prog 74 #[.agg #[.int .i64 a0_0, .int .i64 a0_1, .int .i64 a0_2, .int .i64 a0_3, .int .i64 a0_4, .slice A0_5 l0_5.length c0_5], .slice A1 l1.length c1, .func (.func 106) #[] #[]] w fun e w' => e = .returned (.int .i64 r) ∧ Below w.heap.size w w' := by
 have hu120 := Tryz.underlying120
 have hu100 := Tryz.underlying100
 have HR0_5 := Qa.mk hr0_5
 have HC0_5 := Qa.mk hc0_5
 clear hr0_5 hc0_5
 have HR1 := Qa.mk hr1
 have HC1 := Qa.mk hc1
 clear hr1 hc1
 have HB := Qa.mk (Below.refl w.heap.size w)
 have H : (Qp.l0 k 0 l1 (l1.length : Int) 0 a0_0 a0_1 a0_2 a0_3 a0_4 l0_5) = some r := h
 clear h
 have H' := Qa.mk H
 clear H
 go_enter Tryz.func74, Tryz.ntmps74
 go_wp2_with (first | ((with_reducible refine gd 3 ?_); refine bx 3 #[.int .i64 a0_0, .int .i64 a0_1, .int .i64 a0_2, .int .i64 a0_3, .int .i64 a0_4, .slice A0_5 l0_5.length c0_5] 120 ?_; intro gb101 hg w4 BK101 hb; have GW101 := gs HB hg; replace HB := bs HB hb; clear hb hg))
 (try simp only [Act.put, List.setIfInBounds_toArray, List.set_cons_zero, List.set_cons_succ])
 go_loopg [6, 11] k (fun kq v6 v11 w' => ∃ (x6_1 : Int) (x11_1 : Int), v6 = .int .i64 x6_1 ∧ v11 = .int .i64 x11_1 ∧ Qa (Qp.l0 kq x6_1 l1 (l1.length : Int) x11_1 a0_0 a0_1 a0_2 a0_3 a0_4 l0_5 = some r) ∧ Qa (kq ≤ k) ∧ Qa (w'.heap[gb101]? = some (.cells #[.int .i64 a0_0, .int .i64 a0_1, .int .i64 a0_2, .int .i64 a0_3, .int .i64 a0_4, (.slice A0_5 l0_5.length c0_5)] 120 (0, 0))) ∧ Qa (Below w.heap.size w w'))
 case atStart => exact ⟨(0), (0), eS, eS, H', ⟨Nat.le_refl _⟩, ⟨pB BK101.out⟩, ⟨pE HB⟩⟩
 case round =>
  clear H'
  try clear c1
  try clear p2
  obtain ⟨x6_1, x11_1, rfl, rfl, HA, HK1, BK101, HB⟩ := hrel
  cases gk with
  | zero => exact absurd HA.out (by simp [Qp.l0])
  | succ k1 =>
   have H := HA.out
   clear HA
   simp only [Qp.l0] at H
   by_cases c5 : x11_1 < (l1.length : Int)
   ·rw [if_pos c5] at H
    have c5b0 : decide (x11_1 < (l1.length : Int)) = true := decide_eq_true c5
    clear c5
    by_cases c6 : 0 ≤ x11_1
    ·rw [if_pos c6] at H
     have c6b0 : decide (0 ≤ x11_1) = true := decide_eq_true c6
     clear c6
     by_cases c7 : x11_1 < (l1.length : Int)
     ·rw [if_pos c7] at H
      have c7b0 : decide (x11_1 < (l1.length : Int)) = true := decide_eq_true c7
      clear c7
      by_cases c8 : x11_1 < (l0_5.length : Int)
      ·rw [if_pos c8] at H
       have c8b0 : decide (x11_1 < (l0_5.length : Int)) = true := decide_eq_true c8
       clear c8
       obtain ⟨t104, A9, H⟩ := bi H
       have H' := Qa.mk H
       clear H
       have p102 : 0 ≤ (x11_1 : Int) := dT
       have q102 : x11_1 < (l1.length : Int) := dT
       obtain ⟨ad102, e102, hx102_0⟩ := Kd.at_int HR1.out x11_1 p102 q102
       cases e102
       replace hx102_0 := cut_ HB hx102_0
       replace p102 := eq_true p102
       replace q102 := eq_true q102
       obtain ⟨_, _, _, _, _, _, _, _, _, _, _, _⟩ := cf6 BK101
       have p103 : 0 ≤ (x11_1 : Int) := dT
       have q103 : x11_1 < (l0_5.length : Int) := dT
       obtain ⟨ad103, e103, hx103_0, hx103_1, hx103_2, hx103_3, hx103_4⟩ := Zf HR0_5.out x11_1 p103 q103
       cases e103
       replace hx103_0 := cut_ HB hx103_0
       replace hx103_1 := cut_ HB hx103_1
       replace hx103_2 := cut_ HB hx103_2
       replace hx103_3 := cut_ HB hx103_3
       replace hx103_4 := cut_ HB hx103_4
       replace p103 := eq_true p103
       replace q103 := eq_true q103
       go_wp2_with (first | (go_at_call 106; (with_reducible refine (ZF.calls ((Qf l0_5 x11_1).f0.f0) ((Qf l0_5 x11_1).f0.f1) ((Qf l0_5 x11_1).f1) ((Qf l0_5 x11_1).f2) ((Qf l0_5 x11_1).f3) t104 _ A9.out).mono ?_); rintro e w11 ⟨rfl, hb⟩; replace BK101 := bb BK101 hb; replace HB := bs HB hb; (try clear hb); (try clear hb2); (try clear hk); (try clear hi)))
       go_roundg k1
       case measure => have := HK1.out; omega
       case rel => exact ⟨(wrap64 (x6_1 + (wrap64 ((rd l1 x11_1) * t104)))), (wrap64 (x11_1 + 1)), eS, eS, H', ⟨by have := HK1.out; omega⟩, ⟨pB BK101.out⟩, ⟨pE HB⟩⟩
      ·rw [if_neg c8] at H
       exact absurd H (by simp)
     ·rw [if_neg c7] at H
      exact absurd H (by simp)
    ·rw [if_neg c6] at H
     exact absurd H (by simp)
   ·rw [if_neg c5] at H
    have c5b0 : decide (x11_1 < (l1.length : Int)) = false := decide_eq_false c5
    clear c5
    obtain rfl := Option.some.inj H
    go_wp2
    go_ret
    exact ⟨eT, pE HB⟩
end Go.Proofs.YtjaapkkpmegkfaaGreat.P
