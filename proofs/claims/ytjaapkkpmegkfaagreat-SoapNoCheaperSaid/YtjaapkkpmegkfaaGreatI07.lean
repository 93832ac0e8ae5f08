/- Part 7 of what the law's proof needs beyond its base: words, walks of functions and plain facts. -/
import Derived.Test.YtjaapkkpmegkfaaGreatI06
set_option linter.unusedVariables false
set_option linter.unusedSimpArgs false
namespace Go.Proofs.YtjaapkkpmegkfaaGreat.P
open Go.RowKit Go.Shelf Go.Proofs.YtjaapkkpmegkfaaGreatW.PrintWords Go.Proofs.YtjaapkkpmegkfaaGreatW.PrintLast Go.Proofs.YtjaapkkpmegkfaaGreatW.PrintMore
theorem Qcj (f : S100 → Int) : ∀ (l : List S100) (m : List Int) (n : Nat) (s : S100) (h : n < l.length) (hm : n < m.length), tot f (l.set n s) m = tot f l m + m[n] * (f s - f l[n])
 | [], m, n, s, h, hm => by simp at h
 | x :: l, [], n, s, h, hm => by simp at hm
 | x :: l, y :: m, 0, s, h, hm => by
  unfold tot; simp only [List.set_cons_zero, List.getElem_cons_zero, List.zip_cons_cons, List.map_cons, List.sum_cons, Int.mul_sub]; omega
 | x :: l, y :: m, n + 1, s, h, hm => by
  have ih := Qcj f l m n s (by simpa using h) (by simpa using hm); unfold tot at ih ⊢; simp only [List.set_cons_succ, List.getElem_cons_succ, List.zip_cons_cons, List.map_cons, List.sum_cons]; rw [ih]; omega
theorem Qbt {l : List S100} {n i : Nat} {s : S100} (h : n < l.length) : Qf (l.set n s) (i : Int) = if n = i then s else Qf l (i : Int) := by
 unfold Qf; rw [Int.toNat_natCast, List.getD_eq_getElem?_getD, List.getD_eq_getElem?_getD, List.getElem?_set]; by_cases e : n = i
 ·subst e; simp [h]
 ·simp [e]
theorem wo_good {l : List S100} {m : List Int} {n : Nat} {p : Int} (h1 : n < l.length) (hf : fit (pr l n p) m = true) (hz : m.getD n 0 = 0) :
  fit (wo l n) m = true ∧ (∀ b d, lo (wo l n) b d m = lo (pr l n p) b d m) ∧ tot Qay (wo l n) m = tot Qay (pr l n p) m ∧ tot Qax (wo l n) m = tot Qax (pr l n p) m := by
 obtain ⟨g1, g2⟩ := Qa7.1 hf; have hlp : (pr l n p).length = l.length := by unfold pr; simp
 have hlw : (wo l n).length = l.length := by unfold wo; simp
 have hm : n < m.length := by omega
 have hz' : m[n] = 0 := by rw [List.getD_eq_getElem?_getD, List.getElem?_eq_getElem hm] at hz; exact hz
 have ht : ∀ (f : S100 → Int) (s : S100), tot f (l.set n s) m = tot f l m := fun f s => by rw [Qcj f l m n s h1 hm, hz']; omega
 have e1 : ∀ f : S100 → Int, tot f (wo l n) m = tot f l m := fun f => by unfold wo; rw [Int.toNat_natCast]; exact ht f _
 have e2 : ∀ f : S100 → Int, tot f (pr l n p) m = tot f l m := fun f => by unfold pr; rw [Int.toNat_natCast]; exact ht f _
 refine ⟨Qa7.2 ⟨by omega, fun i hi => ?_⟩, fun b d => by unfold lo; rw [e1, e2], by rw [e1, e2], by rw [e1, e2]⟩; have h := g2 i hi; unfold pr at h; unfold wo; rw [Int.toNat_natCast, Qbt h1] at h ⊢; by_cases e : n = i
 ·subst e
  rw [if_pos rfl, hz']; exact ⟨Int.le_refl _, Int.le_refl _⟩
 ·rw [if_neg e] at h ⊢
  exact h
theorem Qc2 {l : List S100} {b d e p : Int} {n : Nat} (h1 : n < l.length) (hw : Qbc l b d e n p = true) : fit (pr l n p) (best (pr l n p) b d e).1 = true ∧ (best (pr l n p) b d e).1.getD n 0 ≠ 0 := by
 unfold Qbc at hw; rw [Bool.and_eq_true] at hw; obtain ⟨w1, w2⟩ := hw; have hlp : (pr l n p).length = l.length := by unfold pr; simp
 have hlw : (wo l n).length = l.length := by unfold wo; simp
 have hf := Qci (l := pr l n p) (by omega) w1; refine ⟨hf, fun hz => ?_⟩; obtain ⟨k1, k2, k3, k4⟩ := wo_good h1 hf hz; have hg := Qcb w1; have hmin := Qcm (l := wo l n) (b := b) (d := d) (e := e) (by omega) k1 ⟨by rw [k2]; exact hg.1, by rw [k3]; exact hg.2⟩; rw [k4] at hmin; rw [hmin.1] at w2; simp only [Bool.not_true, Bool.false_or, decide_eq_true_iff] at w2; omega
theorem Qc3 (l s : List S100) (m : List Int) (n : Nat) (g x28 x31 x32 x33 x37 a b c d e : Int) (X : Bool) (h37 : x37 = 0 ∨ x37 = 9) (hx : 0 ≤ x33 ∧ x33 ≤ 1) (h4 : s.length ≤ 100)
  (hw : X = (decide (x28 = 0) && decide (x33 = 0))) (hf : X = true → fit s m = true ∧ m.getD n 0 ≠ 0 ∧ n < m.length) {k : Nat} (hk : 2000 < k) :
  Qao.j9 (k + 1 + 1) l n g x28 x31 x32 x33 s m x37 X a b c d e = Qao.l1 k l n g x28 x31 x32 (x33 + 1) a b c d e := by
 have hj : Qao.j10 (k + 1) l n g x28 x31 x32 x33 false a b c d e = Qao.l1 k l n g x28 x31 x32 (x33 + 1) a b c d e := by
  simp only [Qao.j10]; rw [if_neg (by simp), w64 (by omega)]
 cases X with
 | false =>
  simp only [Qao.j9]; by_cases h28 : x28 = 0
  ·have h33 : x33 ≠ 0 := fun h => by rw [h28, h] at hw; simp at hw
   have e1 : ¬ ((false != (x33 == 0)) = true) := by simp [h33]
   rcases h37 with h | h
   ·rw [if_pos h, if_pos h28, if_neg e1, if_neg (by simp), hj]
   ·rw [if_neg (by omega), if_pos h, if_pos h28, if_neg e1, if_neg (by simp), hj]
  ·rcases h37 with h | h
   ·rw [if_pos h, if_neg h28, if_neg (by simp), if_neg (by simp), hj]
   ·rw [if_neg (by omega), if_pos h, if_neg h28, if_neg (by simp), if_neg (by simp), hj]
 | true =>
  have hh : x28 = 0 ∧ x33 = 0 := by
   have := hw.symm; rw [Bool.and_eq_true, decide_eq_true_iff, decide_eq_true_iff] at this; exact this
  obtain ⟨rfl, rfl⟩ := hh; obtain ⟨f1, f2, f3⟩ := hf rfl
  have f2' : (rd m (n : Int) == 0) = false := by
   have : rd m (n : Int) ≠ 0 := f2
   simpa using this
  simp only [Qao.j9]
  rcases h37 with h | h
  ·rw [if_pos h, if_pos trivial, if_neg (by simp), if_pos trivial, Qbp h4 f1 (by omega)]
   simp only [Option.bind_some]; rw [if_pos trivial, if_pos (by omega), if_pos (by omega), f2', hj]
  ·rw [if_neg (by omega), if_pos h, if_pos trivial, if_neg (by simp), if_pos trivial, Qbp h4 f1 (by omega)]
   simp only [Option.bind_some]; rw [if_pos trivial, if_pos (by omega), if_pos (by omega), f2', hj]
theorem Qcd {l : List S100} {a b c d e : Int} {n : Nat} (hl : chk l = 0) (hc : okC a b c d e = true) (h1 : n < l.length) {p : Int} (hp : 0 ≤ p ∧ p ≤ 500) (g x28 x33 : Int) (hx : 0 ≤ x33 ∧ x33 ≤ 1)
  (hw : Qbc l b d e n p = (decide (x28 = 0) && decide (x33 = 0))) {k : Nat} (hk : 3000 < k) :
  Qao.j8 (k + 1 + 1 + 1) l n g x28 (if (best (wo l n) b d e).2 = true then tot Qax (wo l n) (best (wo l n) b d e).1 else 0) (if (best (wo l n) b d e).2 = true then 0 else 9) x33 (pr l n p) a b c d e =
   Qao.l1 k l n g x28 (if (best (wo l n) b d e).2 = true then tot Qax (wo l n) (best (wo l n) b d e).1 else 0) (if (best (wo l n) b d e).2 = true then 0 else 9) (x33 + 1) a b c d e := by
 have h4 := (chk0 hl).2.1; have hlp := Qde hl (n := (n : Int)) (by omega) (by omega) hp; have hlen : (pr l n p).length = l.length := by unfold pr; simp
 have hf1 : (Qf (pr l n p) (n : Int)).f1 = p := by unfold pr; rw [Int.toNat_natCast, Qbt h1, if_pos rfl]
 have hopn : opn (pr l n p) a b c d e = 0 := by unfold opn; rw [if_pos hlp, if_pos hc]
 have hsome : Qbc l b d e n p = true → fit (pr l n p) (best (pr l n p) b d e).1 = true ∧ (best (pr l n p) b d e).1.getD n 0 ≠ 0 ∧ n < (best (pr l n p) b d e).1.length := fun hw => by
  obtain ⟨s1, s2⟩ := Qc2 (l := l) (b := b) (d := d) (e := e) (p := p) h1 hw; have := (Qa7.1 s1).1; exact ⟨s1, s2, by omega⟩
 simp only [Qao.j8]; rw [if_pos (by omega), if_pos (by omega), hf1, if_neg (by omega), Qbj _ (by omega)]; simp only [Option.bind_some]; rw [Qbn _ _ _ _ _ _ (by omega), if_pos hopn]; have ew : Qbc l b d e n p = ((best (pr l n p) b d e).2 && (!(best (wo l n) b d e).2 || decide (tot Qax (pr l n p) (best (pr l n p) b d e).1 < tot Qax (wo l n) (best (wo l n) b d e).1))) := rfl; rw [ew] at hw hsome; clear ew; generalize hbp : best (pr l n p) b d e = bp at *; generalize hbw : best (wo l n) b d e = bw at *; obtain ⟨m, y⟩ := bp; obtain ⟨mw, yw⟩ := bw; simp only at hw hsome ⊢
 cases y with
 | true =>
  cases yw with
  | true =>
   simp only [if_true, Option.bind_some, Bool.true_and, Bool.not_true, Bool.false_or] at hw hsome ⊢; exact Qc3 l _ m n g x28 _ 0 x33 0 a b c d e _ (.inl rfl) hx (by omega) hw hsome (by omega)
  | false =>
   simp only [if_true, Option.bind_some, Bool.true_and, Bool.not_false, Bool.true_or, Bool.false_eq_true, if_false] at hw hsome ⊢; rw [if_neg (by decide)]; exact Qc3 l _ m n g x28 _ 9 x33 0 a b c d e _ (.inl rfl) hx (by omega) hw (fun _ => hsome trivial) (by omega)
 | false =>
  simp only [Bool.false_eq_true, if_false, Option.bind_some, Bool.false_and] at hw ⊢; rw [if_neg (by decide)]; exact Qc3 l _ [] n g x28 _ _ x33 9 a b c d e _ (.inr rfl) hx (by omega) hw (fun h => by simp at h) (by omega)
theorem nc_l1 {l : List S100} {a b c d e : Int} {n : Nat} (hl : chk l = 0) (hc : okC a b c d e = true) (h1 : n < l.length) (r : Int) (hr : 0 ≤ r ∧ r ≤ 501) (hw1 : 0 < r → Qbc l b d e n (r - 1) = true) (hw2 : r < 501 → Qbc l b d e n r = false) {k : Nat} (hk : 4000 < k) :
  Qao.l1 k l n (if r = 0 then ((0 : Int), (9 : Int)) else (r - 1, 0)).1 (if r = 0 then ((0 : Int), (9 : Int)) else (r - 1, 0)).2 (if (best (wo l n) b d e).2 = true then tot Qax (wo l n) (best (wo l n) b d e).1 else 0) (if (best (wo l n) b d e).2 = true then 0 else 9) 0 a b c d e = some true := by
 have h4 := (chk0 hl).2.1
 have hset : ∀ p q : Int, (l.set n { (Qf l (n : Int)) with f1 := q }).set n { (Qf (l.set n { (Qf l (n : Int)) with f1 := q }) (n : Int)) with f1 := p } = pr l n p := by
  intro p q; rw [List.set_set, Qbt h1, if_pos rfl]; unfold pr; rw [Int.toNat_natCast]
 have hset0 : ∀ p : Int, l.set n { (Qf l (n : Int)) with f1 := p } = pr l n p := fun p => by unfold pr; rw [Int.toNat_natCast]
 have hend : ∀ (k : Nat) (x27 x28 x31 x32 : Int), 100 < k → Qao.l1 k l n x27 x28 x31 x32 2 a b c d e = some true := by
  intro k x27 x28 x31 x32 hk; obtain ⟨k, rfl⟩ : ∃ z, k = z + 1 := ⟨k - 1, by omega⟩
  simp only [Qao.l1]; rw [if_neg (by omega), Qd.at (by omega)]; rfl
 have hround : ∀ (k : Nat) (x27 x28 x31 x32 x33 : Int), 100 < k → 0 ≤ x27 → x27 ≤ 600 → 0 ≤ x33 → x33 ≤ 1 → Qao.l1 (k + 1) l n x27 x28 x31 x32 x33 a b c d e = Qao.j8 k l n x27 x28 x31 x32 x33 (pr l n (if x28 = 0 then x27 + x33 else 0)) a b c d e := by
  intro k x27 x28 x31 x32 x33 hk g1 g2 g3 g4; simp only [Qao.l1]; rw [if_pos (by omega), Qbj l (by omega), w64 (x := x27 + x33) (by omega)]; simp only [Option.bind_some]; rw [if_pos (by omega), if_pos (by omega), Int.toNat_natCast]; by_cases h : x28 = 0
  ·rw [if_pos h, if_pos h]
   exact congrArg (fun z => Qao.j8 k l n x27 x28 x31 x32 x33 z a b c d e) (hset0 (x27 + x33))
  ·rw [if_neg h, if_neg h]
   exact congrArg (fun z => Qao.j8 k l n x27 x28 x31 x32 x33 z a b c d e) (hset 0 (x27 + x33))
 obtain ⟨k, rfl⟩ : ∃ z, k = z + 1 + 1 + 1 + 1 + 1 + 1 + 1 + 1 := ⟨k - 8, by omega⟩
 by_cases hz : r = 0
 ·have hw := hw2 (by omega)
  rw [hz] at hw; simp only [if_pos hz]; rw [hround (k + 1 + 1 + 1 + 1 + 1 + 1 + 1) 0 9 _ _ 0 (by omega) (by omega) (by omega) (by omega) (by omega), show (if (9 : Int) = 0 then (0 : Int) + 0 else 0) = 0 from rfl, Qcd hl hc h1 (p := 0) (by omega) 0 9 0 (by omega) (by rw [hw]; rfl) (by omega)]; rw [hround (k + 1 + 1 + 1) 0 9 _ _ (0 + 1) (by omega) (by omega) (by omega) (by omega) (by omega), show (if (9 : Int) = 0 then (0 : Int) + (0 + 1) else 0) = 0 from rfl, Qcd hl hc h1 (p := 0) (by omega) 0 9 (0 + 1) (by omega) (by rw [hw]; rfl) (by omega)]; exact hend k _ _ _ _ (by omega)
 ·have hwa := hw1 (by omega)
  simp only [if_neg hz]; rw [hround (k + 1 + 1 + 1 + 1 + 1 + 1 + 1) (r - 1) 0 _ _ 0 (by omega) (by omega) (by omega) (by omega) (by omega), show (if (0 : Int) = 0 then r - 1 + 0 else 0) = r - 1 by rw [if_pos rfl]; omega, Qcd hl hc h1 (p := r - 1) (by omega) (r - 1) 0 0 (by omega) (by rw [hwa]; rfl) (by omega)]; by_cases h5 : r < 501
  ·have hwb := hw2 h5
   rw [hround (k + 1 + 1 + 1) (r - 1) 0 _ _ (0 + 1) (by omega) (by omega) (by omega) (by omega) (by omega), show (if (0 : Int) = 0 then r - 1 + (0 + 1) else 0) = r by rw [if_pos rfl]; omega, Qcd hl hc h1 (p := r) (by omega) (r - 1) 0 (0 + 1) (by omega) (by rw [hwb]; rfl) (by omega)]; exact hend k _ _ _ _ (by omega)
  ·rw [hround (k + 1 + 1 + 1) (r - 1) 0 _ _ (0 + 1) (by omega) (by omega) (by omega) (by omega) (by omega), show (if (0 : Int) = 0 then r - 1 + (0 + 1) else 0) = r by rw [if_pos rfl]; omega]
   have hlen : (pr l n r).length = l.length := by unfold pr; simp
   have hf1 : (Qf (pr l n r) (n : Int)).f1 = r := by unfold pr; rw [Int.toNat_natCast, Qbt h1, if_pos rfl]
   simp only [Qao.j8]; rw [if_pos (by omega), if_pos (by omega), hf1, if_pos (by omega), w64 (by omega)]; exact hend (k + 2) _ _ _ _ (by omega)
theorem rdT_nat {l : List (List Int)} {i : Nat} (h : i < l.length) : Qbe l (i : Int) = l[i] := by simp [Qbe, List.getD_eq_getElem?_getD, List.getElem?_eq_getElem h]
theorem nc_j4 {l : List S100} {a b c d e : Int} (hl : chk l = 0) (hc : okC a b c d e = true) {y : Int} (hy : byte y) (ts : List (List Int)) (x10 x11 x18 : Int) {k : Nat} (hk : 9000 < k) :
  Qao.j4 k ts y l x10 x11 x18 false a b c d e = some true := by
 obtain ⟨h1, h4, h3⟩ := chk0 hl; obtain ⟨k, rfl⟩ : ∃ z, k = z + 1 + 1 := ⟨k - 2, by omega⟩
 have hn0 := Int.emod_nonneg y (show (l.length : Int) ≠ 0 by omega); have hn1 := Int.emod_lt_of_pos y (show (0 : Int) < (l.length : Int) by omega)
 have hn : Int.tmod (wrap64 y) (l.length : Int) = ((y % (l.length : Int)).toNat : Int) := by
  unfold byte at hy; rw [w64 (by omega), Qa9 hy.1]; omega
 have hlt : (y % (l.length : Int)).toNat < l.length := by omega
 simp only [Qao.j4]; rw [if_neg (by simp), if_neg (by omega), hn, Qbj l (by omega)]; generalize (y % (l.length : Int)).toNat = n at hlt ⊢; obtain ⟨r, g1, g2, g3, g4, g5⟩ := dear_eq hl hc (n := (n : Int)) (by omega) (by omega) (k := k + 1) (by omega); have hop : opn (wo l n) a b c d e = 0 := by unfold opn; rw [if_pos (Qck hl (by omega) (by omega)), if_pos hc]
 have hlw : (wo l n).length = l.length := by unfold wo; simp
 have hL := nc_l1 hl hc hlt r ⟨g1, g2⟩ g3 g4 (k := k) (by omega)
 have hj6 : ∀ x27 x28 x31 x32 : Int, Qao.j6 (k + 1) l n x27 x28 x31 x32 false a b c d e = Qao.l1 k l n x27 x28 x31 x32 0 a b c d e := by
  intro x27 x28 x31 x32; simp only [Qao.j6]; rw [if_neg (by simp)]
 have e1 : l.set ((n : Int)).toNat (⟨(⟨(Qf l n).f0.f0, (Qf l n).f0.f1⟩ : S24), (Qf l n).f1, (Qf l n).f2, 0⟩ : S100) = wo l n := rfl; simp only [Option.bind_some]; rw [g5]; simp only [Option.bind_some]; rw [if_pos (by omega), if_pos (by omega), e1, Qbj (wo l n) (by omega)]; simp only [Option.bind_some]; rw [Qbn _ _ _ _ _ _ (by omega), if_pos hop]; simp only [Option.bind_some]; by_cases hr : r = 0
 ·simp only [if_pos hr] at hL ⊢
  rw [if_neg (by decide), if_pos trivial, if_pos trivial]; by_cases hb : (best (wo l n) b d e).2 = true
  ·simp only [if_pos hb] at hL ⊢
   rw [if_pos trivial, if_neg (by decide), show decide ((0 : Int) > 500) = false from rfl, hj6]; exact hL
  ·simp only [if_neg hb] at hL ⊢
   rw [if_neg (by decide), if_pos trivial, if_neg (by decide), show decide ((0 : Int) > 500) = false from rfl, hj6]; exact hL
 ·simp only [if_neg hr] at hL ⊢
  rw [if_pos trivial]; have hd : decide (r - 1 > 500) = false := decide_eq_false (by omega); by_cases hb : (best (wo l n) b d e).2 = true
  ·simp only [if_pos hb] at hL ⊢
   rw [if_pos trivial, if_neg (by omega), hd, hj6]; exact hL
  ·simp only [if_neg hb] at hL ⊢
   rw [if_neg (by decide), if_pos trivial, if_neg (by omega), hd, hj6]; exact hL
theorem nc_l0 {l : List S100} {a b c d e : Int} (hl : chk l = 0) (hc : okC a b c d e = true) {y : Int} (hy : byte y) (ts : List (List Int)) (hts : ∀ t ∈ ts, ∀ x ∈ t, byte x) {x10 x11 : Int}
  (hx : (best l b d e).2 = true → x10 = tot Qax l (best l b d e).1 ∧ x11 = 0) : ∀ (q k i : Nat), i + q = min 12 ts.length → 9100 + 10 * q < k →
  Qao.l0 k ts y l x10 x11 (i : Int) a b c d e = some true := by
 obtain ⟨h1, h4, h3⟩ := chk0 hl; have hop : opn l a b c d e = 0 := by unfold opn; rw [if_pos hl, if_pos hc]
 intro q
 induction q with
 | zero =>
  intro k i hi hk; obtain ⟨k, rfl⟩ : ∃ z, k = z + 1 := ⟨k - 1, by omega⟩
  simp only [Qao.l0]; by_cases h : (i : Int) < (ts.length : Int)
  ·rw [if_pos h, decide_eq_false (by omega), nc_j4 hl hc hy _ _ _ _ (by omega)]
  ·rw [if_neg h, nc_j4 hl hc hy _ _ _ _ (by omega)]
 | succ q ih =>
  intro k i hi hk; obtain ⟨k, rfl⟩ : ∃ z, k = z + 1 + 1 := ⟨k - 2, by omega⟩
  have hlt : i < ts.length := by omega
  have hf := Qdp (p := ts[i]) h3; have hM := Qcs h4 h3 hf; have hml := (Qa7.1 hf).1; have hopm : opnM l a b c d e (mixN l ts[i]) = 0 := by unfold opnM; rw [if_pos hop, hf]; rfl
  simp only [Qao.l0]; rw [if_pos (by omega), decide_eq_true (by omega)]; simp only [Qao.j4]; rw [if_pos trivial, if_pos (by omega), if_pos (by omega), rdT_nat hlt, Qdm h3 h4 (hts _ (List.getElem_mem hlt)) (by omega), Qbj l (by omega)]; simp only [Option.bind_some]; rw [Qce _ (by omega)]; simp only [Option.bind_some]; rw [Qb9 _ _ _ _ _ _ _ (by omega), if_pos hopm, Qct hM hml (by omega)]; simp only [Option.bind_some]; rw [if_pos trivial]; obtain ⟨k, rfl⟩ : ∃ z, k = z + 1 := ⟨k - 1, by omega⟩
  have hnext : Qao.j5 (k + 1) ts y l x10 x11 (i : Int) false a b c d e = some true := by
   simp only [Qao.j5]; rw [if_neg (by simp), w64 (x := (i : Int) + 1) (by omega)]; exact ih k (i + 1) (by omega) (by omega)
  by_cases hlo : lo l b d (mixN l ts[i]) ≥ 0
  ·rw [if_pos (decide_eq_true hlo)]
   by_cases hst : tot Qay l (mixN l ts[i]) > e
   ·rw [if_pos (decide_eq_true hst)]; exact hnext
   ·rw [if_neg (by simp [hst])]
    obtain ⟨m1, m2⟩ := Qcm (l := l) (b := b) (d := d) (e := e) (by omega) hf ⟨hlo, by omega⟩; obtain ⟨x1, x2⟩ := hx m1; rw [if_pos x2, decide_eq_false (by omega)]; exact hnext
  ·rw [if_neg (by simpa using hlo)]; exact hnext
theorem Qbv (ss : List S89) (hs : ∀ v ∈ ss, Qa8 v) (v : S89) (hv : Qa8 v) (ts : List (List Int)) (hts : ∀ t ∈ ts, ∀ x ∈ t, byte x) (y : Int) (hy : byte y) : ∃ k, Qao.f k ss v.f0 v.f1 v.f2 v.f3 v.f4 ts y = some true := by
 obtain ⟨k, hk⟩ : ∃ k, 10000 < k := ⟨10001, by omega⟩
 refine ⟨k, ?_⟩; have hl := Qc0 hs; have hc : okC (Qaz v).f0.f0 (Qaz v).f0.f1 (Qaz v).f1.f0 (Qaz v).f1.f1 (Qaz v).f2 = true := Qda hv; have hmk := made_eq ss hs hv (k := k) (by omega); generalize Qbk ss = l at *; generalize (Qaz v).f0.f0 = a at *; generalize (Qaz v).f0.f1 = b at *; generalize (Qaz v).f1.f0 = c at *; generalize (Qaz v).f1.f1 = d at *; generalize (Qaz v).f2 = e at *; obtain ⟨h1, h4, h3⟩ := chk0 hl; have hop : opn l a b c d e = 0 := by unfold opn; rw [if_pos hl, if_pos hc]
 unfold Qao.f; rw [hmk]; simp only [Option.bind_some]; rw [Qbj l (by omega)]; simp only [Option.bind_some]; rw [Qbn _ _ _ _ _ _ (by omega), if_pos hop]; simp only [Option.bind_some]; obtain ⟨k, rfl⟩ : ∃ z, k = z + 1 + 1 + 1 := ⟨k - 3, by omega⟩
 by_cases hb : (best l b d e).2 = true
 ·have hf := Qci (l := l) (by omega) hb
  have hg := Qcb hb; have hM := Qcs h4 h3 hf; have hml := (Qa7.1 hf).1; have hopm : opnM l a b c d e (best l b d e).1 = 0 := by unfold opnM; rw [if_pos hop, hf]; rfl
  simp only [if_pos hb]; rw [if_pos trivial]; simp only [Qao.j0]; rw [if_neg (by simp), if_pos trivial, Qbj l (by omega), Qce _ (by omega)]; simp only [Option.bind_some]; rw [Qb9 _ _ _ _ _ _ _ (by omega), if_pos hopm, Qbp (by omega) hf (by omega)]; simp only [Option.bind_some]; rw [if_pos trivial, if_pos trivial, if_pos (decide_eq_true hg.1), decide_eq_false (p := tot Qay l (best l b d e).1 > e) (by have := hg.2; omega)]; simp only [Qao.j1]; rw [if_neg (by simp), Qct hM hml (by omega)]; simp only [Option.bind_some]; rw [if_pos trivial]; simp only [Qao.j2]; exact nc_l0 hl hc hy ts hts (x10 := tot Qax l (best l b d e).1) (x11 := 0) (fun _ => ⟨rfl, rfl⟩) (min 12 ts.length) _ 0 (Nat.zero_add _) (by omega)
 ·simp only [if_neg hb]
  rw [if_neg (by decide), if_pos trivial, if_pos (by simp), show ((0 : Int) != 0) = false from rfl]; simp only [Qao.j0]; rw [if_neg (by simp), if_neg (by decide)]; simp only [Qao.j2]; exact nc_l0 hl hc hy ts hts (x10 := 0) (x11 := 9) (fun h => absurd h hb) (min 12 ts.length) _ 0 (Nat.zero_add _) (by omega)
end Go.Proofs.YtjaapkkpmegkfaaGreat.P
