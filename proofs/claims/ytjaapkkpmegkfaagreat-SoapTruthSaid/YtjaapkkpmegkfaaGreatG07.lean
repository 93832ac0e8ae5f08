/- Part 7 of what the law's proof needs beyond its base: words, walks of functions and plain facts. -/
import Derived.Test.YtjaapkkpmegkfaaGreatG06
set_option linter.unusedVariables false
set_option linter.unusedSimpArgs false
namespace Go.Proofs.YtjaapkkpmegkfaaGreat.P
open Go.RowKit Go.Shelf Go.Proofs.YtjaapkkpmegkfaaGreatW.PrintWords Go.Proofs.YtjaapkkpmegkfaaGreatW.PrintLast Go.Proofs.YtjaapkkpmegkfaaGreatW.PrintMore
theorem Qbu (f : S100 → Int) : ∀ (l : List S100) (m : List Int) (i : Nat) (h : i < m.length) (hl : i < l.length), tot f l (m.set i (m[i] + 1)) = tot f l m + f l[i]
 | [], m, i, h, hl => by simp at hl
 | s :: l, [], i, h, hl => by simp at h
 | s :: l, x :: m, 0, h, hl => by
  unfold tot; simp only [List.set_cons_zero, List.getElem_cons_zero, List.zip_cons_cons, List.map_cons, List.sum_cons, Int.add_mul]; omega
 | s :: l, x :: m, i + 1, h, hl => by
  have ih := Qbu f l m i (by simpa using h) (by simpa using hl); unfold tot at ih ⊢; simp only [List.set_cons_succ, List.getElem_cons_succ, List.zip_cons_cons, List.map_cons, List.sum_cons]; rw [ih]; omega
theorem fit_set {l : List S100} {m : List Int} (hf : fit l m = true) {i : Nat} (h : i < m.length) (hlt : m[i] < (Qf l (i : Int)).f3) : fit l (m.set i (m[i] + 1)) = true := by
 obtain ⟨h1, h2⟩ := Qbf.1 hf; refine Qbf.2 ⟨by rw [List.length_set]; exact h1, fun j hj => ?_⟩; rw [List.length_set] at hj; have := h2 j hj; rw [List.getElem_set]
 split
 ·rename_i e
  subst e; omega
 ·exact this
theorem Qb8 {a c a' c' : Int} (h0 : 0 ≤ a) (h1 : a ≤ a') (h2 : 0 ≤ c) (h3 : c ≤ c') : upN a c ≤ upN a' c' := by
 have := (Qa6 h0 h1 h2 h3).2; unfold upN; omega
structure Tr (l : List S100) (m : List Int) (a b c d e : Int) : Prop where
 chk : chk l = 0
 fit : fit l m = true
 okc : okC a b c d e = true
theorem Tr.mx {l : List S100} {m : List Int} {a b c d e : Int} (h : Tr l m a b c d e) : Mx l m := by
 obtain ⟨h1, h2, h3⟩ := chk0 h.chk; exact Qco h2 h3 h.fit
theorem Tr.op0 {l : List S100} {m : List Int} {a b c d e : Int} (h : Tr l m a b c d e) : opnM l a b c d e m = 0 := by
 unfold opnM opn; rw [if_pos h.chk, if_pos h.okc, if_pos rfl, h.fit]; rfl
theorem Qcu {l : List S100} {m : List Int} {a b c d e : Int} (h : Tr l m a b c d e) : ∀ (q k i : Nat), i + q = l.length → q + 200 < k →
  Qao.l1 k l m (i : Int) a b c d e (lo l b d m) (hi l a c m) = some true := by
 have hmx := h.mx; have h4 := hmx.l4; have hml := (Qbf.1 h.fit).1; intro q
 induction q with
 | zero =>
  intro k i hn hk; obtain ⟨k, rfl⟩ : ∃ z, k = z + 1 := ⟨k - 1, by omega⟩
  simp only [Qao.l1]; rw [if_neg (by omega), Qd.at (by omega)]; rfl
 | succ q ih =>
  intro k i hn hk; obtain ⟨k, rfl⟩ : ∃ z, k = z + 1 := ⟨k - 1, by omega⟩
  have h1 : i < m.length := by omega
  have h2 : i < l.length := by omega
  have hx := hmx.m12 m[i] (List.getElem_mem h1); simp only [Qao.l1]; rw [if_pos (by omega), Qb6 m (by omega), w64 (x := (i : Int) + 1) (by omega)]; simp only [Option.bind_some]; rw [if_pos (by omega), if_pos (by omega), YT h1]; by_cases hc : m[i] < (Qf l (i : Int)).f3
  ·have hT : Tr l (m.set i (m[i] + 1)) a b c d e := ⟨h.chk, fit_set h.fit h1 hc, h.okc⟩
   have hok := hmx.ok l[i] (List.getElem_mem h2); have g1 := Qbn hok; have g2 := Qbv hok; rw [if_pos hc, Qci l (by omega), w64 (x := m[i] + 1) (by omega), Int.toNat_natCast]; simp only [Option.bind_some]; rw [Qca l a b c d e _ (by rw [List.length_set]; omega), if_pos hT.op0]; simp only [Option.bind_some, if_true]; have e1 : lo l b d (m.set i (m[i] + 1)) = lo l b d m + Qa4 l[i] := by unfold lo; rw [Qbu _ _ _ _ h1 h2]; omega
   have e2 : hi l a c (m.set i (m[i] + 1)) = hi l a c m + Qa7 l[i] := by unfold hi; rw [Qbu _ _ _ _ h1 h2]; omega
   rw [e1, e2, if_neg (by omega), if_neg (by omega)]; exact ih k (i + 1) (by omega) (by omega)
  ·rw [if_neg hc]
   exact ih k (i + 1) (by omega) (by omega)
theorem Qcr {l : List S100} {m : List Int} {a b c d e : Int} (h : Tr l m a b c d e) {k : Nat} (hk : 1000 < k) :
  Qao.j2 k l m (decide (tot Qa0 l m > e)) false a b c d e (lo l b d m) (hi l a c m) = some true := by
 have hmx := h.mx; have h4 := hmx.l4; have hml := (Qbf.1 h.fit).1; obtain ⟨k, rfl⟩ : ∃ z, k = z + 1 := ⟨k - 1, by omega⟩
 simp only [Qao.j2]; rw [if_neg (by simp), cost_eq hmx hml (by omega)]; simp only [Option.bind_some]; rw [if_neg (by simp)]; exact Qcu h l.length k 0 (Nat.zero_add _) (by omega)
theorem Qcc (t : List Int) (ht : ∀ x ∈ t, byte x) (l : List S100) (m : List Int) (i : Nat) (i2 : i < l.length) (i1 : i < m.length) (h4 : l.length ≤ 4) (hok : okS l[i] = true) (hx : 0 ≤ m[i] ∧ m[i] ≤ 12) (S P St : Bool) (g a b c d e u1 u2 lo' hi' tk s u : Int) (hs : 0 ≤ s ∧ s ≤ 10000) (htk : 0 ≤ tk ∧ tk ≤ 10000) (hu : 0 ≤ u ∧ u ≤ 10000) (k : Nat) :
  ∃ nn, l[i].f0.f0 ≤ nn ∧ nn ≤ l[i].f0.f1 ∧ Qao.l0 (k + 1) t l m S P St g tk (i : Int) a b c d e u1 u2 lo' hi' s u = Qao.l0 k t l m S P St g (tk + m[i] * nn) ((i + 1 : Nat) : Int) a b c d e u1 u2 lo' hi' (s + m[i] * l[i].f0.f0) (u + m[i] * l[i].f0.f1) := by
 have j1 : (i : Int) < (l.length : Int) := by omega
 have j2 : (i : Int) < (m.length : Int) := by omega
 have j3 : (0 : Int) ≤ (i : Int) := by omega
 have w2 : wrap64 (2 + (i : Int)) = ((2 + i : Nat) : Int) := by rw [w64 (by omega)]; omega
 have w3 : wrap64 ((i : Int) + 1) = ((i + 1 : Nat) : Int) := by rw [w64 (by omega)]; omega
 have hb := Qbg ht (2 + i); unfold okS at hok; rw [decide_eq_true_iff] at hok; obtain ⟨k1, k2, k3, _⟩ := hok; have hin := Qbw (lo := l[i].f0.f0) (hi := l[i].f0.f1) k2 hb.1 hb.2; have hie := Qbj (lo := l[i].f0.f0) (hi := l[i].f0.f1) k2 (by omega) (by omega) hb.1 hb.2; refine ⟨insN l[i].f0.f0 l[i].f0.f1 (byN t (2 + i)), hin.1, hin.2, ?_⟩; generalize insN l[i].f0.f0 l[i].f0.f1 (byN t (2 + i)) = nn at hin hie ⊢; have q1 := Qa6 hx.1 hx.2 k1 (show l[i].f0.f0 ≤ 200 by omega); have q2 := Qa6 hx.1 hx.2 (show 0 ≤ nn by omega) (show nn ≤ 200 by omega); have q3 := Qa6 hx.1 hx.2 (show 0 ≤ l[i].f0.f1 by omega) k3; simp only [Qao.l0]; rw [if_pos j1, if_pos j3, if_pos j2, w2, w3, Qb1 ht (2 + i), Qa8 i2, YT i1]; simp only [Option.bind_some]; rw [hie]; simp only [Option.bind_some]; clear hie hin k2 w2 w3 hb j1 j2 j3 k1 k3 hx; generalize m[i] * nn = x1 at *; generalize m[i] * l[i].f0.f0 = x2 at *; generalize m[i] * l[i].f0.f1 = x3 at *; rw [w64 (x := x1) (by omega), w64 (x := tk + x1) (by omega), w64 (x := x2) (by omega), w64 (x := s + x2) (by omega), w64 (x := x3) (by omega), w64 (x := u + x3) (by omega)]
theorem Qcs {l : List S100} {m : List Int} {a b c d e : Int} (h : Tr l m a b c d e) {t : List Int} (ht : ∀ x ∈ t, byte x) (g : Int) (hg1 : upN a c ≤ g) (hg2 : g ≤ upN b d) : ∀ (q k i : Nat) (tk s u : Int), i + q = l.length → q + 2000 < k →
  s ≤ tk → tk ≤ u → 0 ≤ s → u ≤ 2400 * (i : Int) → s + tot Qa4 (l.drop i) (m.drop i) = tot Qa4 l m → u + tot Qa7 (l.drop i) (m.drop i) = tot Qa7 l m →
  Qao.l0 k t l m (decide (lo l b d m ≥ 0)) (decide (hi l a c m ≥ 0)) (decide (tot Qa0 l m > e)) g tk (i : Int) a b c d e (upN a c) (upN b d) (lo l b d m) (hi l a c m) s u = some true := by
 have hmx := h.mx; have h4 := hmx.l4; have hml := (Qbf.1 h.fit).1; obtain ⟨c1, c2, c3⟩ := Qb7 h.okc; have u1 := Qbt c1.1 c1.2.1 c2.1 c2.2.1; have u2 := Qbt c1.2.2.1 c1.2.2.2 c2.2.2.1 c2.2.2.2; have L1 := Qb2 hmx; have L2 := Qb9 hmx; intro q
 induction q with
 | zero =>
  intro k i tk s u hn hk h1 h2 h3 h5 h6 h7; obtain ⟨k, rfl⟩ : ∃ z, k = z + 1 := ⟨k - 1, by omega⟩
  rw [List.drop_of_length_le (l := m) (by omega)] at h6 h7; have z : ∀ f : S100 → Int, tot f (l.drop i) [] = 0 := fun f => by simp [tot]
  rw [z] at h6 h7; have hs : s = tot Qa4 l m := by omega
  have hu : u = tot Qa7 l m := by omega
  have hlo : lo l b d m = s - upN b d := by rw [hs]; rfl
  have hhi : hi l a c m = u - upN a c := by rw [hu]; rfl
  have hJ := Qcr h (k := k) (by omega); simp only [Qao.l0, QC.f]
  have e2 : (!(lo l b d m == wrap64 (s - upN b d)) || !(hi l a c m == wrap64 (u - upN a c))) = false := by
   rw [w64 (x := s - upN b d) (by omega), w64 (x := u - upN a c) (by omega), hlo, hhi]; simp
  simp only [Option.bind_some, e2]; rw [if_neg (by omega), if_neg (by omega), if_neg (by omega), w64 (x := tk - g) (by omega), if_neg (by omega), if_neg (by omega)]; by_cases hS : lo l b d m ≥ 0
  ·simp only [decide_eq_true hS, if_true] at hJ ⊢
   rw [if_neg (by omega), if_pos (by omega)]; have hP : hi l a c m ≥ 0 := by omega
   simp only [decide_eq_true hP, if_true]; exact hJ
  ·simp only [decide_eq_false hS, Bool.false_eq_true, if_false] at hJ ⊢
   by_cases hT : tk ≥ g
   ·have hP : hi l a c m ≥ 0 := by omega
    rw [if_pos hT]; simp only [decide_eq_true hP, if_true]; exact hJ
   ·rw [if_neg hT]
    exact hJ
 | succ q ih =>
  intro k i tk s u hn hk h1 h2 h3 h5 h6 h7; obtain ⟨k, rfl⟩ : ∃ z, k = z + 1 := ⟨k - 1, by omega⟩
  have i1 : i < m.length := by omega
  have i2 : i < l.length := by omega
  have hok := hmx.ok l[i] (List.getElem_mem i2); have hx := hmx.m12 m[i] (List.getElem_mem i1); have n1 : i + 1 + q = l.length := by omega
  have n2 : q + 2000 < k := by omega
  have n3 : 2400 * ((i + 1 : Nat) : Int) = 2400 * (i : Int) + 2400 := by omega
  have n4 : u ≤ 10000 := by omega
  clear u1 u2 c1 c2 c3 L1 L2 hg1 hg2 hn hk; obtain ⟨nn, a1, a2, a3⟩ := Qcc t ht l m i i2 i1 h4 hok hx (decide (lo l b d m ≥ 0)) (decide (hi l a c m ≥ 0)) (decide (tot Qa0 l m > e)) g a b c d e (upN a c) (upN b d) (lo l b d m) (hi l a c m) tk s u ⟨h3, by omega⟩ ⟨by omega, by omega⟩ ⟨by omega, n4⟩ k; rw [a3]; unfold okS at hok; rw [decide_eq_true_iff] at hok; obtain ⟨k1, k2, k3, _⟩ := hok; have p0 := Qa6 hx.1 hx.2 k1 (show l[i].f0.f0 ≤ 200 by omega); have p2 := Qa6 hx.1 hx.2 (show 0 ≤ l[i].f0.f1 by omega) k3; have p3 : m[i] * l[i].f0.f0 ≤ m[i] * nn := Int.mul_le_mul_of_nonneg_left a1 hx.1; have p4 : m[i] * nn ≤ m[i] * l[i].f0.f1 := Int.mul_le_mul_of_nonneg_left a2 hx.1; rw [Qbc i2 i1] at h6 h7; have e1 : Qa4 l[i] = l[i].f0.f0 := rfl; have e2 : Qa7 l[i] = l[i].f0.f1 := rfl; rw [e1, ← Int.add_assoc] at h6; rw [e2, ← Int.add_assoc] at h7; refine ih k (i + 1) _ _ _ n1 n2 ?_ ?_ ?_ ?_ h6 h7
  ·exact Int.add_le_add h1 p3
  ·exact Int.add_le_add h2 p4
  ·exact Int.add_nonneg h3 p0.1
  ·rw [n3]; exact Int.add_le_add h5 p2.2
theorem Qb0 (ss : List S89) (hs : ∀ v ∈ ss, Qa9 v) (v : S89) (hv : Qa9 v) (p : List Int) (hp : ∀ x ∈ p, byte x) (t : List Int) (ht : ∀ x ∈ t, byte x) : ∃ k, Qao.f k ss v.f0 v.f1 v.f2 v.f3 v.f4 p t = some true := by
 obtain ⟨k, hk⟩ : ∃ k, 5000 < k := ⟨6000, by omega⟩
 refine ⟨k, ?_⟩; have hl := Qcd hs; have hc : okC (Qax v).f0.f0 (Qax v).f0.f1 (Qax v).f1.f0 (Qax v).f1.f1 (Qax v).f2 = true := Qcn hv; obtain ⟨h1, h4, h3⟩ := chk0 hl; have hT : Tr (Qbb ss) (mixN (Qbb ss) p) (Qax v).f0.f0 (Qax v).f0.f1 (Qax v).f1.f0 (Qax v).f1.f1 (Qax v).f2 := ⟨hl, Qcw h3, hc⟩
 have hcb : (Qax v).f0.f0 ≤ (Qax v).f0.f1 ∧ (Qax v).f0.f1 ≤ 2000 ∧ 1 ≤ (Qax v).f0.f0 ∧ 0 ≤ (Qax v).f1.f0 ∧ (Qax v).f1.f0 ≤ (Qax v).f1.f1 ∧ (Qax v).f1.f1 ≤ 300 := by
  have hc' := hc; unfold okC at hc'; rw [decide_eq_true_iff] at hc'; omega
 have hmk := made_eq ss hs hv (k := k) (by omega); generalize Qbb ss = l at *; generalize (Qax v).f0.f0 = a at *; generalize (Qax v).f0.f1 = b at *; generalize (Qax v).f1.f0 = c at *; generalize (Qax v).f1.f1 = d at *; generalize (Qax v).f2 = e at *; have hml : (mixN l p).length = l.length := by simp [mixN]
 unfold Qao.f; rw [hmk]; simp only [Option.bind_some]; rw [Qcv h3 h4 hp (by omega), Qcg, Qci l (by omega)]; simp only [Option.bind_some]; rw [Qb6 _ (by omega)]; simp only [Option.bind_some]; have hokc : okC a b c d e = true := hc; rw [Qcl _ _ _ _ _ _ _ (by omega), Qca _ _ _ _ _ _ _ (by omega), if_pos hT.op0, if_pos hT.op0, if_pos hokc]; simp only [Option.bind_some, if_true]; rw [if_neg (by simp), show (decide (hi l a c (mixN l p) ≥ 0) != decide (hi l a c (mixN l p) ≥ 0)) = false by simp]; obtain ⟨k, rfl⟩ : ∃ z, k = z + 1 := ⟨k - 1, by omega⟩
 simp only [Qao.j0]; have b0 := Qbg ht 0; have b1 := Qbg ht 1; have y0 : Qay.f t 0 = some (byN t 0) := Qb1 ht 0; have y1 : Qay.f t 1 = some (byN t 1) := Qb1 ht 1; rw [if_neg (by simp), y0, y1]; simp only [Option.bind_some]; rw [Qbj (by omega) (by omega) (by omega) b0.1 b0.2, Qbj (by omega) (by omega) (by omega) b1.1 b1.2]; simp only [Option.bind_some]; have i0 := Qbw hcb.1 b0.1 b0.2; have i1 := Qbw hcb.2.2.2.2.1 b1.1 b1.2; generalize insN a b (byN t 0) = w at *; generalize insN c d (byN t 1) = th at *; have hm := Qa6 (a := w) (c := th) (A := 2000) (C := 300) (by omega) (by omega) (by omega) (by omega); rw [w64 (x := w * th) (by omega), w64 (x := w * th + 999) (by omega), Int.tdiv_eq_ediv_of_nonneg (by omega), w64 (x := (w * th + 999) / 1000) (by omega)]; have hu : (w * th + 999) / 1000 = upN w th := rfl; rw [hu]; exact Qcs hT ht (upN w th) (Qb8 (by omega) i0.1 (by omega) i1.1) (Qb8 (by omega) i0.2 (by omega) i1.2) l.length k 0 0 0 0 (Nat.zero_add _) (by omega) (Int.le_refl _) (Int.le_refl _) (Int.le_refl _) (by omega) (by simp) (by simp)
end Go.Proofs.YtjaapkkpmegkfaaGreat.P
