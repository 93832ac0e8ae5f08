/- Part 4 of what the law's proof needs beyond its base: words, walks of functions and plain facts. -/
import Derived.Test.YtjaapkkpmegkfaaGreatG03
set_option linter.unusedVariables false
set_option linter.unusedSimpArgs false
namespace Go.Proofs.YtjaapkkpmegkfaaGreat.P
open Go.RowKit Go.Shelf Go.Proofs.YtjaapkkpmegkfaaGreatW.PrintWords Go.Proofs.YtjaapkkpmegkfaaGreatW.PrintLast Go.Proofs.YtjaapkkpmegkfaaGreatW.PrintMore
def okS (s : S100) : Bool := decide (0 ≤ s.f0.f0 ∧ s.f0.f0 ≤ s.f0.f1 ∧ s.f0.f1 ≤ 200 ∧ 0 ≤ s.f1 ∧ s.f1 ≤ 500 ∧ 0 ≤ s.f2 ∧ s.f2 ≤ 50 ∧ 0 ≤ s.f3 ∧ s.f3 ≤ 12)
def okC (a b c d e : Int) : Bool := decide (1 ≤ a ∧ a ≤ b ∧ b ≤ 2000 ∧ 0 ≤ c ∧ c ≤ d ∧ d ≤ 300 ∧ 0 ≤ e ∧ e ≤ 500)
def chk (l : List S100) : Int := if (l.length : Int) > 4 then 5 else if (l.length : Int) = 0 then 7 else if l.all okS = true then 0 else 2
theorem chk0 {l : List S100} (h : chk l = 0) : 1 ≤ l.length ∧ l.length ≤ 4 ∧ ∀ s ∈ l, okS s = true := by
 unfold chk at h
 split at h
 ·cases h
 split at h
 ·cases h
 split at h
 ·rename_i h1 h2 h3
  exact ⟨by omega, by omega, by simpa using h3⟩
 ·cases h
theorem Qcf (s : S100) : Zk.f s.f0.f0 s.f0.f1 s.f1 s.f2 s.f3 = some (!okS s) := by
 unfold Zk.f okS; simp only [Y1, isSpan_eq, Option.bind_some, List.all_cons, List.all_nil, Bool.and_true]; by_cases h1 : 0 ≤ s.f0.f0 ∧ s.f0.f0 ≤ s.f0.f1 ∧ s.f0.f1 ≤ 200
 ·rw [if_pos (by simpa using h1)]
  by_cases h2 : 0 ≤ s.f1 ∧ s.f1 ≤ 500
  ·rw [if_pos (by simpa using h2)]
   by_cases h3 : 0 ≤ s.f2 ∧ s.f2 ≤ 50
   ·rw [if_pos (by simpa using h3)]
    congr 2
    exact decide_eq_decide.2 (by omega)
   ·rw [if_neg (by simpa using h3)]
    congr 1; symm; rw [Bool.not_eq_true', decide_eq_false_iff_not]; omega
  ·rw [if_neg (by simpa using h2)]
   congr 1; symm; rw [Bool.not_eq_true', decide_eq_false_iff_not]; omega
 ·rw [if_neg (by simpa using h1)]
  congr 1; symm; rw [Bool.not_eq_true', decide_eq_false_iff_not]; omega
theorem Qc2 (l : List S100) : Jf.f l = some (chk l) := by
 unfold Jf.f chk; by_cases h1 : (l.length : Int) > 4
 ·rw [if_pos h1, if_pos h1]
 ·rw [if_neg h1, if_neg h1]
  by_cases h2 : (l.length : Int) = 0
  ·rw [if_pos h2, if_pos h2]
  ·rw [if_neg h2, if_neg h2]
   unfold Jw.f; rw [YA (p := fun s => !okS s) fun s _ => Qcf s]; simp only [Option.bind_some]; by_cases h3 : l.all okS = true
   ·rw [if_pos h3, if_neg (by simpa using h3)]
   ·rw [if_neg h3, if_pos (by simpa using h3)]
theorem Qbr (a b c d e : Int) : Jc.f a b c d e = some (okC a b c d e) := by
 unfold Jc.f okC; simp only [Y1, isSpan_eq, Option.bind_some, List.all_cons, List.all_nil, Bool.and_true]; by_cases h1 : 1 ≤ a ∧ a ≤ b ∧ b ≤ 2000
 ·rw [if_pos (by simpa using h1)]
  by_cases h2 : 0 ≤ c ∧ c ≤ d ∧ d ≤ 300
  ·rw [if_pos (by simpa using h2)]
   congr 1
   exact decide_eq_decide.2 (by omega)
  ·rw [if_neg (by simpa using h2)]
   congr 1; symm; rw [decide_eq_false_iff_not]; omega
 ·rw [if_neg (by simpa using h1)]
  congr 1; symm; rw [decide_eq_false_iff_not]; omega
def upN (a c : Int) : Int := (a * c + 999) / 1000
theorem Qa6 {a c A C : Int} (h0 : 0 ≤ a) (h1 : a ≤ A) (h2 : 0 ≤ c) (h3 : c ≤ C) : 0 ≤ a * c ∧ a * c ≤ A * C :=
 ⟨Int.mul_nonneg h0 h2, Int.mul_le_mul h1 h3 h2 (by omega)⟩
theorem up_eq {a c : Int} (h0 : 0 ≤ a) (h1 : a ≤ 2000) (h2 : 0 ≤ c) (h3 : c ≤ 300) : Zn.f a c = some (upN a c) := by
 have h := Qa6 h0 h1 h2 h3; unfold Zn.f upN; rw [w64 (x := a * c) (by omega), w64 (x := a * c + 999) (by omega), Int.tdiv_eq_ediv_of_nonneg (by omega), w64 (by omega)]
theorem Qbt {a c : Int} (h0 : 0 ≤ a) (h1 : a ≤ 2000) (h2 : 0 ≤ c) (h3 : c ≤ 300) : 0 ≤ upN a c ∧ upN a c ≤ 600 := by
 have h := Qa6 h0 h1 h2 h3; unfold upN; omega
theorem Qb7 {a b c d e : Int} (h : okC a b c d e = true) : (0 ≤ a ∧ a ≤ 2000 ∧ 0 ≤ b ∧ b ≤ 2000) ∧ (0 ≤ c ∧ c ≤ 300 ∧ 0 ≤ d ∧ d ≤ 300) ∧ 0 ≤ e ∧ e ≤ 500 := by
 unfold okC at h; rw [decide_eq_true_iff] at h; omega
theorem Qbs {a b c d e : Int} (h : okC a b c d e = true) (l : List S100) : QP.f a b c d e l = some (upN a c, upN b d) := by
 obtain ⟨h1, h2, h3⟩ := Qb7 h; unfold QP.f; rw [up_eq h1.1 h1.2.1 h2.1 h2.2.1, up_eq h1.2.2.1 h1.2.2.2 h2.2.2.1 h2.2.2.2]; rfl
theorem Qcg (a b c d e : Int) : Zl.f a b c d e = some (if okC a b c d e = true then (upN a c, upN b d, 0) else (0, 0, 3)) := by
 unfold Zl.f; rw [Qbr]; simp only [Option.bind_some]; by_cases h : okC a b c d e = true
 ·rw [if_pos h, if_pos h, Qbs h]; rfl
 ·rw [if_neg h, if_neg h]
def opn (l : List S100) (a b c d e : Int) : Int := if chk l = 0 then if okC a b c d e = true then 0 else 3 else chk l
theorem open_eq (l : List S100) (a b c d e : Int) : Jd.f l a b c d e = some (a, b, c, d, e, l, opn l a b c d e) := by
 unfold Jd.f opn; rw [Qc2]; simp only [Option.bind_some]; by_cases h : chk l = 0
 ·rw [if_pos h, Qbr]
  simp only [Option.bind_some]; by_cases h2 : okC a b c d e = true
  ·rw [if_pos h2, if_pos h, if_pos h2, h]
  ·rw [if_neg h2, if_pos h, if_neg h2]
 ·rw [if_neg h, if_neg h]
theorem Qa8 {l : List S100} {i : Nat} (h : i < l.length) : Qf l (i : Int) = l[i] := by simp [Qf, List.getD_eq_getElem?_getD, List.getElem?_eq_getElem h]
def fit (l : List S100) (m : List Int) : Bool := decide (m.length = l.length) && (l.zip m).all fun x => decide (0 ≤ x.2 ∧ x.2 ≤ x.1.f3)
theorem Qcb (l : List S100) (m : List Int) (hl : m.length = l.length) (h4 : l.length ≤ 1000) (a b c d e : Int) (l' : List S100) : ∀ (q k i : Nat), i + q = m.length → q < k →
  QJ.l0 k l m (m.length : Int) (i : Int) a b c d e l' = some (a, b, c, d, e, l', cond (((l.zip m).drop i).all fun x => decide (0 ≤ x.2 ∧ x.2 ≤ x.1.f3)) 0 4) := by
 intro q
 induction q with
 | zero =>
  intro k i hi hk; obtain ⟨k, rfl⟩ : ∃ z, k = z + 1 := ⟨k - 1, by omega⟩
  simp only [QJ.l0]; rw [if_neg (by omega), List.drop_of_length_le (by simp; omega)]
  simp
 | succ q ih =>
  intro k i hi hk; obtain ⟨k, rfl⟩ : ∃ z, k = z + 1 := ⟨k - 1, by omega⟩
  have h1 : i < m.length := by omega
  have h2 : i < l.length := by omega
  have hz : i < (l.zip m).length := by simp; omega
  simp only [QJ.l0]; rw [if_pos (by omega), if_pos (by omega), if_pos (by omega), if_pos (by omega), Qa8 h2, YT h1, Y1, w64 (by omega), show ((i : Int) + 1) = ((i + 1 : Nat) : Int) by omega, ih k (i + 1) (by omega) (by omega), List.drop_eq_getElem_cons hz, List.all_cons, List.getElem_zip]; simp only [Option.bind_some, List.all_cons, List.all_nil, Bool.and_true]; by_cases h : 0 ≤ m[i] ∧ m[i] ≤ l[i].f3
  ·rw [if_pos (by simpa using h)]
   rw [decide_eq_true h, Bool.true_and]
  ·rw [if_neg (by simpa using h), decide_eq_false h, Bool.false_and]; rfl
def opnM (l : List S100) (a b c d e : Int) (m : List Int) : Int := if opn l a b c d e = 0 then cond (fit l m) 0 4 else opn l a b c d e
theorem opn0 {l : List S100} {a b c d e : Int} (h : opn l a b c d e = 0) : chk l = 0 ∧ okC a b c d e = true := by
 unfold opn at h
 split at h
 ·split at h
  ·exact ⟨by assumption, by assumption⟩
  ·cases h
 ·rename_i h1; exact absurd h h1
theorem Qbq (l : List S100) (a b c d e : Int) (m : List Int) {k : Nat} (hk : m.length < k) : QJ.f k l a b c d e m = some (a, b, c, d, e, l, opnM l a b c d e m) := by
 unfold QJ.f opnM fit; rw [open_eq]; simp only [Option.bind_some]; by_cases h : opn l a b c d e = 0
 ·rw [if_pos h, if_pos h]
  have h4 := chk0 (opn0 h).1; by_cases h2 : m.length = l.length
  ·rw [if_pos (by omega), decide_eq_true h2, Bool.true_and]
   have := Qcb l m h2 (by omega) a b c d e l m.length k 0 (by omega) hk; exact this
  ·rw [if_neg (by omega), decide_eq_false h2, Bool.false_and]; rfl
 ·rw [if_neg h, if_neg h]
def tot (f : S100 → Int) (l : List S100) (m : List Int) : Int := ((l.zip m).map fun x => x.2 * f x.1).sum
theorem Qcp (f : S100 → Int) (B : Int) (l : List S100) (m : List Int) (hl : ∀ s ∈ l, 0 ≤ f s ∧ f s ≤ B) (hm : ∀ x ∈ m, 0 ≤ x ∧ x ≤ 12) : 0 ≤ tot f l m ∧ tot f l m ≤ 12 * B * l.length := by
 unfold tot
 induction l generalizing m with
 | nil => simp
 | cons s l ih =>
  cases m with
  | nil =>
   have := hl s (by simp); simp only [List.zip_nil_right, List.map_nil, List.sum_nil]; exact ⟨Int.le_refl _, Int.mul_nonneg (by omega) (by omega)⟩
  | cons x m =>
   have := ih m (fun s hs => hl s (by simp [hs])) fun x hx => hm x (by simp [hx])
   have h1 := hl s (by simp); have h2 := hm x (by simp); have h3 := Qa6 h2.1 h2.2 h1.1 h1.2; simp only [List.zip_cons_cons, List.map_cons, List.sum_cons, List.length_cons]; have h4 : 12 * B * ((l.length + 1 : Nat) : Int) = 12 * B * l.length + 12 * B := by rw [Int.natCast_add, Int.mul_add]; omega
   omega
theorem Qbc {f : S100 → Int} {l : List S100} {m : List Int} {i : Nat} (h1 : i < l.length) (h2 : i < m.length) : tot f (l.drop i) (m.drop i) = m[i] * f l[i] + tot f (l.drop (i + 1)) (m.drop (i + 1)) := by
 unfold tot; rw [List.drop_eq_getElem_cons h1, List.drop_eq_getElem_cons h2, List.zip_cons_cons, List.map_cons, List.sum_cons]
structure Mx (l : List S100) (m : List Int) : Prop where
 ok : ∀ s ∈ l, okS s = true
 len : m.length ≤ l.length
 l4 : l.length ≤ 4
 m12 : ∀ x ∈ m, 0 ≤ x ∧ x ≤ 12
theorem Qco {l : List S100} {m : List Int} (hl : l.length ≤ 4) (ok : ∀ s ∈ l, okS s = true) (h : fit l m = true) : Mx l m := by
 unfold fit at h; rw [Bool.and_eq_true, decide_eq_true_iff] at h; obtain ⟨h1, h2⟩ := h; refine ⟨ok, by omega, hl, fun x hx => ?_⟩; obtain ⟨i, hi, rfl⟩ := List.getElem_of_mem hx; have hz : i < (l.zip m).length := by simp; omega
 have h3 := List.all_eq_true.1 h2 _ (List.getElem_mem hz); rw [List.getElem_zip, decide_eq_true_iff] at h3; have h4 := ok l[i] (List.getElem_mem (by omega)); unfold okS at h4; rw [decide_eq_true_iff] at h4; simp only at h3; omega
def Qa4 (s : S100) : Int := s.f0.f0
def Qa7 (s : S100) : Int := s.f0.f1
def Qa0 (s : S100) : Int := s.f2
def Qa5 (s : S100) : Int := s.f1
theorem Qbn {s : S100} (h : okS s = true) : 0 ≤ Qa4 s ∧ Qa4 s ≤ 200 := by
 unfold okS at h; rw [decide_eq_true_iff] at h; unfold Qa4; omega
theorem Qcy (l : List S100) (m : List Int) (h : Mx l m) (a b c d e : Int) : ∀ (q k i : Nat) (s : Int), i + q = m.length → q < k → 0 ≤ s → s ≤ 12 * 200 * (i : Int) →
  Qp.l0 k s m (m.length : Int) (i : Int) a b c d e l = some (s + tot Qa4 (l.drop i) (m.drop i)) := by
 have hl := h.len; have h4 := h.l4; intro q
 induction q with
 | zero =>
  intro k i s hi hk _ _; obtain ⟨k, rfl⟩ : ∃ z, k = z + 1 := ⟨k - 1, by omega⟩
  simp only [Qp.l0]; rw [if_neg (by omega), List.drop_of_length_le (l := m) (by omega)]
  simp [tot]
 | succ q ih =>
  intro k i s hi hk hs0 hs1; obtain ⟨k, rfl⟩ : ∃ z, k = z + 1 := ⟨k - 1, by omega⟩
  have h1 : i < m.length := by omega
  have h2 : i < l.length := by omega
  have hf := Qbn (h.ok l[i] (List.getElem_mem h2)); have hx := h.m12 m[i] (List.getElem_mem h1); have hp := Qa6 hx.1 hx.2 hf.1 hf.2; simp only [Qp.l0, ZF.f]; rw [if_pos (by omega), if_pos (by omega), if_pos (by omega), if_pos (by omega), Qa8 h2, YT h1, Qbc h2 h1]; simp only [Option.bind_some]; have e : l[i].f0.f0 = Qa4 l[i] := rfl; rw [e, w64 (x := m[i] * Qa4 l[i]) (by omega), w64 (x := s + m[i] * Qa4 l[i]) (by omega), w64 (by omega), show ((i : Int) + 1) = ((i + 1 : Nat) : Int) by omega, ih k (i + 1) _ (by omega) (by omega) (by omega) (by omega), Int.add_assoc]
theorem Qc0 {l : List S100} {m : List Int} (h : Mx l m) (a b c d e : Int) {k : Nat} (hk : m.length < k) : Qp.f k a b c d e l m = some (tot Qa4 l m) := by
 unfold Qp.f; have := Qcy l m h a b c d e m.length k 0 0 (by omega) hk (by omega) (by omega)
 simpa using this
theorem Qb2 {l : List S100} {m : List Int} (h : Mx l m) : 0 ≤ tot Qa4 l m ∧ tot Qa4 l m ≤ 100000 := by
 have := Qcp Qa4 200 l m (fun s hs => Qbn (h.ok s hs)) h.m12; have := h.l4; omega
theorem Qbv {s : S100} (h : okS s = true) : 0 ≤ Qa7 s ∧ Qa7 s ≤ 200 := by
 unfold okS at h; rw [decide_eq_true_iff] at h; unfold Qa7; omega
theorem most_at (l : List S100) (m : List Int) (h : Mx l m) (a b c d e : Int) : ∀ (q k i : Nat) (s : Int), i + q = m.length → q < k → 0 ≤ s → s ≤ 12 * 200 * (i : Int) →
  Qw.l0 k s m (m.length : Int) (i : Int) a b c d e l = some (s + tot Qa7 (l.drop i) (m.drop i)) := by
 have hl := h.len; have h4 := h.l4; intro q
 induction q with
 | zero =>
  intro k i s hi hk _ _; obtain ⟨k, rfl⟩ : ∃ z, k = z + 1 := ⟨k - 1, by omega⟩
  simp only [Qw.l0]; rw [if_neg (by omega), List.drop_of_length_le (l := m) (by omega)]
  simp [tot]
 | succ q ih =>
  intro k i s hi hk hs0 hs1; obtain ⟨k, rfl⟩ : ∃ z, k = z + 1 := ⟨k - 1, by omega⟩
  have h1 : i < m.length := by omega
  have h2 : i < l.length := by omega
  have hf := Qbv (h.ok l[i] (List.getElem_mem h2)); have hx := h.m12 m[i] (List.getElem_mem h1); have hp := Qa6 hx.1 hx.2 hf.1 hf.2; simp only [Qw.l0, ZU.f]; rw [if_pos (by omega), if_pos (by omega), if_pos (by omega), if_pos (by omega), Qa8 h2, YT h1, Qbc h2 h1]; simp only [Option.bind_some]; have e : l[i].f0.f1 = Qa7 l[i] := rfl; rw [e, w64 (x := m[i] * Qa7 l[i]) (by omega), w64 (x := s + m[i] * Qa7 l[i]) (by omega), w64 (by omega), show ((i : Int) + 1) = ((i + 1 : Nat) : Int) by omega, ih k (i + 1) _ (by omega) (by omega) (by omega) (by omega), Int.add_assoc]
theorem most_eq {l : List S100} {m : List Int} (h : Mx l m) (a b c d e : Int) {k : Nat} (hk : m.length < k) : Qw.f k a b c d e l m = some (tot Qa7 l m) := by
 unfold Qw.f; have := most_at l m h a b c d e m.length k 0 0 (by omega) hk (by omega) (by omega)
 simpa using this
theorem Qb9 {l : List S100} {m : List Int} (h : Mx l m) : 0 ≤ tot Qa7 l m ∧ tot Qa7 l m ≤ 100000 := by
 have := Qcp Qa7 200 l m (fun s hs => Qbv (h.ok s hs)) h.m12; have := h.l4; omega
theorem Qbz {s : S100} (h : okS s = true) : 0 ≤ Qa0 s ∧ Qa0 s ≤ 50 := by
 unfold okS at h; rw [decide_eq_true_iff] at h; unfold Qa0; omega
theorem Qck (l : List S100) (m : List Int) (h : Mx l m) (a b c d e : Int) : ∀ (q k i : Nat) (s : Int), i + q = m.length → q < k → 0 ≤ s → s ≤ 12 * 50 * (i : Int) →
  Qj.l0 k s m (m.length : Int) (i : Int) a b c d e l = some (s + tot Qa0 (l.drop i) (m.drop i)) := by
 have hl := h.len; have h4 := h.l4; intro q
 induction q with
 | zero =>
  intro k i s hi hk _ _; obtain ⟨k, rfl⟩ : ∃ z, k = z + 1 := ⟨k - 1, by omega⟩
  simp only [Qj.l0]; rw [if_neg (by omega), List.drop_of_length_le (l := m) (by omega)]
  simp [tot]
 | succ q ih =>
  intro k i s hi hk hs0 hs1; obtain ⟨k, rfl⟩ : ∃ z, k = z + 1 := ⟨k - 1, by omega⟩
  have h1 : i < m.length := by omega
  have h2 : i < l.length := by omega
  have hf := Qbz (h.ok l[i] (List.getElem_mem h2)); have hx := h.m12 m[i] (List.getElem_mem h1); have hp := Qa6 hx.1 hx.2 hf.1 hf.2; simp only [Qj.l0, Zw.f]; rw [if_pos (by omega), if_pos (by omega), if_pos (by omega), if_pos (by omega), Qa8 h2, YT h1, Qbc h2 h1]; simp only [Option.bind_some]; have e : l[i].f2 = Qa0 l[i] := rfl; rw [e, w64 (x := m[i] * Qa0 l[i]) (by omega), w64 (x := s + m[i] * Qa0 l[i]) (by omega), w64 (by omega), show ((i : Int) + 1) = ((i + 1 : Nat) : Int) by omega, ih k (i + 1) _ (by omega) (by omega) (by omega) (by omega), Int.add_assoc]
theorem Qcq {l : List S100} {m : List Int} (h : Mx l m) (a b c d e : Int) {k : Nat} (hk : m.length < k) : Qj.f k a b c d e l m = some (tot Qa0 l m) := by
 unfold Qj.f; have := Qck l m h a b c d e m.length k 0 0 (by omega) hk (by omega) (by omega)
 simpa using this
theorem Qc1 {s : S100} (h : okS s = true) : 0 ≤ Qa5 s ∧ Qa5 s ≤ 500 := by
 unfold okS at h; rw [decide_eq_true_iff] at h; unfold Qa5; omega
def lo (l : List S100) (b d : Int) (m : List Int) : Int := tot Qa4 l m - upN b d
def hi (l : List S100) (a c : Int) (m : List Int) : Int := tot Qa7 l m - upN a c
theorem opnM0 {l : List S100} {a b c d e : Int} {m : List Int} (h : opnM l a b c d e m = 0) : opn l a b c d e = 0 ∧ fit l m = true := by
 unfold opnM at h
 split at h
 ·rename_i h1
  refine ⟨h1, ?_⟩
  cases hf : fit l m with
  | true => rfl
  | false => rw [hf] at h; cases h
 ·rename_i h1; exact absurd h h1
theorem Qb3 {l : List S100} {m : List Int} (hm : Mx l m) {a b c d e : Int} (hc : okC a b c d e = true) {k : Nat} (hk : m.length < k) : QS.f k a b c d e l m = some (lo l b d m, hi l a c m) := by
 obtain ⟨h1, h2, h3⟩ := Qb7 hc; have g1 := Qbt h1.1 h1.2.1 h2.1 h2.2.1; have g2 := Qbt h1.2.2.1 h1.2.2.2 h2.2.2.1 h2.2.2.2; have g3 := Qb2 hm; have g4 := Qb9 hm; unfold QS.f; rw [Qbs hc, Qc0 hm _ _ _ _ _ hk, most_eq hm _ _ _ _ _ hk]; simp only [Option.bind_some]; rw [w64 (by omega), w64 (by omega)]; rfl
theorem Qcj {l : List S100} {a b c d e : Int} {m : List Int} (h : opnM l a b c d e m = 0) : Mx l m ∧ okC a b c d e = true := by
 obtain ⟨h1, h2⟩ := opnM0 h; obtain ⟨h3, h4⟩ := opn0 h1; obtain ⟨h5, h6, h7⟩ := chk0 h3; exact ⟨Qco h6 h7 h2, h4⟩
theorem Qca (l : List S100) (a b c d e : Int) (m : List Int) {k : Nat} (hk : m.length < k) : JE.f k l a b c d e m = some (if opnM l a b c d e m = 0 then (lo l b d m, hi l a c m, 0) else (0, 0, opnM l a b c d e m)) := by
 unfold JE.f; rw [Qbq _ _ _ _ _ _ _ hk]; simp only [Option.bind_some]; by_cases h : opnM l a b c d e m = 0
 ·obtain ⟨h1, h2⟩ := Qcj h
  rw [if_pos h, if_pos h, Qb3 h1 h2 hk]; rfl
 ·rw [if_neg h, if_neg h]
theorem Qcl (l : List S100) (a b c d e : Int) (m : List Int) {k : Nat} (hk : m.length < k) : Q0.f k l a b c d e m = some (if opnM l a b c d e m = 0 then (decide (lo l b d m ≥ 0), decide (hi l a c m ≥ 0), decide (tot Qa0 l m > e), 0) else (false, false, false, opnM l a b c d e m)) := by
 unfold Q0.f; rw [Qbq _ _ _ _ _ _ _ hk]; simp only [Option.bind_some]; by_cases h : opnM l a b c d e m = 0
 ·obtain ⟨h1, h2⟩ := Qcj h
  rw [if_pos h, if_pos h, Qb3 h1 h2 hk, Qcq h1 _ _ _ _ _ hk]; rfl
 ·rw [if_neg h, if_neg h]
def catL {β : Type} (g : Nat → List β) : Nat → List β
 | 0 => []
 | n + 1 => catL g n ++ g n
def allA (l : List S100) : Nat → List Int → List (List Int)
 | 0, m => catL (fun p => [m ++ [(p : Int)]]) ((Qf l m.length).f3 + 1).toNat
 | d + 1, m => catL (fun p => allA l d (m ++ [(p : Int)])) ((Qf l m.length).f3 + 1).toNat
def upd (l : List S100) (b d e : Int) (x : List Int × Bool) (m : List Int) : List Int × Bool :=
 if lo l b d m ≥ 0 ∧ tot Qa0 l m ≤ e ∧ (x.2 = false ∨ tot Qa5 l m < tot Qa5 l x.1) then (m, true) else x
def updS (l : List S100) (e : Int) (x : List Int × Bool) (m : List Int) : List Int × Bool :=
 if tot Qa0 l m ≤ e ∧ (x.2 = false ∨ tot Qa5 l m < tot Qa5 l x.1) then (m, true) else x
theorem Qbo (f : S100 → Int) (l : List S100) (m : List Int) (p : Int) (h : m.length < l.length) : tot f l (m ++ [p]) = tot f l m + p * f (Qf l m.length) := by
 rw [Qa8 h]; unfold tot
 induction m generalizing l with
 | nil =>
  cases l with
  | nil => simp at h
  | cons s l => simp
 | cons x m ih =>
  cases l with
  | nil => simp at h
  | cons s l =>
   simp only [List.length_cons] at h; have := ih l (by omega); simp only [List.cons_append, List.zip_cons_cons, List.map_cons, List.sum_cons, List.length_cons, List.getElem_cons_succ]; rw [this, Int.add_assoc]
theorem block (l : List S100) (b d e : Int) (m : List Int) (hm : m.length < l.length) (hs : okS (Qf l m.length) = true) (r : Int) (hr0 : 0 ≤ r)
  (hlt : ∀ n, 0 ≤ n → n < r → ¬ n * (Qf l m.length).f0.f0 ≥ upN b d - tot Qa4 l m) (hge : r ≤ (Qf l m.length).f3 → r * (Qf l m.length).f0.f0 ≥ upN b d - tot Qa4 l m) (n : Nat) (hn : (n : Int) ≤ (Qf l m.length).f3 + 1) (x : List Int × Bool) :
  (catL (fun p => [m ++ [(p : Int)]]) n).foldl (upd l b d e) x = if r < n then updS l e x (m ++ [r]) else x := by
 generalize hsd : Qf l m.length = s at *; have hs' := hs; unfold okS at hs'; rw [decide_eq_true_iff] at hs'
 have hlo : ∀ p : Int, lo l b d (m ++ [p]) = p * s.f0.f0 - (upN b d - tot Qa4 l m) := fun p => by
  unfold lo; rw [Qbo _ _ _ _ hm, hsd]; unfold Qa4; omega
 have hst : ∀ p : Int, tot Qa0 l (m ++ [p]) = tot Qa0 l m + p * s.f2 := fun p => by rw [Qbo _ _ _ _ hm, hsd]; rfl
 have hpr : ∀ p : Int, tot Qa5 l (m ++ [p]) = tot Qa5 l m + p * s.f1 := fun p => by rw [Qbo _ _ _ _ hm, hsd]; rfl
 induction n with
 | zero => rw [if_neg (by omega)]; rfl
 | succ n ih =>
  unfold catL; rw [List.foldl_append, ih (by omega)]; simp only [List.foldl_cons, List.foldl_nil]; by_cases h1 : r < (n : Int)
  ·rw [if_pos h1, if_pos (by omega)]
   have hst' : r * s.f2 ≤ n * s.f2 := Int.mul_le_mul_of_nonneg_right (by omega) (by omega); have hpr' : r * s.f1 ≤ n * s.f1 := Int.mul_le_mul_of_nonneg_right (by omega) (by omega); unfold upd; rw [if_neg]; rintro ⟨_, h3, h4⟩; unfold updS at h4; rw [hst] at h3
   split at h4
   ·simp only at h4
    rcases h4 with h4 | h4
    ·cases h4
    ·rw [hpr, hpr] at h4; omega
   ·rename_i h5
    apply h5
    refine ⟨by rw [hst]; omega, ?_⟩
    rcases h4 with h4 | h4
    ·exact .inl h4
    ·right; rw [hpr] at h4 ⊢; omega
  ·rw [if_neg h1]
   by_cases h2 : r = (n : Int)
   ·rw [if_pos (by omega)]
    unfold upd updS; have := hge (by omega); subst h2; by_cases h3 : tot Qa0 l (m ++ [(n : Int)]) ≤ e ∧ (x.2 = false ∨ tot Qa5 l (m ++ [(n : Int)]) < tot Qa5 l x.1)
    ·rw [if_pos ⟨by rw [hlo]; omega, h3⟩, if_pos h3]
    ·rw [if_neg (fun h => h3 h.2), if_neg h3]
   ·rw [if_neg (by omega)]
    unfold upd; rw [if_neg]; rintro ⟨h3, _⟩; have := hlt n (by omega) (by omega); rw [hlo] at h3; omega
theorem Mx.snoc {l : List S100} {m : List Int} (h : Mx l m) (hm : m.length < l.length) {p : Int} (h0 : 0 ≤ p) (h1 : p ≤ 12) : Mx l (m ++ [p]) :=
 ⟨h.ok, by simp; omega, h.l4, fun x hx => by
  rcases List.mem_append.1 hx with hx | hx
  ·exact h.m12 x hx
  ·rw [List.mem_singleton.1 hx]; exact ⟨h0, h1⟩⟩
theorem Qch {s : S100} (h : okS s = true) : 0 ≤ s.f3 ∧ s.f3 ≤ 12 := by unfold okS at h; rw [decide_eq_true_iff] at h; omega
def best (l : List S100) (b d e : Int) : List Int × Bool := (allA l (l.length - 1) []).foldl (upd l b d e) ([], false)
theorem Qbf {l : List S100} {m : List Int} : fit l m = true ↔ m.length = l.length ∧ ∀ i (h : i < m.length), 0 ≤ m[i] ∧ m[i] ≤ (Qf l (i : Int)).f3 := by
 unfold fit; rw [Bool.and_eq_true, decide_eq_true_iff, List.all_eq_true]
 constructor
 ·rintro ⟨h1, h2⟩
  refine ⟨h1, fun i h => ?_⟩; have := h2 ((l.zip m)[i]'(by simp; omega)) (List.getElem_mem _); rw [List.getElem_zip, decide_eq_true_iff] at this; rw [Qa8 (by omega)]; exact this
 ·rintro ⟨h1, h2⟩
  refine ⟨h1, fun x hx => ?_⟩; obtain ⟨i, hi, rfl⟩ := List.getElem_of_mem hx; rw [List.getElem_zip, decide_eq_true_iff]; have := h2 i (by simp at hi; omega); rw [Qa8 (by simp at hi; omega)] at this; exact this
def okK (c : S26) : Bool := okC c.f0.f0 c.f0.f1 c.f1.f0 c.f1.f1 c.f2
end Go.Proofs.YtjaapkkpmegkfaaGreat.P
namespace Go.Proofs.YtjaapkkpmegkfaaGreat.P
open Go.RowKit Go.ChangeShapes Go.WideShapes Go.Deep Go.Proofs.YtjaapkkpmegkfaaGreatW.PrintWords Go.Proofs.YtjaapkkpmegkfaaGreatW.PrintLast Go.Proofs.YtjaapkkpmegkfaaGreatW.PrintMore
structure Qa2 {α : Type} (P : Program) (d : Kd α) (t : TypeId) (B : α → Prop) : Prop where
 sz : P.cellsOf t = d.sz
 op : ∀ (H : Type) (enc : TypeId × Value → H) (w : World) (base : Nat) (spare : Nat → Bool) (held : Bool) (n : Nat) (cs : List Value) (x : DataW H × List MemPlace), DataW.trod enc P w base spare held n t cs = some x → ∃ p, d.K w p cs ∧ B p
theorem Qa2.int {P : Program} {t : TypeId} {k : IntKind} (ht : P.underlying t = some (.int k)) (hc : P.cellsOf t = 1) : Qa2 P (Kd.int k) t (fun n => (Lit.int k n).wf = true) :=
 ⟨hc, fun H enc w base spare held n cs x h => by
  obtain ⟨m, rfl, _, hw⟩ := DataW.trod_int ht h; exact ⟨m, rfl, hw⟩⟩
theorem Qbl {α : Type} {Q : Nat → α → Prop} : ∀ (n : Nat), (∀ i, i < n → ∃ p, Q i p) → ∃ l : List α, l.length = n ∧ ∀ i p, l[i]? = some p → Q i p
 | 0, _ => ⟨[], rfl, fun i p h => by simp at h⟩
 | n + 1, h => by
  obtain ⟨l, hl, hq⟩ := Qbl n (fun i hi => h i (by omega)); obtain ⟨p, hp⟩ := h n (by omega); refine ⟨l ++ [p], by simp [hl], fun i q hi => ?_⟩
  rcases Nat.lt_or_ge i l.length with h1 | h1
  ·rw [List.getElem?_append_left h1] at hi
   exact hq i q hi
  ·have : i = n := by
    have := (List.getElem?_eq_some_iff.1 hi).1
    simp at this
    omega
   subst this; rw [List.getElem?_append_right h1, hl, Nat.sub_self] at hi; obtain rfl : p = q := by simpa using hi
   exact hp
theorem Qa2.slice {α : Type} {P : Program} {d : Kd α} {t e : TypeId} {B : α → Prop} (h : Qa2 P d e B) (ht : P.underlying t = some (.slice e)) (hc : P.cellsOf t = 1) : Qa2 P (Kd.slice e d) t (fun l => ∀ x ∈ l, B x) :=
 ⟨hc, fun H enc w base spare held n cs x hx => by
  rcases open_slice ht hx with ⟨rfl, _⟩ | ⟨a, len, cap, m, n', D, Pl, rfl, hb, hl, hm, hmm, _, hi⟩
  ·exact ⟨[], ⟨none, 0, rfl, Nat.le_refl _, Kd.C_nil _ _⟩, fun x hx => by cases hx⟩
  ·obtain ⟨l, hll, hq⟩ := Qbl (Q := fun i p => (∃ cs', d.K w p cs' ∧ ∀ j, j < d.sz → w.cell? (a.add (i * d.sz + j)) = cs'[j]?) ∧ B p) len (fun i hi' => by
    obtain ⟨cs', hcs, htr⟩ := hi i (by rw [hmm]; split <;> omega); obtain ⟨p, hk, hp⟩ := h.op H enc w base spare held n' cs' _ htr; obtain ⟨_, hcl, hat⟩ := World.cells?_some hcs; rw [h.sz] at hat
    exact ⟨p, ⟨cs', hk, fun j hj => by
     have := hat j hj; rw [Go.Deep.add_add] at this; exact this⟩, hp⟩)
   refine ⟨l, ⟨some a, cap, by rw [hll], by rw [hll]; exact hl, ⟨rfl, by rw [hll]; simp only [maxLen] at hm; omega, fun h0 => ⟨a, rfl, fun j p hj => ?_⟩⟩⟩, fun x hx => ?_⟩
   ·obtain ⟨⟨cs', hk, hat⟩, _⟩ := hq j p hj
    refine ⟨cs', d.K_len hk, hk, fun i u hu => ?_⟩; have hi' : i < d.sz := by have := (List.getElem?_eq_some_iff.1 hu).1; rw [d.K_len hk] at this; exact this
    rw [hat i hi', hu]
   ·obtain ⟨i, hi'⟩ := List.getElem?_of_mem hx
    exact (hq i x hi').2⟩
def Qa1 {α : Type} (P : Program) (fs : Array Field) (j off : Nat) (d : Kd α) (B : α → Prop) : Prop :=
 ∀ (H : Type) (enc : TypeId × Value → H) (w : World) (base : Nat) (spare : Nat → Bool) (held : Bool) (n : Nat) (cs : List Value) (xs : List (DataW H × List MemPlace)), xs.length = fs.size →
  (∀ (i : Nat) (f : Field), fs[i]? = some f → DataW.trod enc P w base spare held n f.type ((cs.drop f.offset).take (P.cellsOf f.type)) = xs[i]?) → ∃ p, d.K w p ((cs.drop off).take d.sz) ∧ B p
theorem Qa1.one {α : Type} {P : Program} {fs : Array Field} {j off : Nat} {d : Kd α} {B : α → Prop} (f : Field) (hf : fs[j]? = some f) (ho : f.offset = off) (h : Qa2 P d f.type B) : Qa1 P fs j off d B := by
 intro H enc w base spare held n cs xs hl hx; have h1 := hx j f hf; have hj : j < xs.length := by rw [hl]; exact (Array.getElem?_eq_some_iff.1 hf).1
 rw [List.getElem?_eq_getElem hj, ho, h.sz] at h1; exact h.op H enc w base spare held n _ _ h1
theorem Qa1.cons {α β : Type} {P : Program} {fs : Array Field} {j off : Nat} {d : Kd α} {d' : Kd β} {B : α → Prop} {B' : β → Prop} (h : Qa1 P fs j off d B) (h' : Qa1 P fs (j + 1) (off + d.sz) d' B') : Qa1 P fs j off (Kd.pair d d') (fun p => B p.1 ∧ B' p.2) := by
 intro H enc w base spare held n cs xs hl hx; obtain ⟨p, h1, h2⟩ := h H enc w base spare held n cs xs hl hx; obtain ⟨q, h3, h4⟩ := h' H enc w base spare held n cs xs hl hx; refine ⟨(p, q), ⟨_, _, ?_, h1, h3⟩, h2, h4⟩; show (cs.drop off).take (d.sz + d'.sz) = _; rw [List.take_add, List.drop_drop]
theorem Qa1.iso {α β : Type} {P : Program} {fs : Array Field} {j off : Nat} {d : Kd α} {B : α → Prop} (h : Qa1 P fs j off d B) (f : β → α) (g : α → β) (hg : ∀ a, f (g a) = a) : Qa1 P fs j off (Kd.iso d f) (fun y => B (f y)) := by
 intro H enc w base spare held n cs xs hl hx; obtain ⟨p, h1, h2⟩ := h H enc w base spare held n cs xs hl hx; exact ⟨g p, by show d.K w (f (g p)) _; rw [hg]; exact h1, by show B (f (g p)); rw [hg]; exact h2⟩
theorem Qa2.struct {α : Type} {P : Program} {fs : Array Field} {d : Kd α} {t : TypeId} {B : α → Prop} (h : Qa1 P fs 0 0 d B) (ht : P.underlying t = some (.struct fs)) (hc : P.cellsOf t = d.sz) : Qa2 P d t B :=
 ⟨hc, fun H enc w base spare held n cs x hx => by
  obtain ⟨xs, n', _, _, hcl, hl, hf⟩ := DataW.trod_struct ht hx; obtain ⟨p, h1, h2⟩ := h H enc w base spare held n' cs xs hl hf; refine ⟨p, ?_, h2⟩; rw [List.drop_zero, List.take_of_length_le (by rw [hcl, hc]; exact Nat.le_refl _)] at h1; exact h1⟩
theorem Qa2.array {α : Type} {P : Program} {fs : Array Field} {d : Kd α} {t e : TypeId} {n : Nat} {B : α → Prop} (h : Qa1 P fs 0 0 d B) (ht : P.underlying t = some (.array n e)) (hc : P.cellsOf t = d.sz) (he : P.cellsOf e = 1) (hn : fs.size = n) (hf : ∀ i : Fin fs.size, fs[i].type = e ∧ fs[i].offset = i.val) : Qa2 P d t B :=
 ⟨hc, fun H enc w base spare held n' cs x hx => by
  obtain ⟨xs, m, _, _, hcl, hl, hg⟩ := DataW.trod_array ht hx
  obtain ⟨p, h1, h2⟩ := h H enc w base spare held m cs xs (by rw [hl, hn]) (fun i f hi => by
   obtain ⟨hi', rfl⟩ := Array.getElem?_eq_some_iff.1 hi; obtain ⟨e1, e2⟩ := hf ⟨i, hi'⟩; have e1' : fs[i].type = e := e1; have e2' : fs[i].offset = i := e2; have := hg i (by rw [← hn]; exact hi'); rw [he, Nat.mul_one] at this; rw [e1', e2', he]; exact this)
  refine ⟨p, ?_, h2⟩; rw [List.drop_zero, List.take_of_length_le (by rw [hcl, hc]; exact Nat.le_refl _)] at h1; exact h1⟩
theorem Qa2.arg_slice {α : Type} {P : Program} {d : Kd α} {t e : TypeId} {B : List α → Prop} (h : Qa2 P (Kd.slice e d) t B) {H : Type} {enc : TypeId × Value → H} {w : World} {base : Nat} {spare : Nat → Bool} {held : Bool} {v : Value} {x : DataW H} {ps : List MemPlace} {a : Option Addr} {len cap : Nat} (hv : v = .slice a len cap) (hx : DataW.Trod enc P w base spare held t v x ps) :
  ∃ l : List α, len = l.length ∧ l.length ≤ cap ∧ Kd.C d w a l.length l ∧ B l := by
 obtain ⟨n, hn⟩ := hx; subst hv; obtain ⟨l, ⟨A, c, he, hl, hr⟩, hb⟩ := h.op H enc w base spare held n _ _ hn; have he' : Value.slice a len cap = .slice A l.length c := by simpa [Value.cells] using he
 cases he'
 exact ⟨l, rfl, hl, hr, hb⟩
theorem Qa2.arg {α : Type} {P : Program} {d : Kd α} {t : TypeId} {B : α → Prop} (h : Qa2 P d t B) {H : Type} {enc : TypeId × Value → H} {w : World} {base : Nat} {spare : Nat → Bool} {held : Bool} {v : Value} {x : DataW H} {ps : List MemPlace} (hx : DataW.Trod enc P w base spare held t v x ps) :
  ∃ p : α, d.K w p v.cells.toList ∧ B p := by
 obtain ⟨n, hn⟩ := hx; exact h.op H enc w base spare held n _ _ hn
theorem Qcm {v : Value} {l : List Value} (h : v.cells.toList = l) (hl : 2 ≤ l.length) : v = .agg l.toArray := by
 cases v with
 | agg x => simp only [Value.cells] at h; rw [← h]
 | _ => simp only [Value.cells] at h; subst h; simp at hl
end Go.Proofs.YtjaapkkpmegkfaaGreat.P
namespace Go.Proofs.YtjaapkkpmegkfaaGreat.P
open Go.RowKit Go.Proofs.YtjaapkkpmegkfaaGreatW.PrintWords
def IsK (k : IntKind) (n : Int) : Prop := (Lit.int k n).wf = true
theorem O_u8 : Qa2 Tryz.prog (Kd.int .u8) 5 (IsK .u8) := Qa2.int Tryz.underlying5 (by kernel_rfl)
def B89 (x : S89) : Prop := (IsK .u8) x.f0 ∧ (IsK .u8) x.f1 ∧ (IsK .u8) x.f2 ∧ (IsK .u8) x.f3 ∧ (IsK .u8) x.f4
theorem O89 : Qa2 Tryz.prog k89 89 B89 := by
 refine Qa2.array (fs := #[⟨"", 5, 0, false, "", "", 0⟩, ⟨"", 5, 1, false, "", "", 0⟩, ⟨"", 5, 2, false, "", "", 0⟩, ⟨"", 5, 3, false, "", "", 0⟩, ⟨"", 5, 4, false, "", "", 0⟩]) ?_ Tryz.underlying89 (by kernel_rfl) (by kernel_rfl) rfl (by decide); refine Qa1.iso (d := (Kd.pair (Kd.int .u8) (Kd.pair (Kd.int .u8) (Kd.pair (Kd.int .u8) (Kd.pair (Kd.int .u8) (Kd.int .u8)))))) (B := fun p => (IsK .u8) p.1 ∧ (IsK .u8) p.2.1 ∧ (IsK .u8) p.2.2.1 ∧ (IsK .u8) p.2.2.2.1 ∧ (IsK .u8) p.2.2.2.2) ?_ (fun x : S89 => (x.f0, x.f1, x.f2, x.f3, x.f4)) (fun p => ⟨p.1, p.2.1, p.2.2.1, p.2.2.2.1, p.2.2.2.2⟩) (fun _ => rfl); refine Qa1.cons (B := IsK .u8) (B' := fun p : Int × Int × Int × Int => (IsK .u8) p.1 ∧ (IsK .u8) p.2.1 ∧ (IsK .u8) p.2.2.1 ∧ (IsK .u8) p.2.2.2) ?_ ?_
 ·exact Qa1.one _ rfl rfl O_u8
 refine Qa1.cons (B := IsK .u8) (B' := fun p : Int × Int × Int => (IsK .u8) p.1 ∧ (IsK .u8) p.2.1 ∧ (IsK .u8) p.2.2) ?_ ?_
 ·exact Qa1.one _ rfl rfl O_u8
 refine Qa1.cons (B := IsK .u8) (B' := fun p : Int × Int => (IsK .u8) p.1 ∧ (IsK .u8) p.2) ?_ ?_
 ·exact Qa1.one _ rfl rfl O_u8
 refine Qa1.cons (B := IsK .u8) (B' := fun p : Int => (IsK .u8) p) ?_ ?_
 ·exact Qa1.one _ rfl rfl O_u8
 exact Qa1.one _ rfl rfl O_u8
def B91 (x : S91) : Prop := (fun l => ∀ x ∈ l, (B89) x) x.f0 ∧ (B89) x.f1
theorem O91 : Qa2 Tryz.prog k91 91 B91 := by
 refine Qa2.struct ?_ Tryz.underlying91 (by kernel_rfl); refine Qa1.iso (d := (Kd.pair (Kd.slice 89 k89) k89)) (B := fun p => (fun l => ∀ x ∈ l, (B89) x) p.1 ∧ (B89) p.2) ?_ (fun x : S91 => (x.f0, x.f1)) (fun p => ⟨p.1, p.2⟩) (fun _ => rfl); refine Qa1.cons (B := fun l => ∀ x ∈ l, (B89) x) (B' := fun p : S89 => (B89) p) ?_ ?_
 ·exact Qa1.one _ rfl rfl (Qa2.slice O89 Tryz.underlying88 (by kernel_rfl))
 exact Qa1.one _ rfl rfl O89
end Go.Proofs.YtjaapkkpmegkfaaGreat.P
namespace Go.Proofs.YtjaapkkpmegkfaaGreat.P
open Go.RowKit Go.Shelf Go.Proofs.YtjaapkkpmegkfaaGreatW.PrintWords Go.Proofs.YtjaapkkpmegkfaaGreatW.PrintLast Go.Proofs.YtjaapkkpmegkfaaGreatW.PrintMore
def byte (x : Int) : Prop := 0 ≤ x ∧ x ≤ 255
def Qa9 (x : S89) : Prop := byte x.f0 ∧ byte x.f1 ∧ byte x.f2 ∧ byte x.f3 ∧ byte x.f4
theorem rdV_nat {l : List S89} {i : Nat} (h : i < l.length) : Qas l (i : Int) = l[i] := by simp [Qas, List.getD_eq_getElem?_getD, List.getElem?_eq_getElem h]
theorem Qba {x c : Int} (h : 0 ≤ x) : Int.tmod x c = x % c := Int.tmod_eq_emod_of_nonneg h
theorem Qbd {x : Int} (h : IsK .u8 x) : byte x := by
 unfold IsK at h
 simp [Lit.wf, IntKind.min, IntKind.max, IntKind.signed, IntKind.bits] at h
 unfold byte; omega
theorem Qby {v : S89} (h : B89 v) : Qa9 v := ⟨Qbd h.1, Qbd h.2.1, Qbd h.2.2.1, Qbd h.2.2.2.1, Qbd h.2.2.2.2⟩
def Qbh (v : S89) : S100 := ⟨⟨v.f0 % 40, v.f0 % 40 + v.f1 % 9⟩, v.f2 % 40, v.f3 % 12, v.f4 % 8⟩
def sort0 : S100 := ⟨⟨10, 12⟩, 5, 1, 6⟩
def Qbb (l : List S89) : List S100 := if l.length = 0 then [sort0] else (l.take 4).map Qbh
theorem Qcx {v : S89} (h : Qa9 v) : okS (Qbh v) = true := by
 obtain ⟨h0, h1, h2, h3, h4⟩ := h; unfold byte at *; unfold okS Qbh; rw [decide_eq_true_iff]; simp only; omega
theorem Qcd {l : List S89} (h : ∀ v ∈ l, Qa9 v) : chk (Qbb l) = 0 := by
 unfold chk Qbb; by_cases h0 : l.length = 0
 ·rw [if_pos h0]; decide
 ·rw [if_neg h0]
  have hl : ((l.take 4).map Qbh).length = min 4 l.length := by simp
  rw [if_neg (by rw [hl]; omega), if_neg (by rw [hl]; omega), if_pos]; rw [List.all_eq_true]; intro s hs; obtain ⟨v, hv, rfl⟩ := List.mem_map.1 hs; exact Qcx (h v (List.mem_of_mem_take hv))
def Qax (v : S89) : S26 := ⟨⟨1 + 4 * v.f0, 1 + 4 * v.f0 + v.f2 % 30⟩, ⟨v.f1 % 200, v.f1 % 200 + v.f3 % 20⟩, v.f4⟩
theorem Qcn {v : S89} (h : Qa9 v) : okK (Qax v) = true := by
 obtain ⟨h0, h1, h2, h3, h4⟩ := h; unfold byte at *; unfold okK okC Qax; rw [decide_eq_true_iff]; simp only; omega
theorem Qbp {v : S89} (hv : Qa9 v) (s : List S100) (i : Int) (l : List S89) (k : Nat) : Qaq.j1 (k + 1) s i false l v.f0 v.f1 v.f2 v.f3 v.f4 = some (s, (Qax v).f0.f0, (Qax v).f0.f1, (Qax v).f1.f0, (Qax v).f1.f1, (Qax v).f2) := by
 obtain ⟨h0, h1, h2, h3, h4⟩ := hv; unfold byte at *; simp only [Qaq.j1, QC.f]; rw [if_neg (by simp)]; simp only [Option.bind_some]; rw [w64 (x := v.f0) (by omega), w64 (x := v.f1) (by omega), w64 (x := v.f2) (by omega), w64 (x := v.f3) (by omega), w64 (x := v.f4) (by omega), w64 (x := 4 * v.f0) (by omega), w64 (x := 1 + 4 * v.f0) (by omega), Qba h1.1, Qba h2.1, Qba h3.1, w64 (x := 1 + 4 * v.f0 + v.f2 % 30) (by omega), w64 (x := v.f1 % 200 + v.f3 % 20) (by omega)]; rfl
theorem made_at {v : S89} (hv : Qa9 v) (l : List S89) (hl : ∀ x ∈ l, Qa9 x) (h0 : l.length ≠ 0) : ∀ (q k i : Nat), i + q = min 4 l.length → 2 * q + 2 < k →
  Qaq.l0 k ((l.take i).map Qbh) (i : Int) l v.f0 v.f1 v.f2 v.f3 v.f4 = some (Qbb l, (Qax v).f0.f0, (Qax v).f0.f1, (Qax v).f1.f0, (Qax v).f1.f1, (Qax v).f2) := by
 intro q
 induction q with
 | zero =>
  intro k i hi hk; obtain ⟨k, rfl⟩ : ∃ z, k = z + 1 + 1 := ⟨k - 2, by omega⟩
  have e : (l.take i).map Qbh = Qbb l := by
   unfold Qbb; rw [if_neg h0]; by_cases h4 : l.length ≤ 4
   ·rw [List.take_of_length_le (by omega), List.take_of_length_le h4]
   ·rw [show i = 4 by omega]
  simp only [Qaq.l0]; rw [if_neg (by omega)]; by_cases h1 : (i : Int) < (l.length : Int)
  ·rw [if_pos h1, decide_eq_false (by omega), Qbp hv, e]
  ·rw [if_neg h1, Qbp hv, e]
 | succ q ih =>
  intro k i hi hk; obtain ⟨k, rfl⟩ : ∃ z, k = z + 1 + 1 := ⟨k - 2, by omega⟩
  have hlt : i < l.length := by omega
  obtain ⟨b0, b1, b2, b3, b4⟩ := hl l[i] (List.getElem_mem hlt); unfold byte at b0 b1 b2 b3 b4
  have hj : Qaq.j1 (k + 1) ((l.take i).map Qbh) (i : Int) true l v.f0 v.f1 v.f2 v.f3 v.f4 = Qaq.l0 k ((l.take (i + 1)).map Qbh) ((i + 1 : Nat) : Int) l v.f0 v.f1 v.f2 v.f3 v.f4 := by
   simp only [Qaq.j1, QC.f]; rw [if_pos trivial, if_pos (by omega), if_pos (by omega), rdV_nat hlt]; simp only [Option.bind_some]; rw [if_pos (by simp; omega), w64 (x := l[i].f0) (by omega), w64 (x := l[i].f1) (by omega), w64 (x := l[i].f2) (by omega), w64 (x := l[i].f3) (by omega), w64 (x := l[i].f4) (by omega), Qba b0.1, Qba b1.1, Qba b2.1, Qba b3.1, Qba b4.1, w64 (x := l[i].f0 % 40 + l[i].f1 % 9) (by omega), w64 (x := (i : Int) + 1) (by omega), List.take_succ_eq_append_getElem hlt, List.map_append]; rfl
  simp only [Qaq.l0]; by_cases hz : (i : Int) = 0
  ·rw [if_pos hz, hj]
   exact ih k (i + 1) (by omega) (by omega)
  ·rw [if_neg hz, if_pos (by omega), decide_eq_true (by omega), hj]
   exact ih k (i + 1) (by omega) (by omega)
theorem made_eq (l : List S89) (hl : ∀ x ∈ l, Qa9 x) {v : S89} (hv : Qa9 v) {k : Nat} (hk : 100 < k) : Qaq.f k l v.f0 v.f1 v.f2 v.f3 v.f4 = some (Qbb l, (Qax v).f0.f0, (Qax v).f0.f1, (Qax v).f1.f0, (Qax v).f1.f1, (Qax v).f2) := by
 unfold Qaq.f; by_cases h0 : l.length = 0
 ·obtain rfl := List.length_eq_zero_iff.1 h0
  obtain ⟨k, rfl⟩ : ∃ z, k = z + 1 + 1 + 1 + 1 := ⟨k - 4, by omega⟩
  simp only [Qaq.l0]; rw [if_pos trivial]
  have hj : Qaq.j1 (k + 1 + 1 + 1) [] 0 true [] v.f0 v.f1 v.f2 v.f3 v.f4 = Qaq.l0 (k + 1 + 1) [sort0] 1 [] v.f0 v.f1 v.f2 v.f3 v.f4 := by
   simp only [Qaq.j1, QC.f]; rw [if_pos trivial, if_neg (by simp)]; simp only [Option.bind_some]; rw [if_pos (by simp), w64 (by omega)]; rfl
  rw [hj]; simp only [Qaq.l0]; rw [if_neg (by decide), if_neg (by simp), Qbp hv]; rfl
 ·exact made_at hv l hl h0 _ k 0 (Nat.zero_add _) (by omega)
theorem Qci (l : List S100) (h : l.length ≤ 100) : Qaw.f l = some l := by
 unfold Qaw.f; simp only [Option.bind_some, List.length_nil, List.nil_append]; rw [if_pos (by omega)]
def insN (lo hi n : Int) : Int := lo + n * (hi - lo) / 255
theorem Qbw {lo hi n : Int} (h : lo ≤ hi) (h0 : 0 ≤ n) (h1 : n ≤ 255) : lo ≤ insN lo hi n ∧ insN lo hi n ≤ hi := by
 have g0 : 0 ≤ n * (hi - lo) := Int.mul_nonneg h0 (by omega); have g1 : n * (hi - lo) ≤ 255 * (hi - lo) := Int.mul_le_mul_of_nonneg_right h1 (by omega); unfold insN; generalize n * (hi - lo) = p at *; omega
theorem Qbj {lo hi n : Int} (h : lo ≤ hi) (hl : -5000 ≤ lo) (hh : hi ≤ 5000) (h0 : 0 ≤ n) (h1 : n ≤ 255) : Qaz.f lo hi n = some (insN lo hi n) := by
 have g0 : 0 ≤ n * (hi - lo) := Int.mul_nonneg h0 (by omega); have g1 : n * (hi - lo) ≤ 255 * (hi - lo) := Int.mul_le_mul_of_nonneg_right h1 (by omega); unfold Qaz.f insN; rw [w64 (x := hi - lo) (by omega)]; generalize n * (hi - lo) = p at *; rw [w64 (x := p) (by omega), Int.tdiv_eq_ediv_of_nonneg g0, w64 (x := p / 255) (by omega), w64 (by omega)]
def byN (t : List Int) (i : Nat) : Int := t.getD (i % t.length) 0
theorem Qbg {t : List Int} (h : ∀ x ∈ t, byte x) (i : Nat) : 0 ≤ byN t i ∧ byN t i ≤ 255 := by
 unfold byN; by_cases hl : t.length = 0
 ·rw [List.length_eq_zero_iff.1 hl]; simp
 ·have hlt : i % t.length < t.length := Nat.mod_lt _ (by omega)
  rw [List.getD_eq_getElem?_getD, List.getElem?_eq_getElem hlt]; exact h _ (List.getElem_mem hlt)
theorem Qb1 {t : List Int} (h : ∀ x ∈ t, byte x) (i : Nat) : Qay.f t (i : Int) = some (byN t i) := by
 have hb := Qbg h i; unfold Qay.f; by_cases hl : t.length = 0
 ·rw [if_pos (by omega)]
  unfold byN; rw [List.length_eq_zero_iff.1 hl]; rfl
 ·have hlt : i % t.length < t.length := Nat.mod_lt _ (by omega)
  have e : Int.tmod (i : Int) (t.length : Int) = ((i % t.length : Nat) : Int) := by rw [Int.tmod_eq_emod_of_nonneg (by omega)]; rfl
  rw [if_neg (by omega), e, if_pos (by omega), if_pos (by omega)]; have e2 : rd t ((i % t.length : Nat) : Int) = byN t i := rfl; rw [e2, w64 (by omega)]
end Go.Proofs.YtjaapkkpmegkfaaGreat.P
