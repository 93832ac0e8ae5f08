/- Part 4 of what the law's proof needs beyond its base: words, walks of functions and plain facts. -/
import Derived.Test.YtjaapkkpmegkfaaGreatI03
set_option linter.unusedVariables false
set_option linter.unusedSimpArgs false
namespace Go.Proofs.YtjaapkkpmegkfaaGreat.P
open Go.RowKit Go.Shelf Go.Proofs.YtjaapkkpmegkfaaGreatW.PrintWords Go.Proofs.YtjaapkkpmegkfaaGreatW.PrintLast Go.Proofs.YtjaapkkpmegkfaaGreatW.PrintMore
def okS (s : S100) : Bool := decide (0 ≤ s.f0.f0 ∧ s.f0.f0 ≤ s.f0.f1 ∧ s.f0.f1 ≤ 200 ∧ 0 ≤ s.f1 ∧ s.f1 ≤ 500 ∧ 0 ≤ s.f2 ∧ s.f2 ≤ 50 ∧ 0 ≤ s.f3 ∧ s.f3 ≤ 12)
def okC (a b c d e : Int) : Bool := decide (1 ≤ a ∧ a ≤ b ∧ b ≤ 2000 ∧ 0 ≤ c ∧ c ≤ d ∧ d ≤ 300 ∧ 0 ≤ e ∧ e ≤ 500)
def chk (l : List S100) : Int := if (l.length : Int) > 4 then 5 else if (l.length : Int) = 0 then 7 else if l.all okS = true then 0 else 2
theorem chk0 {l : List S100} (h : chk l = 0) : 1 ≤ l.length ∧ l.length ≤ 4 ∧ ∀ s ∈ l, okS s = true := by
 unfold chk at h
 split at h
 ·cases h
 split at h
 ·cases h
 split at h
 ·rename_i h1 h2 h3
  exact ⟨by omega, by omega, by simpa using h3⟩
 ·cases h
theorem Qdb (s : S100) : Zk.f s.f0.f0 s.f0.f1 s.f1 s.f2 s.f3 = some (!okS s) := by
 unfold Zk.f okS; simp only [Y1, isSpan_eq, Option.bind_some, List.all_cons, List.all_nil, Bool.and_true]; by_cases h1 : 0 ≤ s.f0.f0 ∧ s.f0.f0 ≤ s.f0.f1 ∧ s.f0.f1 ≤ 200
 ·rw [if_pos (by simpa using h1)]
  by_cases h2 : 0 ≤ s.f1 ∧ s.f1 ≤ 500
  ·rw [if_pos (by simpa using h2)]
   by_cases h3 : 0 ≤ s.f2 ∧ s.f2 ≤ 50
   ·rw [if_pos (by simpa using h3)]
    congr 2
    exact decide_eq_decide.2 (by omega)
   ·rw [if_neg (by simpa using h3)]
    congr 1; symm; rw [Bool.not_eq_true', decide_eq_false_iff_not]; omega
  ·rw [if_neg (by simpa using h2)]
   congr 1; symm; rw [Bool.not_eq_true', decide_eq_false_iff_not]; omega
 ·rw [if_neg (by simpa using h1)]
  congr 1; symm; rw [Bool.not_eq_true', decide_eq_false_iff_not]; omega
theorem Qdk (l : List S100) : Jf.f l = some (chk l) := by
 unfold Jf.f chk; by_cases h1 : (l.length : Int) > 4
 ·rw [if_pos h1, if_pos h1]
 ·rw [if_neg h1, if_neg h1]
  by_cases h2 : (l.length : Int) = 0
  ·rw [if_pos h2, if_pos h2]
  ·rw [if_neg h2, if_neg h2]
   unfold Jw.f; rw [YA (p := fun s => !okS s) fun s _ => Qdb s]; simp only [Option.bind_some]; by_cases h3 : l.all okS = true
   ·rw [if_pos h3, if_neg (by simpa using h3)]
   ·rw [if_neg h3, if_pos (by simpa using h3)]
theorem Qcx (a b c d e : Int) : Jc.f a b c d e = some (okC a b c d e) := by
 unfold Jc.f okC; simp only [Y1, isSpan_eq, Option.bind_some, List.all_cons, List.all_nil, Bool.and_true]; by_cases h1 : 1 ≤ a ∧ a ≤ b ∧ b ≤ 2000
 ·rw [if_pos (by simpa using h1)]
  by_cases h2 : 0 ≤ c ∧ c ≤ d ∧ d ≤ 300
  ·rw [if_pos (by simpa using h2)]
   congr 1
   exact decide_eq_decide.2 (by omega)
  ·rw [if_neg (by simpa using h2)]
   congr 1; symm; rw [decide_eq_false_iff_not]; omega
 ·rw [if_neg (by simpa using h1)]
  congr 1; symm; rw [decide_eq_false_iff_not]; omega
def upN (a c : Int) : Int := (a * c + 999) / 1000
theorem Qba {a c A C : Int} (h0 : 0 ≤ a) (h1 : a ≤ A) (h2 : 0 ≤ c) (h3 : c ≤ C) : 0 ≤ a * c ∧ a * c ≤ A * C :=
 ⟨Int.mul_nonneg h0 h2, Int.mul_le_mul h1 h3 h2 (by omega)⟩
theorem up_eq {a c : Int} (h0 : 0 ≤ a) (h1 : a ≤ 2000) (h2 : 0 ≤ c) (h3 : c ≤ 300) : Zn.f a c = some (upN a c) := by
 have h := Qba h0 h1 h2 h3; unfold Zn.f upN; rw [w64 (x := a * c) (by omega), w64 (x := a * c + 999) (by omega), Int.tdiv_eq_ediv_of_nonneg (by omega), w64 (by omega)]
theorem Qco {a c : Int} (h0 : 0 ≤ a) (h1 : a ≤ 2000) (h2 : 0 ≤ c) (h3 : c ≤ 300) : 0 ≤ upN a c ∧ upN a c ≤ 600 := by
 have h := Qba h0 h1 h2 h3; unfold upN; omega
theorem Qcr {a b c d e : Int} (h : okC a b c d e = true) : (0 ≤ a ∧ a ≤ 2000 ∧ 0 ≤ b ∧ b ≤ 2000) ∧ (0 ≤ c ∧ c ≤ 300 ∧ 0 ≤ d ∧ d ≤ 300) ∧ 0 ≤ e ∧ e ≤ 500 := by
 unfold okC at h; rw [decide_eq_true_iff] at h; omega
theorem Qb3 {a b c d e : Int} (h : okC a b c d e = true) (l : List S100) : QP.f a b c d e l = some (upN a c, upN b d) := by
 obtain ⟨h1, h2, h3⟩ := Qcr h; unfold QP.f; rw [up_eq h1.1 h1.2.1 h2.1 h2.2.1, up_eq h1.2.2.1 h1.2.2.2 h2.2.2.1 h2.2.2.2]; rfl
def opn (l : List S100) (a b c d e : Int) : Int := if chk l = 0 then if okC a b c d e = true then 0 else 3 else chk l
theorem Qb5 (l : List S100) (a b c d e : Int) : Jd.f l a b c d e = some (a, b, c, d, e, l, opn l a b c d e) := by
 unfold Jd.f opn; rw [Qdk]; simp only [Option.bind_some]; by_cases h : chk l = 0
 ·rw [if_pos h, Qcx]
  simp only [Option.bind_some]; by_cases h2 : okC a b c d e = true
  ·rw [if_pos h2, if_pos h, if_pos h2, h]
  ·rw [if_neg h2, if_pos h, if_neg h2]
 ·rw [if_neg h, if_neg h]
theorem Qa6 {l : List S100} {i : Nat} (h : i < l.length) : Qf l (i : Int) = l[i] := by simp [Qf, List.getD_eq_getElem?_getD, List.getElem?_eq_getElem h]
def fit (l : List S100) (m : List Int) : Bool := decide (m.length = l.length) && (l.zip m).all fun x => decide (0 ≤ x.2 ∧ x.2 ≤ x.1.f3)
theorem Qc5 (l : List S100) (m : List Int) (hl : m.length = l.length) (h4 : l.length ≤ 1000) (a b c d e : Int) (l' : List S100) : ∀ (q k i : Nat), i + q = m.length → q < k →
  QJ.l0 k l m (m.length : Int) (i : Int) a b c d e l' = some (a, b, c, d, e, l', cond (((l.zip m).drop i).all fun x => decide (0 ≤ x.2 ∧ x.2 ≤ x.1.f3)) 0 4) := by
 intro q
 induction q with
 | zero =>
  intro k i hi hk; obtain ⟨k, rfl⟩ : ∃ z, k = z + 1 := ⟨k - 1, by omega⟩
  simp only [QJ.l0]; rw [if_neg (by omega), List.drop_of_length_le (by simp; omega)]
  simp
 | succ q ih =>
  intro k i hi hk; obtain ⟨k, rfl⟩ : ∃ z, k = z + 1 := ⟨k - 1, by omega⟩
  have h1 : i < m.length := by omega
  have h2 : i < l.length := by omega
  have hz : i < (l.zip m).length := by simp; omega
  simp only [QJ.l0]; rw [if_pos (by omega), if_pos (by omega), if_pos (by omega), if_pos (by omega), Qa6 h2, YT h1, Y1, w64 (by omega), show ((i : Int) + 1) = ((i + 1 : Nat) : Int) by omega, ih k (i + 1) (by omega) (by omega), List.drop_eq_getElem_cons hz, List.all_cons, List.getElem_zip]; simp only [Option.bind_some, List.all_cons, List.all_nil, Bool.and_true]; by_cases h : 0 ≤ m[i] ∧ m[i] ≤ l[i].f3
  ·rw [if_pos (by simpa using h)]
   rw [decide_eq_true h, Bool.true_and]
  ·rw [if_neg (by simpa using h), decide_eq_false h, Bool.false_and]; rfl
def opnM (l : List S100) (a b c d e : Int) (m : List Int) : Int := if opn l a b c d e = 0 then cond (fit l m) 0 4 else opn l a b c d e
theorem opn0 {l : List S100} {a b c d e : Int} (h : opn l a b c d e = 0) : chk l = 0 ∧ okC a b c d e = true := by
 unfold opn at h
 split at h
 ·split at h
  ·exact ⟨by assumption, by assumption⟩
  ·cases h
 ·rename_i h1; exact absurd h h1
theorem Qcz (l : List S100) (a b c d e : Int) (m : List Int) {k : Nat} (hk : m.length < k) : QJ.f k l a b c d e m = some (a, b, c, d, e, l, opnM l a b c d e m) := by
 unfold QJ.f opnM fit; rw [Qb5]; simp only [Option.bind_some]; by_cases h : opn l a b c d e = 0
 ·rw [if_pos h, if_pos h]
  have h4 := chk0 (opn0 h).1; by_cases h2 : m.length = l.length
  ·rw [if_pos (by omega), decide_eq_true h2, Bool.true_and]
   have := Qc5 l m h2 (by omega) a b c d e l m.length k 0 (by omega) hk; exact this
  ·rw [if_neg (by omega), decide_eq_false h2, Bool.false_and]; rfl
 ·rw [if_neg h, if_neg h]
def tot (f : S100 → Int) (l : List S100) (m : List Int) : Int := ((l.zip m).map fun x => x.2 * f x.1).sum
theorem Qdd (f : S100 → Int) (B : Int) (l : List S100) (m : List Int) (hl : ∀ s ∈ l, 0 ≤ f s ∧ f s ≤ B) (hm : ∀ x ∈ m, 0 ≤ x ∧ x ≤ 12) : 0 ≤ tot f l m ∧ tot f l m ≤ 12 * B * l.length := by
 unfold tot
 induction l generalizing m with
 | nil => simp
 | cons s l ih =>
  cases m with
  | nil =>
   have := hl s (by simp); simp only [List.zip_nil_right, List.map_nil, List.sum_nil]; exact ⟨Int.le_refl _, Int.mul_nonneg (by omega) (by omega)⟩
  | cons x m =>
   have := ih m (fun s hs => hl s (by simp [hs])) fun x hx => hm x (by simp [hx])
   have h1 := hl s (by simp); have h2 := hm x (by simp); have h3 := Qba h2.1 h2.2 h1.1 h1.2; simp only [List.zip_cons_cons, List.map_cons, List.sum_cons, List.length_cons]; have h4 : 12 * B * ((l.length + 1 : Nat) : Int) = 12 * B * l.length + 12 * B := by rw [Int.natCast_add, Int.mul_add]; omega
   omega
theorem Qbf {f : S100 → Int} {l : List S100} {m : List Int} {i : Nat} (h1 : i < l.length) (h2 : i < m.length) : tot f (l.drop i) (m.drop i) = m[i] * f l[i] + tot f (l.drop (i + 1)) (m.drop (i + 1)) := by
 unfold tot; rw [List.drop_eq_getElem_cons h1, List.drop_eq_getElem_cons h2, List.zip_cons_cons, List.map_cons, List.sum_cons]
structure Mx (l : List S100) (m : List Int) : Prop where
 ok : ∀ s ∈ l, okS s = true
 len : m.length ≤ l.length
 l4 : l.length ≤ 4
 m12 : ∀ x ∈ m, 0 ≤ x ∧ x ≤ 12
theorem Qcs {l : List S100} {m : List Int} (hl : l.length ≤ 4) (ok : ∀ s ∈ l, okS s = true) (h : fit l m = true) : Mx l m := by
 unfold fit at h; rw [Bool.and_eq_true, decide_eq_true_iff] at h; obtain ⟨h1, h2⟩ := h; refine ⟨ok, by omega, hl, fun x hx => ?_⟩; obtain ⟨i, hi, rfl⟩ := List.getElem_of_mem hx; have hz : i < (l.zip m).length := by simp; omega
 have h3 := List.all_eq_true.1 h2 _ (List.getElem_mem hz); rw [List.getElem_zip, decide_eq_true_iff] at h3; have h4 := ok l[i] (List.getElem_mem (by omega)); unfold okS at h4; rw [decide_eq_true_iff] at h4; simp only at h3; omega
def Qa4 (s : S100) : Int := s.f0.f0
def Qbb (s : S100) : Int := s.f0.f1
def Qay (s : S100) : Int := s.f2
def Qax (s : S100) : Int := s.f1
theorem Qcq {s : S100} (h : okS s = true) : 0 ≤ Qa4 s ∧ Qa4 s ≤ 200 := by
 unfold okS at h; rw [decide_eq_true_iff] at h; unfold Qa4; omega
theorem Qdg (l : List S100) (m : List Int) (h : Mx l m) (a b c d e : Int) : ∀ (q k i : Nat) (s : Int), i + q = m.length → q < k → 0 ≤ s → s ≤ 12 * 200 * (i : Int) →
  Qp.l0 k s m (m.length : Int) (i : Int) a b c d e l = some (s + tot Qa4 (l.drop i) (m.drop i)) := by
 have hl := h.len; have h4 := h.l4; intro q
 induction q with
 | zero =>
  intro k i s hi hk _ _; obtain ⟨k, rfl⟩ : ∃ z, k = z + 1 := ⟨k - 1, by omega⟩
  simp only [Qp.l0]; rw [if_neg (by omega), List.drop_of_length_le (l := m) (by omega)]
  simp [tot]
 | succ q ih =>
  intro k i s hi hk hs0 hs1; obtain ⟨k, rfl⟩ : ∃ z, k = z + 1 := ⟨k - 1, by omega⟩
  have h1 : i < m.length := by omega
  have h2 : i < l.length := by omega
  have hf := Qcq (h.ok l[i] (List.getElem_mem h2)); have hx := h.m12 m[i] (List.getElem_mem h1); have hp := Qba hx.1 hx.2 hf.1 hf.2; simp only [Qp.l0, ZF.f]; rw [if_pos (by omega), if_pos (by omega), if_pos (by omega), if_pos (by omega), Qa6 h2, YT h1, Qbf h2 h1]; simp only [Option.bind_some]; have e : l[i].f0.f0 = Qa4 l[i] := rfl; rw [e, w64 (x := m[i] * Qa4 l[i]) (by omega), w64 (x := s + m[i] * Qa4 l[i]) (by omega), w64 (by omega), show ((i : Int) + 1) = ((i + 1 : Nat) : Int) by omega, ih k (i + 1) _ (by omega) (by omega) (by omega) (by omega), Int.add_assoc]
theorem Qch {l : List S100} {m : List Int} (h : Mx l m) (a b c d e : Int) {k : Nat} (hk : m.length < k) : Qp.f k a b c d e l m = some (tot Qa4 l m) := by
 unfold Qp.f; have := Qdg l m h a b c d e m.length k 0 0 (by omega) hk (by omega) (by omega)
 simpa using this
theorem Qcl {l : List S100} {m : List Int} (h : Mx l m) : 0 ≤ tot Qa4 l m ∧ tot Qa4 l m ≤ 100000 := by
 have := Qdd Qa4 200 l m (fun s hs => Qcq (h.ok s hs)) h.m12; have := h.l4; omega
theorem Qcu {s : S100} (h : okS s = true) : 0 ≤ Qbb s ∧ Qbb s ≤ 200 := by
 unfold okS at h; rw [decide_eq_true_iff] at h; unfold Qbb; omega
theorem most_at (l : List S100) (m : List Int) (h : Mx l m) (a b c d e : Int) : ∀ (q k i : Nat) (s : Int), i + q = m.length → q < k → 0 ≤ s → s ≤ 12 * 200 * (i : Int) →
  Qw.l0 k s m (m.length : Int) (i : Int) a b c d e l = some (s + tot Qbb (l.drop i) (m.drop i)) := by
 have hl := h.len; have h4 := h.l4; intro q
 induction q with
 | zero =>
  intro k i s hi hk _ _; obtain ⟨k, rfl⟩ : ∃ z, k = z + 1 := ⟨k - 1, by omega⟩
  simp only [Qw.l0]; rw [if_neg (by omega), List.drop_of_length_le (l := m) (by omega)]
  simp [tot]
 | succ q ih =>
  intro k i s hi hk hs0 hs1; obtain ⟨k, rfl⟩ : ∃ z, k = z + 1 := ⟨k - 1, by omega⟩
  have h1 : i < m.length := by omega
  have h2 : i < l.length := by omega
  have hf := Qcu (h.ok l[i] (List.getElem_mem h2)); have hx := h.m12 m[i] (List.getElem_mem h1); have hp := Qba hx.1 hx.2 hf.1 hf.2; simp only [Qw.l0, ZU.f]; rw [if_pos (by omega), if_pos (by omega), if_pos (by omega), if_pos (by omega), Qa6 h2, YT h1, Qbf h2 h1]; simp only [Option.bind_some]; have e : l[i].f0.f1 = Qbb l[i] := rfl; rw [e, w64 (x := m[i] * Qbb l[i]) (by omega), w64 (x := s + m[i] * Qbb l[i]) (by omega), w64 (by omega), show ((i : Int) + 1) = ((i + 1 : Nat) : Int) by omega, ih k (i + 1) _ (by omega) (by omega) (by omega) (by omega), Int.add_assoc]
theorem most_eq {l : List S100} {m : List Int} (h : Mx l m) (a b c d e : Int) {k : Nat} (hk : m.length < k) : Qw.f k a b c d e l m = some (tot Qbb l m) := by
 unfold Qw.f; have := most_at l m h a b c d e m.length k 0 0 (by omega) hk (by omega) (by omega)
 simpa using this
theorem most_le {l : List S100} {m : List Int} (h : Mx l m) : 0 ≤ tot Qbb l m ∧ tot Qbb l m ≤ 100000 := by
 have := Qdd Qbb 200 l m (fun s hs => Qcu (h.ok s hs)) h.m12; have := h.l4; omega
theorem Qb7 {s : S100} (h : okS s = true) : 0 ≤ Qay s ∧ Qay s ≤ 50 := by
 unfold okS at h; rw [decide_eq_true_iff] at h; unfold Qay; omega
theorem Qc6 (l : List S100) (m : List Int) (h : Mx l m) (a b c d e : Int) : ∀ (q k i : Nat) (s : Int), i + q = m.length → q < k → 0 ≤ s → s ≤ 12 * 50 * (i : Int) →
  Qj.l0 k s m (m.length : Int) (i : Int) a b c d e l = some (s + tot Qay (l.drop i) (m.drop i)) := by
 have hl := h.len; have h4 := h.l4; intro q
 induction q with
 | zero =>
  intro k i s hi hk _ _; obtain ⟨k, rfl⟩ : ∃ z, k = z + 1 := ⟨k - 1, by omega⟩
  simp only [Qj.l0]; rw [if_neg (by omega), List.drop_of_length_le (l := m) (by omega)]
  simp [tot]
 | succ q ih =>
  intro k i s hi hk hs0 hs1; obtain ⟨k, rfl⟩ : ∃ z, k = z + 1 := ⟨k - 1, by omega⟩
  have h1 : i < m.length := by omega
  have h2 : i < l.length := by omega
  have hf := Qb7 (h.ok l[i] (List.getElem_mem h2)); have hx := h.m12 m[i] (List.getElem_mem h1); have hp := Qba hx.1 hx.2 hf.1 hf.2; simp only [Qj.l0, Zw.f]; rw [if_pos (by omega), if_pos (by omega), if_pos (by omega), if_pos (by omega), Qa6 h2, YT h1, Qbf h2 h1]; simp only [Option.bind_some]; have e : l[i].f2 = Qay l[i] := rfl; rw [e, w64 (x := m[i] * Qay l[i]) (by omega), w64 (x := s + m[i] * Qay l[i]) (by omega), w64 (by omega), show ((i : Int) + 1) = ((i + 1 : Nat) : Int) by omega, ih k (i + 1) _ (by omega) (by omega) (by omega) (by omega), Int.add_assoc]
theorem Qcc {l : List S100} {m : List Int} (h : Mx l m) (a b c d e : Int) {k : Nat} (hk : m.length < k) : Qj.f k a b c d e l m = some (tot Qay l m) := by
 unfold Qj.f; have := Qc6 l m h a b c d e m.length k 0 0 (by omega) hk (by omega) (by omega)
 simpa using this
theorem Qcp {s : S100} (h : okS s = true) : 0 ≤ Qax s ∧ Qax s ≤ 500 := by
 unfold okS at h; rw [decide_eq_true_iff] at h; unfold Qax; omega
theorem Qdj (l : List S100) (m : List Int) (h : Mx l m) (a b c d e : Int) : ∀ (q k i : Nat) (s : Int), i + q = m.length → q < k → 0 ≤ s → s ≤ 12 * 500 * (i : Int) →
  Qi.l0 k s m (m.length : Int) (i : Int) a b c d e l = some (s + tot Qax (l.drop i) (m.drop i)) := by
 have hl := h.len; have h4 := h.l4; intro q
 induction q with
 | zero =>
  intro k i s hi hk _ _; obtain ⟨k, rfl⟩ : ∃ z, k = z + 1 := ⟨k - 1, by omega⟩
  simp only [Qi.l0]; rw [if_neg (by omega), List.drop_of_length_le (l := m) (by omega)]
  simp [tot]
 | succ q ih =>
  intro k i s hi hk hs0 hs1; obtain ⟨k, rfl⟩ : ∃ z, k = z + 1 := ⟨k - 1, by omega⟩
  have h1 : i < m.length := by omega
  have h2 : i < l.length := by omega
  have hf := Qcp (h.ok l[i] (List.getElem_mem h2)); have hx := h.m12 m[i] (List.getElem_mem h1); have hp := Qba hx.1 hx.2 hf.1 hf.2; simp only [Qi.l0, ZE.f]; rw [if_pos (by omega), if_pos (by omega), if_pos (by omega), if_pos (by omega), Qa6 h2, YT h1, Qbf h2 h1]; simp only [Option.bind_some]; have e : l[i].f1 = Qax l[i] := rfl; rw [e, w64 (x := m[i] * Qax l[i]) (by omega), w64 (x := s + m[i] * Qax l[i]) (by omega), w64 (by omega), show ((i : Int) + 1) = ((i + 1 : Nat) : Int) by omega, ih k (i + 1) _ (by omega) (by omega) (by omega) (by omega), Int.add_assoc]
theorem Qbi {l : List S100} {m : List Int} (h : Mx l m) (a b c d e : Int) {k : Nat} (hk : m.length < k) : Qi.f k a b c d e l m = some (tot Qax l m) := by
 unfold Qi.f; have := Qdj l m h a b c d e m.length k 0 0 (by omega) hk (by omega) (by omega)
 simpa using this
def lo (l : List S100) (b d : Int) (m : List Int) : Int := tot Qa4 l m - upN b d
def hi (l : List S100) (a c : Int) (m : List Int) : Int := tot Qbb l m - upN a c
theorem opnM0 {l : List S100} {a b c d e : Int} {m : List Int} (h : opnM l a b c d e m = 0) : opn l a b c d e = 0 ∧ fit l m = true := by
 unfold opnM at h
 split at h
 ·rename_i h1
  refine ⟨h1, ?_⟩
  cases hf : fit l m with
  | true => rfl
  | false => rw [hf] at h; cases h
 ·rename_i h1; exact absurd h h1
theorem Qdq {l : List S100} {m : List Int} (hm : Mx l m) {a b c d e : Int} (hc : okC a b c d e = true) {k : Nat} (hk : m.length < k) : QS.f k a b c d e l m = some (lo l b d m, hi l a c m) := by
 obtain ⟨h1, h2, h3⟩ := Qcr hc; have g1 := Qco h1.1 h1.2.1 h2.1 h2.2.1; have g2 := Qco h1.2.2.1 h1.2.2.2 h2.2.2.1 h2.2.2.2; have g3 := Qcl hm; have g4 := most_le hm; unfold QS.f; rw [Qb3 hc, Qch hm _ _ _ _ _ hk, most_eq hm _ _ _ _ _ hk]; simp only [Option.bind_some]; rw [w64 (by omega), w64 (by omega)]; rfl
theorem opn_Mx {l : List S100} {a b c d e : Int} {m : List Int} (h : opnM l a b c d e m = 0) : Mx l m ∧ okC a b c d e = true := by
 obtain ⟨h1, h2⟩ := opnM0 h; obtain ⟨h3, h4⟩ := opn0 h1; obtain ⟨h5, h6, h7⟩ := chk0 h3; exact ⟨Qcs h6 h7 h2, h4⟩
theorem Qb9 (l : List S100) (a b c d e : Int) (m : List Int) {k : Nat} (hk : m.length < k) : Q0.f k l a b c d e m = some (if opnM l a b c d e m = 0 then (decide (lo l b d m ≥ 0), decide (hi l a c m ≥ 0), decide (tot Qay l m > e), 0) else (false, false, false, opnM l a b c d e m)) := by
 unfold Q0.f; rw [Qcz _ _ _ _ _ _ _ hk]; simp only [Option.bind_some]; by_cases h : opnM l a b c d e m = 0
 ·obtain ⟨h1, h2⟩ := opn_Mx h
  rw [if_pos h, if_pos h, Qdq h1 h2 hk, Qcc h1 _ _ _ _ _ hk]; rfl
 ·rw [if_neg h, if_neg h]
theorem Qdc (low t q s h need : Int) (hl : 0 ≤ low ∧ low ≤ 200) : ∀ (z k : Nat) (x y : Int), 0 ≤ x → x ≤ y → y ≤ 1000 → (y - x).toNat ≤ z → z < k →
  ∃ r, Qo.l0 k x y low t q s h need = some r ∧ x ≤ r ∧ r ≤ y ∧ (∀ n, x ≤ n → n < r → ¬ n * low ≥ need) ∧ (r < y → r * low ≥ need) := by
 intro z
 induction z with
 | zero =>
  intro k x y h0 h1 h2 h3 h4; obtain ⟨k, rfl⟩ : ∃ z, k = z + 1 := ⟨k - 1, by omega⟩
  refine ⟨x, ?_, by omega, by omega, fun n _ _ => by omega, fun _ => by omega⟩; simp only [Qo.l0]; rw [if_neg (by omega)]
 | succ z ih =>
  intro k x y h0 h1 h2 h3 h4; obtain ⟨k, rfl⟩ : ∃ z, k = z + 1 := ⟨k - 1, by omega⟩
  simp only [Qo.l0]; by_cases hxy : x < y
  ·rw [if_pos hxy, w64 (x := x + y) (by omega)]
   have e : IntKind.u64.wrap (x + y) = x + y := by show (x + y) % 18446744073709551616 = _; omega
   rw [e, w64 (x := (x + y) / 2) (by omega), w64 (x := (x + y) / 2 + 1) (by omega)]; generalize hm : (x + y) / 2 = m; have hm1 : x ≤ m ∧ m < y := by omega
   have hp := Qba (a := m) (A := 1000) (by omega) (by omega) hl.1 hl.2; unfold JU.f; simp only [Option.bind_some]; rw [w64 (x := m * low) (by omega)]; by_cases hc : m * low ≥ need
   ·rw [if_pos (by simpa using hc)]
    obtain ⟨r, g1, g2, g3, g4, g5⟩ := ih k x m h0 (by omega) (by omega) (by omega) (by omega); refine ⟨r, g1, g2, by omega, g4, fun _ => ?_⟩; by_cases hr : r < m
    ·exact g5 hr
    ·rw [show r = m by omega]; exact hc
   ·rw [if_neg (by simpa using hc)]
    obtain ⟨r, g1, g2, g3, g4, g5⟩ := ih k (m + 1) y (by omega) (by omega) (by omega) (by omega) (by omega); refine ⟨r, g1, by omega, g3, fun n h5 h6 => ?_, g5⟩; by_cases hn : n ≤ m
    ·intro hge
     have : n * low ≤ m * low := Int.mul_le_mul_of_nonneg_right hn hl.1; omega
    ·exact g4 n (by omega) h6
  ·rw [if_neg hxy]
   exact ⟨x, rfl, by omega, by omega, fun n _ _ => by omega, fun _ => by omega⟩
def catL {β : Type} (g : Nat → List β) : Nat → List β
 | 0 => []
 | n + 1 => catL g n ++ g n
theorem Qcw {β : Type} {f : Nat → Option (List β)} {g : Nat → List β} : ∀ {n : Nat}, (∀ p < n, f p = some (g p)) → catO f n = some (catL g n)
 | 0, _ => rfl
 | n + 1, h => by
  unfold catO catL; rw [Qcw (fun p hp => h p (by omega)), h n (by omega)]; rfl
theorem Qb6 {α β : Type} (u v : α → β → α) (f g : Nat → List β) : ∀ (n : Nat) (a : α), (∀ p < n, ∀ a, (f p).foldl u a = (g p).foldl v a) → (catL f n).foldl u a = (catL g n).foldl v a
 | 0, _, _ => rfl
 | n + 1, a, h => by
  unfold catL; rw [List.foldl_append, List.foldl_append, Qb6 u v f g n a (fun p hp => h p (by omega)), h n (by omega)]
def allA (l : List S100) : Nat → List Int → List (List Int)
 | 0, m => catL (fun p => [m ++ [(p : Int)]]) ((Qf l m.length).f3 + 1).toNat
 | d + 1, m => catL (fun p => allA l d (m ++ [(p : Int)])) ((Qf l m.length).f3 + 1).toNat
def upd (l : List S100) (b d e : Int) (x : List Int × Bool) (m : List Int) : List Int × Bool :=
 if lo l b d m ≥ 0 ∧ tot Qay l m ≤ e ∧ (x.2 = false ∨ tot Qax l m < tot Qax l x.1) then (m, true) else x
def updS (l : List S100) (e : Int) (x : List Int × Bool) (m : List Int) : List Int × Bool :=
 if tot Qay l m ≤ e ∧ (x.2 = false ∨ tot Qax l m < tot Qax l x.1) then (m, true) else x
theorem Qbz (f : S100 → Int) (l : List S100) (m : List Int) (p : Int) (h : m.length < l.length) : tot f l (m ++ [p]) = tot f l m + p * f (Qf l m.length) := by
 rw [Qa6 h]; unfold tot
 induction m generalizing l with
 | nil =>
  cases l with
  | nil => simp at h
  | cons s l => simp
 | cons x m ih =>
  cases l with
  | nil => simp at h
  | cons s l =>
   simp only [List.length_cons] at h; have := ih l (by omega); simp only [List.cons_append, List.zip_cons_cons, List.map_cons, List.sum_cons, List.length_cons, List.getElem_cons_succ]; rw [this, Int.add_assoc]
theorem block (l : List S100) (b d e : Int) (m : List Int) (hm : m.length < l.length) (hs : okS (Qf l m.length) = true) (r : Int) (hr0 : 0 ≤ r)
  (hlt : ∀ n, 0 ≤ n → n < r → ¬ n * (Qf l m.length).f0.f0 ≥ upN b d - tot Qa4 l m) (hge : r ≤ (Qf l m.length).f3 → r * (Qf l m.length).f0.f0 ≥ upN b d - tot Qa4 l m) (n : Nat) (hn : (n : Int) ≤ (Qf l m.length).f3 + 1) (x : List Int × Bool) :
  (catL (fun p => [m ++ [(p : Int)]]) n).foldl (upd l b d e) x = if r < n then updS l e x (m ++ [r]) else x := by
 generalize hsd : Qf l m.length = s at *; have hs' := hs; unfold okS at hs'; rw [decide_eq_true_iff] at hs'
 have hlo : ∀ p : Int, lo l b d (m ++ [p]) = p * s.f0.f0 - (upN b d - tot Qa4 l m) := fun p => by
  unfold lo; rw [Qbz _ _ _ _ hm, hsd]; unfold Qa4; omega
 have hst : ∀ p : Int, tot Qay l (m ++ [p]) = tot Qay l m + p * s.f2 := fun p => by rw [Qbz _ _ _ _ hm, hsd]; rfl
 have hpr : ∀ p : Int, tot Qax l (m ++ [p]) = tot Qax l m + p * s.f1 := fun p => by rw [Qbz _ _ _ _ hm, hsd]; rfl
 induction n with
 | zero => rw [if_neg (by omega)]; rfl
 | succ n ih =>
  unfold catL; rw [List.foldl_append, ih (by omega)]; simp only [List.foldl_cons, List.foldl_nil]; by_cases h1 : r < (n : Int)
  ·rw [if_pos h1, if_pos (by omega)]
   have hst' : r * s.f2 ≤ n * s.f2 := Int.mul_le_mul_of_nonneg_right (by omega) (by omega); have hpr' : r * s.f1 ≤ n * s.f1 := Int.mul_le_mul_of_nonneg_right (by omega) (by omega); unfold upd; rw [if_neg]; rintro ⟨_, h3, h4⟩; unfold updS at h4; rw [hst] at h3
   split at h4
   ·simp only at h4
    rcases h4 with h4 | h4
    ·cases h4
    ·rw [hpr, hpr] at h4; omega
   ·rename_i h5
    apply h5
    refine ⟨by rw [hst]; omega, ?_⟩
    rcases h4 with h4 | h4
    ·exact .inl h4
    ·right; rw [hpr] at h4 ⊢; omega
  ·rw [if_neg h1]
   by_cases h2 : r = (n : Int)
   ·rw [if_pos (by omega)]
    unfold upd updS; have := hge (by omega); subst h2; by_cases h3 : tot Qay l (m ++ [(n : Int)]) ≤ e ∧ (x.2 = false ∨ tot Qax l (m ++ [(n : Int)]) < tot Qax l x.1)
    ·rw [if_pos ⟨by rw [hlo]; omega, h3⟩, if_pos h3]
    ·rw [if_neg (fun h => h3 h.2), if_neg h3]
   ·rw [if_neg (by omega)]
    unfold upd; rw [if_neg]; rintro ⟨h3, _⟩; have := hlt n (by omega) (by omega); rw [hlo] at h3; omega
theorem Mx.snoc {l : List S100} {m : List Int} (h : Mx l m) (hm : m.length < l.length) {p : Int} (h0 : 0 ≤ p) (h1 : p ≤ 12) : Mx l (m ++ [p]) :=
 ⟨h.ok, by simp; omega, h.l4, fun x hx => by
  rcases List.mem_append.1 hx with hx | hx
  ·exact h.m12 x hx
  ·rw [List.mem_singleton.1 hx]; exact ⟨h0, h1⟩⟩
theorem Qb2 {s : S100} (h : okS s = true) : 0 ≤ s.f3 ∧ s.f3 ≤ 12 := by unfold okS at h; rw [decide_eq_true_iff] at h; omega
theorem Qdn (l : List S100) (a b c d e : Int) (hc : okC a b c d e = true) : ∀ (q k : Nat) (m : List Int), m.length + q + 1 = l.length → 2000 < k → Mx l m →
  ∃ ms, Q8.l k a b c d e l q m = some ms ∧ (∀ x, ms.foldl (updS l e) x = (allA l q m).foldl (upd l b d e) x) ∧ ∀ z ∈ ms, Mx l z ∧ z.length = l.length := by
 obtain ⟨hu1, hu2, hu3⟩ := Qcr hc; intro q
 induction q with
 | zero =>
  intro k m hl hk hm; have h4 := hm.l4; have hlt : m.length < l.length := by omega
  have hs := hm.ok l[m.length] (List.getElem_mem hlt); have hs3 := Qb2 hs; have hsr : Qf l (m.length : Int) = l[m.length] := Qa6 hlt; have hs' := hs; unfold okS at hs'; rw [decide_eq_true_iff] at hs'; have g1 := Qco hu1.2.2.1 hu1.2.2.2 hu2.2.2.1 hu2.2.2.2; have g2 := Qcl hm; obtain ⟨r, s1, s2, s3, s4, s5⟩ := Qdc l[m.length].f0.f0 l[m.length].f0.f1 l[m.length].f1 l[m.length].f2 l[m.length].f3 (upN b d - tot Qa4 l m) ⟨by omega, by omega⟩ 1000 k 0 (l[m.length].f3 + 1) (by omega) (by omega) (by omega) (by omega) (by omega)
  have hsyn : Jm.f k 0 a b c d e l m = some (r, decide (r ≤ l[m.length].f3)) := by
   unfold Jm.f Qo.f; rw [if_pos (by omega), if_pos (by omega), Qb3 hc, Qch hm _ _ _ _ _ (by omega)]; simp only [Option.bind_some]; rw [hsr, w64 (x := l[m.length].f3 + 1) (by omega), w64 (x := upN b d - tot Qa4 l m) (by omega), s1]; rfl
  have hb := fun x => block l b d e m hlt (by rw [hsr]; exact hs) r s2 (by rw [hsr]; exact s4) (by rw [hsr]; exact fun h => s5 (by omega)) (l[m.length].f3 + 1).toNat (by rw [hsr]; omega) x
  unfold Q8.l; rw [if_pos (by omega), hsyn]; refine ⟨if r ≤ l[m.length].f3 then [m ++ [r]] else [], ?_, fun x => ?_, fun z hz => ?_⟩
  ·simp only [Option.bind_some, decide_eq_true_iff]
  ·unfold allA
   rw [hsr, hb x]; by_cases h : r ≤ l[m.length].f3
   ·rw [if_pos h, if_pos (by omega)]; rfl
   ·rw [if_neg h, if_neg (by omega)]; rfl
  ·by_cases h : r ≤ l[m.length].f3
   ·rw [if_pos h] at hz
    rw [List.mem_singleton.1 hz]; exact ⟨hm.snoc hlt s2 (by omega), by simp; omega⟩
   ·rw [if_neg h] at hz; cases hz
 | succ q ih =>
  intro k m hl hk hm; have h4 := hm.l4; have hlt : m.length < l.length := by omega
  have hs := hm.ok l[m.length] (List.getElem_mem hlt); have hs3 := Qb2 hs; have hsr : Qf l (m.length : Int) = l[m.length] := Qa6 hlt
  have hall : ∀ p : Nat, ∃ ms, p < (l[m.length].f3 + 1).toNat → Q8.l k a b c d e l q (m ++ [(p : Int)]) = some ms ∧ (∀ x, ms.foldl (updS l e) x = (allA l q (m ++ [(p : Int)])).foldl (upd l b d e) x) ∧ ∀ z ∈ ms, Mx l z ∧ z.length = l.length := fun p => by
   by_cases hp : p < (l[m.length].f3 + 1).toNat
   ·obtain ⟨ms, h⟩ := ih k (m ++ [(p : Int)]) (by simp; omega) hk (hm.snoc hlt (by omega) (by omega))
    exact ⟨ms, fun _ => h⟩
   ·exact ⟨[], fun h => absurd h hp⟩
  obtain ⟨g, hg⟩ := Classical.axiomOfChoice hall; unfold Q8.l; rw [hsr, if_pos ⟨by omega, by omega, by omega, by omega⟩, Qcw (g := g) fun p hp => (hg p hp).1]; refine ⟨_, rfl, fun x => ?_, ?_⟩
  ·unfold allA
   rw [hsr]; exact Qb6 _ _ g _ _ x fun p hp y => (hg p hp).2.1 y
  ·have : ∀ n, n ≤ (l[m.length].f3 + 1).toNat → ∀ z ∈ catL g n, Mx l z ∧ z.length = l.length := by
    intro n
    induction n with
    | zero => intro _ z hz; cases hz
    | succ n ihn =>
     intro hn z hz; unfold catL at hz
     rcases List.mem_append.1 hz with hz | hz
     ·exact ihn (by omega) z hz
     ·exact (hg n (by omega)).2.2 z hz
   exact this _ (Nat.le_refl _)
theorem Qcy {l : List S100} {m best : List Int} {ok : Bool} (hm : Mx l m) (hb : ok = true → Mx l best) (a b c d e : Int) {k : Nat} (hk : 10 < k) : Q4.f k a b c d e l m best ok = some (updS l e (best, ok) m) := by
 have h4 := hm.l4; have hl := hm.len
 have hcl : Q5.f m = some m := by
  unfold Q5.f; simp only [Option.bind_some, List.length_nil, List.nil_append]; rw [if_pos (by omega)]
 unfold Q4.f updS; rw [Qcc hm _ _ _ _ _ (by omega)]; simp only [Option.bind_some]; by_cases h1 : tot Qay l m ≤ e
 ·rw [if_pos h1]
  cases ok with
  | true =>
   have hbm := hb rfl; have hbl := hbm.len; rw [if_pos rfl, Qbi hm _ _ _ _ _ (by omega), Qbi hbm _ _ _ _ _ (by omega)]; simp only [Option.bind_some]; by_cases h2 : tot Qax l m < tot Qax l best
   ·rw [if_pos h2, hcl, if_pos ⟨h1, .inr h2⟩]; rfl
   ·rw [if_neg h2, if_neg]
    rintro ⟨_, h | h⟩
    ·cases h
    ·exact h2 h
  | false =>
   rw [if_neg (by simp), hcl, if_pos ⟨h1, .inl rfl⟩]; rfl
 ·rw [if_neg h1, if_neg (fun h => h1 h.1)]
theorem updS_Mx {l : List S100} {m : List Int} {x : List Int × Bool} {e : Int} (hm : Mx l m ∧ m.length = l.length) (hx : x.2 = true → Mx l x.1 ∧ x.1.length = l.length) : (updS l e x m).2 = true → Mx l (updS l e x m).1 ∧ (updS l e x m).1.length = l.length := by
 unfold updS
 split
 ·exact fun _ => hm
 ·exact hx
theorem Qb4 (l : List S100) (a b c d e : Int) {k : Nat} (hk : 10 < k) : ∀ (ms : List (List Int)) (best : List Int) (ok : Bool), (∀ z ∈ ms, Mx l z ∧ z.length = l.length) → (ok = true → Mx l best ∧ best.length = l.length) →
  Qv.l k a b c d e l ms best ok = some (ms.foldl (updS l e) (best, ok)) ∧ ((ms.foldl (updS l e) (best, ok)).2 = true → Mx l (ms.foldl (updS l e) (best, ok)).1 ∧ (ms.foldl (updS l e) (best, ok)).1.length = l.length)
 | [], best, ok, _, hb => ⟨rfl, hb⟩
 | m :: ms, best, ok, hm, hb => by
  have h1 := Qcy (hm m (by simp)).1 (fun h => (hb h).1) a b c d e hk; have h2 := updS_Mx (e := e) (x := (best, ok)) (hm m (by simp)) hb; unfold Qv.l; rw [h1]; simp only [Option.bind_some, List.foldl_cons]; exact Qb4 l a b c d e hk ms _ _ (fun z hz => hm z (by simp [hz])) h2
def best (l : List S100) (b d e : Int) : List Int × Bool := (allA l (l.length - 1) []).foldl (upd l b d e) ([], false)
theorem Qbl {l : List S100} {a b c d e : Int} (hl : chk l = 0) (hc : okC a b c d e = true) {k : Nat} (hk : 2000 < k) : Qv.f k a b c d e l = some (best l b d e) ∧ ((best l b d e).2 = true → Mx l (best l b d e).1 ∧ (best l b d e).1.length = l.length) := by
 obtain ⟨h1, h2, h3⟩ := chk0 hl; obtain ⟨ms, g1, g2, g3⟩ := Qdn l a b c d e hc (l.length - 1) k [] (by simp; omega) hk ⟨h3, by simp, h2, by simp⟩; have g4 := Qb4 l a b c d e (k := k) (by omega) ms [] false g3 (by simp); rw [g2] at g4; unfold Qv.f; rw [if_neg (by omega), g1]; exact g4
theorem Qbn (l : List S100) (a b c d e : Int) {k : Nat} (hk : 2000 < k) : Jb.f k l a b c d e = some (if opn l a b c d e = 0 then if (best l b d e).2 = true then ((best l b d e).1, tot Qax l (best l b d e).1, 0) else ([], 0, 9) else ([], 0, opn l a b c d e)) := by
 unfold Jb.f; rw [Qb5]; simp only [Option.bind_some]; by_cases h : opn l a b c d e = 0
 ·obtain ⟨h1, h2⟩ := opn0 h
  obtain ⟨h3, h4⟩ := Qbl h1 h2 hk; have hl := (chk0 h1).2.1; rw [if_pos h, if_pos h, h3]; simp only [Option.bind_some]; by_cases hb : (best l b d e).2 = true
  ·rw [if_pos hb, if_pos hb, Qbi (h4 hb).1 _ _ _ _ _ (by have := (h4 hb).2; omega)]; rfl
  ·rw [if_neg hb, if_neg hb]
 ·rw [if_neg h, if_neg h]
theorem Qby {β : Type} {g : Nat → List β} {z : β} : ∀ {n : Nat}, z ∈ catL g n → ∃ p, p < n ∧ z ∈ g p
 | 0, h => by cases h
 | n + 1, h => by
  unfold catL at h
  rcases List.mem_append.1 h with h | h
  ·obtain ⟨p, h1, h2⟩ := Qby h
   exact ⟨p, by omega, h2⟩
  ·exact ⟨n, by omega, h⟩
theorem Qa7 {l : List S100} {m : List Int} : fit l m = true ↔ m.length = l.length ∧ ∀ i (h : i < m.length), 0 ≤ m[i] ∧ m[i] ≤ (Qf l (i : Int)).f3 := by
 unfold fit; rw [Bool.and_eq_true, decide_eq_true_iff, List.all_eq_true]
 constructor
 ·rintro ⟨h1, h2⟩
  refine ⟨h1, fun i h => ?_⟩; have := h2 ((l.zip m)[i]'(by simp; omega)) (List.getElem_mem _); rw [List.getElem_zip, decide_eq_true_iff] at this; rw [Qa6 (by omega)]; exact this
 ·rintro ⟨h1, h2⟩
  refine ⟨h1, fun x hx => ?_⟩; obtain ⟨i, hi, rfl⟩ := List.getElem_of_mem hx; rw [List.getElem_zip, decide_eq_true_iff]; have := h2 i (by simp at hi; omega); rw [Qa6 (by simp at hi; omega)] at this; exact this
theorem Qdo (l : List S100) : ∀ (q : Nat) (m : List Int), m.length + q + 1 = l.length → (∀ i (h : i < m.length), 0 ≤ m[i] ∧ m[i] ≤ (Qf l (i : Int)).f3) → ∀ z ∈ allA l q m, fit l z = true := by
 have hsn : ∀ (m : List Int) (p : Nat), m.length < l.length → (∀ i (h : i < m.length), 0 ≤ m[i] ∧ m[i] ≤ (Qf l (i : Int)).f3) → p < ((Qf l m.length).f3 + 1).toNat → ∀ i (h : i < (m ++ [(p : Int)]).length), 0 ≤ (m ++ [(p : Int)])[i] ∧ (m ++ [(p : Int)])[i] ≤ (Qf l (i : Int)).f3 := by
  intro m p hl hm hp i h; simp only [List.length_append, List.length_cons, List.length_nil] at h; by_cases hi : i < m.length
  ·rw [List.getElem_append_left hi]; exact hm i hi
  ·have : i = m.length := by omega
   subst this; rw [List.getElem_append_right (by omega)]; simp only [Nat.sub_self, List.getElem_cons_zero]; omega
 intro q
 induction q with
 | zero =>
  intro m hl hm z hz; unfold allA at hz; obtain ⟨p, h1, h2⟩ := Qby hz; rw [List.mem_singleton.1 h2]; exact Qa7.2 ⟨by simp; omega, hsn m p (by omega) hm h1⟩
 | succ q ih =>
  intro m hl hm z hz; unfold allA at hz; obtain ⟨p, h1, h2⟩ := Qby hz; exact ih _ (by simp; omega) (hsn m p (by omega) hm h1) z h2
theorem Qbr (l : List S100) (b d e : Int) : ∀ (ms : List (List Int)) (x : List Int × Bool), (ms.foldl (upd l b d e) x) = x ∨ ((ms.foldl (upd l b d e) x).2 = true ∧ (ms.foldl (upd l b d e) x).1 ∈ ms)
 | [], _ => .inl rfl
 | m :: ms, x => by
  rw [List.foldl_cons]
  rcases Qbr l b d e ms (upd l b d e x m) with h | ⟨h1, h2⟩
  ·rw [h]
   unfold upd
   split
   ·exact .inr ⟨rfl, List.mem_cons_self ..⟩
   ·exact .inl rfl
  ·exact .inr ⟨h1, List.mem_cons_of_mem _ h2⟩
theorem Qci {l : List S100} {b d e : Int} (hl : l.length ≠ 0) (h : (best l b d e).2 = true) : fit l (best l b d e).1 = true := by
 unfold best at h ⊢
 rcases Qbr l b d e (allA l (l.length - 1) []) ([], false) with g | ⟨_, g⟩
 ·rw [g] at h; cases h
 ·exact Qdo l _ _ (by simp; omega) (by simp) _ g
def okK (c : S26) : Bool := okC c.f0.f0 c.f0.f1 c.f1.f0 c.f1.f1 c.f2
end Go.Proofs.YtjaapkkpmegkfaaGreat.P
namespace Go.Proofs.YtjaapkkpmegkfaaGreat.P
open Go.RowKit Go.ChangeShapes Go.WideShapes Go.Deep Go.Proofs.YtjaapkkpmegkfaaGreatW.PrintWords Go.Proofs.YtjaapkkpmegkfaaGreatW.PrintLast Go.Proofs.YtjaapkkpmegkfaaGreatW.PrintMore
structure Qa3 {α : Type} (P : Program) (d : Kd α) (t : TypeId) (B : α → Prop) : Prop where
 sz : P.cellsOf t = d.sz
 op : ∀ (H : Type) (enc : TypeId × Value → H) (w : World) (base : Nat) (spare : Nat → Bool) (held : Bool) (n : Nat) (cs : List Value) (x : DataW H × List MemPlace), DataW.trod enc P w base spare held n t cs = some x → ∃ p, d.K w p cs ∧ B p
theorem Qa3.int {P : Program} {t : TypeId} {k : IntKind} (ht : P.underlying t = some (.int k)) (hc : P.cellsOf t = 1) : Qa3 P (Kd.int k) t (fun n => (Lit.int k n).wf = true) :=
 ⟨hc, fun H enc w base spare held n cs x h => by
  obtain ⟨m, rfl, _, hw⟩ := DataW.trod_int ht h; exact ⟨m, rfl, hw⟩⟩
theorem Qbx {α : Type} {Q : Nat → α → Prop} : ∀ (n : Nat), (∀ i, i < n → ∃ p, Q i p) → ∃ l : List α, l.length = n ∧ ∀ i p, l[i]? = some p → Q i p
 | 0, _ => ⟨[], rfl, fun i p h => by simp at h⟩
 | n + 1, h => by
  obtain ⟨l, hl, hq⟩ := Qbx n (fun i hi => h i (by omega)); obtain ⟨p, hp⟩ := h n (by omega); refine ⟨l ++ [p], by simp [hl], fun i q hi => ?_⟩
  rcases Nat.lt_or_ge i l.length with h1 | h1
  ·rw [List.getElem?_append_left h1] at hi
   exact hq i q hi
  ·have : i = n := by
    have := (List.getElem?_eq_some_iff.1 hi).1
    simp at this
    omega
   subst this; rw [List.getElem?_append_right h1, hl, Nat.sub_self] at hi; obtain rfl : p = q := by simpa using hi
   exact hp
theorem Qa3.slice {α : Type} {P : Program} {d : Kd α} {t e : TypeId} {B : α → Prop} (h : Qa3 P d e B) (ht : P.underlying t = some (.slice e)) (hc : P.cellsOf t = 1) : Qa3 P (Kd.slice e d) t (fun l => ∀ x ∈ l, B x) :=
 ⟨hc, fun H enc w base spare held n cs x hx => by
  rcases open_slice ht hx with ⟨rfl, _⟩ | ⟨a, len, cap, m, n', D, Pl, rfl, hb, hl, hm, hmm, _, hi⟩
  ·exact ⟨[], ⟨none, 0, rfl, Nat.le_refl _, Kd.C_nil _ _⟩, fun x hx => by cases hx⟩
  ·obtain ⟨l, hll, hq⟩ := Qbx (Q := fun i p => (∃ cs', d.K w p cs' ∧ ∀ j, j < d.sz → w.cell? (a.add (i * d.sz + j)) = cs'[j]?) ∧ B p) len (fun i hi' => by
    obtain ⟨cs', hcs, htr⟩ := hi i (by rw [hmm]; split <;> omega); obtain ⟨p, hk, hp⟩ := h.op H enc w base spare held n' cs' _ htr; obtain ⟨_, hcl, hat⟩ := World.cells?_some hcs; rw [h.sz] at hat
    exact ⟨p, ⟨cs', hk, fun j hj => by
     have := hat j hj; rw [Go.Deep.add_add] at this; exact this⟩, hp⟩)
   refine ⟨l, ⟨some a, cap, by rw [hll], by rw [hll]; exact hl, ⟨rfl, by rw [hll]; simp only [maxLen] at hm; omega, fun h0 => ⟨a, rfl, fun j p hj => ?_⟩⟩⟩, fun x hx => ?_⟩
   ·obtain ⟨⟨cs', hk, hat⟩, _⟩ := hq j p hj
    refine ⟨cs', d.K_len hk, hk, fun i u hu => ?_⟩; have hi' : i < d.sz := by have := (List.getElem?_eq_some_iff.1 hu).1; rw [d.K_len hk] at this; exact this
    rw [hat i hi', hu]
   ·obtain ⟨i, hi'⟩ := List.getElem?_of_mem hx
    exact (hq i x hi').2⟩
def Qa1 {α : Type} (P : Program) (fs : Array Field) (j off : Nat) (d : Kd α) (B : α → Prop) : Prop :=
 ∀ (H : Type) (enc : TypeId × Value → H) (w : World) (base : Nat) (spare : Nat → Bool) (held : Bool) (n : Nat) (cs : List Value) (xs : List (DataW H × List MemPlace)), xs.length = fs.size →
  (∀ (i : Nat) (f : Field), fs[i]? = some f → DataW.trod enc P w base spare held n f.type ((cs.drop f.offset).take (P.cellsOf f.type)) = xs[i]?) → ∃ p, d.K w p ((cs.drop off).take d.sz) ∧ B p
theorem Qa1.one {α : Type} {P : Program} {fs : Array Field} {j off : Nat} {d : Kd α} {B : α → Prop} (f : Field) (hf : fs[j]? = some f) (ho : f.offset = off) (h : Qa3 P d f.type B) : Qa1 P fs j off d B := by
 intro H enc w base spare held n cs xs hl hx; have h1 := hx j f hf; have hj : j < xs.length := by rw [hl]; exact (Array.getElem?_eq_some_iff.1 hf).1
 rw [List.getElem?_eq_getElem hj, ho, h.sz] at h1; exact h.op H enc w base spare held n _ _ h1
theorem Qa1.cons {α β : Type} {P : Program} {fs : Array Field} {j off : Nat} {d : Kd α} {d' : Kd β} {B : α → Prop} {B' : β → Prop} (h : Qa1 P fs j off d B) (h' : Qa1 P fs (j + 1) (off + d.sz) d' B') : Qa1 P fs j off (Kd.pair d d') (fun p => B p.1 ∧ B' p.2) := by
 intro H enc w base spare held n cs xs hl hx; obtain ⟨p, h1, h2⟩ := h H enc w base spare held n cs xs hl hx; obtain ⟨q, h3, h4⟩ := h' H enc w base spare held n cs xs hl hx; refine ⟨(p, q), ⟨_, _, ?_, h1, h3⟩, h2, h4⟩; show (cs.drop off).take (d.sz + d'.sz) = _; rw [List.take_add, List.drop_drop]
theorem Qa1.iso {α β : Type} {P : Program} {fs : Array Field} {j off : Nat} {d : Kd α} {B : α → Prop} (h : Qa1 P fs j off d B) (f : β → α) (g : α → β) (hg : ∀ a, f (g a) = a) : Qa1 P fs j off (Kd.iso d f) (fun y => B (f y)) := by
 intro H enc w base spare held n cs xs hl hx; obtain ⟨p, h1, h2⟩ := h H enc w base spare held n cs xs hl hx; exact ⟨g p, by show d.K w (f (g p)) _; rw [hg]; exact h1, by show B (f (g p)); rw [hg]; exact h2⟩
theorem Qa3.struct {α : Type} {P : Program} {fs : Array Field} {d : Kd α} {t : TypeId} {B : α → Prop} (h : Qa1 P fs 0 0 d B) (ht : P.underlying t = some (.struct fs)) (hc : P.cellsOf t = d.sz) : Qa3 P d t B :=
 ⟨hc, fun H enc w base spare held n cs x hx => by
  obtain ⟨xs, n', _, _, hcl, hl, hf⟩ := DataW.trod_struct ht hx; obtain ⟨p, h1, h2⟩ := h H enc w base spare held n' cs xs hl hf; refine ⟨p, ?_, h2⟩; rw [List.drop_zero, List.take_of_length_le (by rw [hcl, hc]; exact Nat.le_refl _)] at h1; exact h1⟩
theorem Qa3.array {α : Type} {P : Program} {fs : Array Field} {d : Kd α} {t e : TypeId} {n : Nat} {B : α → Prop} (h : Qa1 P fs 0 0 d B) (ht : P.underlying t = some (.array n e)) (hc : P.cellsOf t = d.sz) (he : P.cellsOf e = 1) (hn : fs.size = n) (hf : ∀ i : Fin fs.size, fs[i].type = e ∧ fs[i].offset = i.val) : Qa3 P d t B :=
 ⟨hc, fun H enc w base spare held n' cs x hx => by
  obtain ⟨xs, m, _, _, hcl, hl, hg⟩ := DataW.trod_array ht hx
  obtain ⟨p, h1, h2⟩ := h H enc w base spare held m cs xs (by rw [hl, hn]) (fun i f hi => by
   obtain ⟨hi', rfl⟩ := Array.getElem?_eq_some_iff.1 hi; obtain ⟨e1, e2⟩ := hf ⟨i, hi'⟩; have e1' : fs[i].type = e := e1; have e2' : fs[i].offset = i := e2; have := hg i (by rw [← hn]; exact hi'); rw [he, Nat.mul_one] at this; rw [e1', e2', he]; exact this)
  refine ⟨p, ?_, h2⟩; rw [List.drop_zero, List.take_of_length_le (by rw [hcl, hc]; exact Nat.le_refl _)] at h1; exact h1⟩
theorem Qa3.arg_slice {α : Type} {P : Program} {d : Kd α} {t e : TypeId} {B : List α → Prop} (h : Qa3 P (Kd.slice e d) t B) {H : Type} {enc : TypeId × Value → H} {w : World} {base : Nat} {spare : Nat → Bool} {held : Bool} {v : Value} {x : DataW H} {ps : List MemPlace} {a : Option Addr} {len cap : Nat} (hv : v = .slice a len cap) (hx : DataW.Trod enc P w base spare held t v x ps) :
  ∃ l : List α, len = l.length ∧ l.length ≤ cap ∧ Kd.C d w a l.length l ∧ B l := by
 obtain ⟨n, hn⟩ := hx; subst hv; obtain ⟨l, ⟨A, c, he, hl, hr⟩, hb⟩ := h.op H enc w base spare held n _ _ hn; have he' : Value.slice a len cap = .slice A l.length c := by simpa [Value.cells] using he
 cases he'
 exact ⟨l, rfl, hl, hr, hb⟩
theorem Qa3.arg {α : Type} {P : Program} {d : Kd α} {t : TypeId} {B : α → Prop} (h : Qa3 P d t B) {H : Type} {enc : TypeId × Value → H} {w : World} {base : Nat} {spare : Nat → Bool} {held : Bool} {v : Value} {x : DataW H} {ps : List MemPlace} (hx : DataW.Trod enc P w base spare held t v x ps) :
  ∃ p : α, d.K w p v.cells.toList ∧ B p := by
 obtain ⟨n, hn⟩ := hx; exact h.op H enc w base spare held n _ _ hn
theorem Qc9 {v : Value} {l : List Value} (h : v.cells.toList = l) (hl : 2 ≤ l.length) : v = .agg l.toArray := by
 cases v with
 | agg x => simp only [Value.cells] at h; rw [← h]
 | _ => simp only [Value.cells] at h; subst h; simp at hl
end Go.Proofs.YtjaapkkpmegkfaaGreat.P
