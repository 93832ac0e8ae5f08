/- Part 5 of what the law's proof needs beyond its base: words, walks of functions and plain facts. -/
import Derived.Test.YtjaapkkpmegkfaaGreatJ04
set_option linter.unusedVariables false
set_option linter.unusedSimpArgs false
namespace Go.Proofs.YtjaapkkpmegkfaaGreat.P
open Go.RowKit Go.Shelf Go.Proofs.YtjaapkkpmegkfaaGreatW.PrintWords Go.Proofs.YtjaapkkpmegkfaaGreatW.PrintLast Go.Proofs.YtjaapkkpmegkfaaGreatW.PrintMore
def okS (s : S100) : Bool := decide (0 ≤ s.f0.f0 ∧ s.f0.f0 ≤ s.f0.f1 ∧ s.f0.f1 ≤ 200 ∧ 0 ≤ s.f1 ∧ s.f1 ≤ 500 ∧ 0 ≤ s.f2 ∧ s.f2 ≤ 50 ∧ 0 ≤ s.f3 ∧ s.f3 ≤ 12)
def okC (a b c d e : Int) : Bool := decide (1 ≤ a ∧ a ≤ b ∧ b ≤ 2000 ∧ 0 ≤ c ∧ c ≤ d ∧ d ≤ 300 ∧ 0 ≤ e ∧ e ≤ 500)
def chk (l : List S100) : Int := if (l.length : Int) > 4 then 5 else if (l.length : Int) = 0 then 7 else if l.all okS = true then 0 else 2
theorem chk0 {l : List S100} (h : chk l = 0) : 1 ≤ l.length ∧ l.length ≤ 4 ∧ ∀ s ∈ l, okS s = true := by
 unfold chk at h
 split at h
 ·cases h
 split at h
 ·cases h
 split at h
 ·rename_i h1 h2 h3
  exact ⟨by omega, by omega, by simpa using h3⟩
 ·cases h
theorem Qda (s : S100) : Zk.f s.f0.f0 s.f0.f1 s.f1 s.f2 s.f3 = some (!okS s) := by
 unfold Zk.f okS; simp only [Y1, isSpan_eq, Option.bind_some, List.all_cons, List.all_nil, Bool.and_true]; by_cases h1 : 0 ≤ s.f0.f0 ∧ s.f0.f0 ≤ s.f0.f1 ∧ s.f0.f1 ≤ 200
 ·rw [if_pos (by simpa using h1)]
  by_cases h2 : 0 ≤ s.f1 ∧ s.f1 ≤ 500
  ·rw [if_pos (by simpa using h2)]
   by_cases h3 : 0 ≤ s.f2 ∧ s.f2 ≤ 50
   ·rw [if_pos (by simpa using h3)]
    congr 2
    exact decide_eq_decide.2 (by omega)
   ·rw [if_neg (by simpa using h3)]
    congr 1; symm; rw [Bool.not_eq_true', decide_eq_false_iff_not]; omega
  ·rw [if_neg (by simpa using h2)]
   congr 1; symm; rw [Bool.not_eq_true', decide_eq_false_iff_not]; omega
 ·rw [if_neg (by simpa using h1)]
  congr 1; symm; rw [Bool.not_eq_true', decide_eq_false_iff_not]; omega
theorem Qdv (l : List S100) : Jf.f l = some (chk l) := by
 unfold Jf.f chk; by_cases h1 : (l.length : Int) > 4
 ·rw [if_pos h1, if_pos h1]
 ·rw [if_neg h1, if_neg h1]
  by_cases h2 : (l.length : Int) = 0
  ·rw [if_pos h2, if_pos h2]
  ·rw [if_neg h2, if_neg h2]
   unfold Jw.f; rw [YA (p := fun s => !okS s) fun s _ => Qda s]; simp only [Option.bind_some]; by_cases h3 : l.all okS = true
   ·rw [if_pos h3, if_neg (by simpa using h3)]
   ·rw [if_neg h3, if_pos (by simpa using h3)]
theorem Qc2 (a b c d e : Int) : Jc.f a b c d e = some (okC a b c d e) := by
 unfold Jc.f okC; simp only [Y1, isSpan_eq, Option.bind_some, List.all_cons, List.all_nil, Bool.and_true]; by_cases h1 : 1 ≤ a ∧ a ≤ b ∧ b ≤ 2000
 ·rw [if_pos (by simpa using h1)]
  by_cases h2 : 0 ≤ c ∧ c ≤ d ∧ d ≤ 300
  ·rw [if_pos (by simpa using h2)]
   congr 1
   exact decide_eq_decide.2 (by omega)
  ·rw [if_neg (by simpa using h2)]
   congr 1; symm; rw [decide_eq_false_iff_not]; omega
 ·rw [if_neg (by simpa using h1)]
  congr 1; symm; rw [decide_eq_false_iff_not]; omega
def upN (a c : Int) : Int := (a * c + 999) / 1000
theorem Qbe {a c A C : Int} (h0 : 0 ≤ a) (h1 : a ≤ A) (h2 : 0 ≤ c) (h3 : c ≤ C) : 0 ≤ a * c ∧ a * c ≤ A * C :=
 ⟨Int.mul_nonneg h0 h2, Int.mul_le_mul h1 h3 h2 (by omega)⟩
theorem up_eq {a c : Int} (h0 : 0 ≤ a) (h1 : a ≤ 2000) (h2 : 0 ≤ c) (h3 : c ≤ 300) : Zn.f a c = some (upN a c) := by
 have h := Qbe h0 h1 h2 h3; unfold Zn.f upN; rw [w64 (x := a * c) (by omega), w64 (x := a * c + 999) (by omega), Int.tdiv_eq_ediv_of_nonneg (by omega), w64 (by omega)]
theorem Qcq {a c : Int} (h0 : 0 ≤ a) (h1 : a ≤ 2000) (h2 : 0 ≤ c) (h3 : c ≤ 300) : 0 ≤ upN a c ∧ upN a c ≤ 600 := by
 have h := Qbe h0 h1 h2 h3; unfold upN; omega
theorem Qb8 {a b c d e : Int} (h : okC a b c d e = true) : (0 ≤ a ∧ a ≤ 2000 ∧ 0 ≤ b ∧ b ≤ 2000) ∧ (0 ≤ c ∧ c ≤ 300 ∧ 0 ≤ d ∧ d ≤ 300) ∧ 0 ≤ e ∧ e ≤ 500 := by
 unfold okC at h; rw [decide_eq_true_iff] at h; omega
theorem Qc3 {a b c d e : Int} (h : okC a b c d e = true) (l : List S100) : QP.f a b c d e l = some (upN a c, upN b d) := by
 obtain ⟨h1, h2, h3⟩ := Qb8 h; unfold QP.f; rw [up_eq h1.1 h1.2.1 h2.1 h2.2.1, up_eq h1.2.2.1 h1.2.2.2 h2.2.2.1 h2.2.2.2]; rfl
def opn (l : List S100) (a b c d e : Int) : Int := if chk l = 0 then if okC a b c d e = true then 0 else 3 else chk l
theorem Qca (l : List S100) (a b c d e : Int) : Jd.f l a b c d e = some (a, b, c, d, e, l, opn l a b c d e) := by
 unfold Jd.f opn; rw [Qdv]; simp only [Option.bind_some]; by_cases h : chk l = 0
 ·rw [if_pos h, Qc2]
  simp only [Option.bind_some]; by_cases h2 : okC a b c d e = true
  ·rw [if_pos h2, if_pos h, if_pos h2, h]
  ·rw [if_neg h2, if_pos h, if_neg h2]
 ·rw [if_neg h, if_neg h]
theorem Qa2 {l : List S100} {i : Nat} (h : i < l.length) : Qf l (i : Int) = l[i] := by simp [Qf, List.getD_eq_getElem?_getD, List.getElem?_eq_getElem h]
def fit (l : List S100) (m : List Int) : Bool := decide (m.length = l.length) && (l.zip m).all fun x => decide (0 ≤ x.2 ∧ x.2 ≤ x.1.f3)
theorem opn0 {l : List S100} {a b c d e : Int} (h : opn l a b c d e = 0) : chk l = 0 ∧ okC a b c d e = true := by
 unfold opn at h
 split at h
 ·split at h
  ·exact ⟨by assumption, by assumption⟩
  ·cases h
 ·rename_i h1; exact absurd h h1
def tot (f : S100 → Int) (l : List S100) (m : List Int) : Int := ((l.zip m).map fun x => x.2 * f x.1).sum
theorem Qde (f : S100 → Int) (B : Int) (l : List S100) (m : List Int) (hl : ∀ s ∈ l, 0 ≤ f s ∧ f s ≤ B) (hm : ∀ x ∈ m, 0 ≤ x ∧ x ≤ 12) : 0 ≤ tot f l m ∧ tot f l m ≤ 12 * B * l.length := by
 unfold tot
 induction l generalizing m with
 | nil => simp
 | cons s l ih =>
  cases m with
  | nil =>
   have := hl s (by simp); simp only [List.zip_nil_right, List.map_nil, List.sum_nil]; exact ⟨Int.le_refl _, Int.mul_nonneg (by omega) (by omega)⟩
  | cons x m =>
   have := ih m (fun s hs => hl s (by simp [hs])) fun x hx => hm x (by simp [hx])
   have h1 := hl s (by simp); have h2 := hm x (by simp); have h3 := Qbe h2.1 h2.2 h1.1 h1.2; simp only [List.zip_cons_cons, List.map_cons, List.sum_cons, List.length_cons]; have h4 : 12 * B * ((l.length + 1 : Nat) : Int) = 12 * B * l.length + 12 * B := by rw [Int.natCast_add, Int.mul_add]; omega
   omega
theorem Qbi {f : S100 → Int} {l : List S100} {m : List Int} {i : Nat} (h1 : i < l.length) (h2 : i < m.length) : tot f (l.drop i) (m.drop i) = m[i] * f l[i] + tot f (l.drop (i + 1)) (m.drop (i + 1)) := by
 unfold tot; rw [List.drop_eq_getElem_cons h1, List.drop_eq_getElem_cons h2, List.zip_cons_cons, List.map_cons, List.sum_cons]
structure Mx (l : List S100) (m : List Int) : Prop where
 ok : ∀ s ∈ l, okS s = true
 len : m.length ≤ l.length
 l4 : l.length ≤ 4
 m12 : ∀ x ∈ m, 0 ≤ x ∧ x ≤ 12
theorem Qdl {l : List S100} {m : List Int} (hl : l.length ≤ 4) (ok : ∀ s ∈ l, okS s = true) (h : fit l m = true) : Mx l m := by
 unfold fit at h; rw [Bool.and_eq_true, decide_eq_true_iff] at h; obtain ⟨h1, h2⟩ := h; refine ⟨ok, by omega, hl, fun x hx => ?_⟩; obtain ⟨i, hi, rfl⟩ := List.getElem_of_mem hx; have hz : i < (l.zip m).length := by simp; omega
 have h3 := List.all_eq_true.1 h2 _ (List.getElem_mem hz); rw [List.getElem_zip, decide_eq_true_iff] at h3; have h4 := ok l[i] (List.getElem_mem (by omega)); unfold okS at h4; rw [decide_eq_true_iff] at h4; simp only at h3; omega
def Qa5 (s : S100) : Int := s.f0.f0
def Qbm (s : S100) : Int := s.f0.f1
def Qa1 (s : S100) : Int := s.f2
def Qav (s : S100) : Int := s.f1
theorem Qb3 {s : S100} (h : okS s = true) : 0 ≤ Qa5 s ∧ Qa5 s ≤ 200 := by
 unfold okS at h; rw [decide_eq_true_iff] at h; unfold Qa5; omega
theorem Qd8 (l : List S100) (m : List Int) (h : Mx l m) (a b c d e : Int) : ∀ (q k i : Nat) (s : Int), i + q = m.length → q < k → 0 ≤ s → s ≤ 12 * 200 * (i : Int) →
  Qp.l0 k s m (m.length : Int) (i : Int) a b c d e l = some (s + tot Qa5 (l.drop i) (m.drop i)) := by
 have hl := h.len; have h4 := h.l4; intro q
 induction q with
 | zero =>
  intro k i s hi hk _ _; obtain ⟨k, rfl⟩ : ∃ z, k = z + 1 := ⟨k - 1, by omega⟩
  simp only [Qp.l0]; rw [if_neg (by omega), List.drop_of_length_le (l := m) (by omega)]
  simp [tot]
 | succ q ih =>
  intro k i s hi hk hs0 hs1; obtain ⟨k, rfl⟩ : ∃ z, k = z + 1 := ⟨k - 1, by omega⟩
  have h1 : i < m.length := by omega
  have h2 : i < l.length := by omega
  have hf := Qb3 (h.ok l[i] (List.getElem_mem h2)); have hx := h.m12 m[i] (List.getElem_mem h1); have hp := Qbe hx.1 hx.2 hf.1 hf.2; simp only [Qp.l0, ZF.f]; rw [if_pos (by omega), if_pos (by omega), if_pos (by omega), if_pos (by omega), Qa2 h2, YT h1, Qbi h2 h1]; simp only [Option.bind_some]; have e : l[i].f0.f0 = Qa5 l[i] := rfl; rw [e, w64 (x := m[i] * Qa5 l[i]) (by omega), w64 (x := s + m[i] * Qa5 l[i]) (by omega), w64 (by omega), show ((i : Int) + 1) = ((i + 1 : Nat) : Int) by omega, ih k (i + 1) _ (by omega) (by omega) (by omega) (by omega), Int.add_assoc]
theorem Qd5 {l : List S100} {m : List Int} (h : Mx l m) (a b c d e : Int) {k : Nat} (hk : m.length < k) : Qp.f k a b c d e l m = some (tot Qa5 l m) := by
 unfold Qp.f; have := Qd8 l m h a b c d e m.length k 0 0 (by omega) hk (by omega) (by omega)
 simpa using this
theorem Qd4 {l : List S100} {m : List Int} (h : Mx l m) : 0 ≤ tot Qa5 l m ∧ tot Qa5 l m ≤ 100000 := by
 have := Qde Qa5 200 l m (fun s hs => Qb3 (h.ok s hs)) h.m12; have := h.l4; omega
theorem most_ok {s : S100} (h : okS s = true) : 0 ≤ Qbm s ∧ Qbm s ≤ 200 := by
 unfold okS at h; rw [decide_eq_true_iff] at h; unfold Qbm; omega
theorem Qch {s : S100} (h : okS s = true) : 0 ≤ Qa1 s ∧ Qa1 s ≤ 50 := by
 unfold okS at h; rw [decide_eq_true_iff] at h; unfold Qa1; omega
theorem Qdb (l : List S100) (m : List Int) (h : Mx l m) (a b c d e : Int) : ∀ (q k i : Nat) (s : Int), i + q = m.length → q < k → 0 ≤ s → s ≤ 12 * 50 * (i : Int) →
  Qj.l0 k s m (m.length : Int) (i : Int) a b c d e l = some (s + tot Qa1 (l.drop i) (m.drop i)) := by
 have hl := h.len; have h4 := h.l4; intro q
 induction q with
 | zero =>
  intro k i s hi hk _ _; obtain ⟨k, rfl⟩ : ∃ z, k = z + 1 := ⟨k - 1, by omega⟩
  simp only [Qj.l0]; rw [if_neg (by omega), List.drop_of_length_le (l := m) (by omega)]
  simp [tot]
 | succ q ih =>
  intro k i s hi hk hs0 hs1; obtain ⟨k, rfl⟩ : ∃ z, k = z + 1 := ⟨k - 1, by omega⟩
  have h1 : i < m.length := by omega
  have h2 : i < l.length := by omega
  have hf := Qch (h.ok l[i] (List.getElem_mem h2)); have hx := h.m12 m[i] (List.getElem_mem h1); have hp := Qbe hx.1 hx.2 hf.1 hf.2; simp only [Qj.l0, Zw.f]; rw [if_pos (by omega), if_pos (by omega), if_pos (by omega), if_pos (by omega), Qa2 h2, YT h1, Qbi h2 h1]; simp only [Option.bind_some]; have e : l[i].f2 = Qa1 l[i] := rfl; rw [e, w64 (x := m[i] * Qa1 l[i]) (by omega), w64 (x := s + m[i] * Qa1 l[i]) (by omega), w64 (by omega), show ((i : Int) + 1) = ((i + 1 : Nat) : Int) by omega, ih k (i + 1) _ (by omega) (by omega) (by omega) (by omega), Int.add_assoc]
theorem Qdg {l : List S100} {m : List Int} (h : Mx l m) (a b c d e : Int) {k : Nat} (hk : m.length < k) : Qj.f k a b c d e l m = some (tot Qa1 l m) := by
 unfold Qj.f; have := Qdb l m h a b c d e m.length k 0 0 (by omega) hk (by omega) (by omega)
 simpa using this
theorem Qb2 {s : S100} (h : okS s = true) : 0 ≤ Qav s ∧ Qav s ≤ 500 := by
 unfold okS at h; rw [decide_eq_true_iff] at h; unfold Qav; omega
theorem Qd6 (l : List S100) (m : List Int) (h : Mx l m) (a b c d e : Int) : ∀ (q k i : Nat) (s : Int), i + q = m.length → q < k → 0 ≤ s → s ≤ 12 * 500 * (i : Int) →
  Qi.l0 k s m (m.length : Int) (i : Int) a b c d e l = some (s + tot Qav (l.drop i) (m.drop i)) := by
 have hl := h.len; have h4 := h.l4; intro q
 induction q with
 | zero =>
  intro k i s hi hk _ _; obtain ⟨k, rfl⟩ : ∃ z, k = z + 1 := ⟨k - 1, by omega⟩
  simp only [Qi.l0]; rw [if_neg (by omega), List.drop_of_length_le (l := m) (by omega)]
  simp [tot]
 | succ q ih =>
  intro k i s hi hk hs0 hs1; obtain ⟨k, rfl⟩ : ∃ z, k = z + 1 := ⟨k - 1, by omega⟩
  have h1 : i < m.length := by omega
  have h2 : i < l.length := by omega
  have hf := Qb2 (h.ok l[i] (List.getElem_mem h2)); have hx := h.m12 m[i] (List.getElem_mem h1); have hp := Qbe hx.1 hx.2 hf.1 hf.2; simp only [Qi.l0, ZE.f]; rw [if_pos (by omega), if_pos (by omega), if_pos (by omega), if_pos (by omega), Qa2 h2, YT h1, Qbi h2 h1]; simp only [Option.bind_some]; have e : l[i].f1 = Qav l[i] := rfl; rw [e, w64 (x := m[i] * Qav l[i]) (by omega), w64 (x := s + m[i] * Qav l[i]) (by omega), w64 (by omega), show ((i : Int) + 1) = ((i + 1 : Nat) : Int) by omega, ih k (i + 1) _ (by omega) (by omega) (by omega) (by omega), Int.add_assoc]
theorem Qbn {l : List S100} {m : List Int} (h : Mx l m) (a b c d e : Int) {k : Nat} (hk : m.length < k) : Qi.f k a b c d e l m = some (tot Qav l m) := by
 unfold Qi.f; have := Qd6 l m h a b c d e m.length k 0 0 (by omega) hk (by omega) (by omega)
 simpa using this
theorem Qd7 {l : List S100} {m : List Int} (h : Mx l m) : 0 ≤ tot Qav l m ∧ tot Qav l m ≤ 100000 := by
 have := Qde Qav 500 l m (fun s hs => Qb2 (h.ok s hs)) h.m12; have := h.l4; omega
def lo (l : List S100) (b d : Int) (m : List Int) : Int := tot Qa5 l m - upN b d
def hi (l : List S100) (a c : Int) (m : List Int) : Int := tot Qbm l m - upN a c
theorem Qd9 (l : List S100) (h : l.length ≤ 100) : Qa8.f l = some l := by
 unfold Qa8.f; simp only [Option.bind_some, List.length_nil, List.nil_append]; rw [if_pos (by omega)]
theorem same_at (l : List S100) (h : l.length ≤ 100) : ∀ (q k i : Nat), i + q = l.length → q < k → Qaz.l0 k l l (i : Int) = some true := by
 intro q
 induction q with
 | zero =>
  intro k i hi hk; obtain ⟨k, rfl⟩ : ∃ z, k = z + 1 := ⟨k - 1, by omega⟩
  simp only [Qaz.l0]; rw [if_neg (by omega)]
 | succ q ih =>
  intro k i hi hk; obtain ⟨k, rfl⟩ : ∃ z, k = z + 1 := ⟨k - 1, by omega⟩
  simp only [Qaz.l0]; rw [if_pos (by omega), if_pos (by omega), if_pos (by omega), if_neg (by simp), w64 (by omega)]; exact ih k (i + 1) (by omega) (by omega)
theorem Qcb (l : List S100) (h : l.length ≤ 100) {k : Nat} (hk : l.length < k) : Qaz.f k l l = some true := by
 unfold Qaz.f; rw [if_pos rfl]; exact same_at l h l.length k 0 (Nat.zero_add _) hk
theorem Qdm (l : List S100) (hm : l.length ≤ 100) : ∀ (q k i : Nat), i + q = l.length → q < k → Qau.l0 k l (i : Int) = some (if (l.drop i).all okS = true then 0 else 2) := by
 intro q
 induction q with
 | zero =>
  intro k i hi hk; obtain ⟨k, rfl⟩ : ∃ m, k = m + 1 := ⟨k - 1, by omega⟩
  simp only [Qau.l0]; rw [if_neg (by omega), List.drop_of_length_le (by omega)]
  simp
 | succ q ih =>
  intro k i hi hk; obtain ⟨k, rfl⟩ : ∃ m, k = m + 1 := ⟨k - 1, by omega⟩
  have hlt : i < l.length := by omega
  simp only [Qau.l0]; rw [if_pos (by omega), if_pos (by omega), w64 (by omega), show ((i : Int) + 1) = ((i + 1 : Nat) : Int) by omega, ih k (i + 1) (by omega) (by omega), Qa2 hlt, List.drop_eq_getElem_cons hlt, List.all_cons]; simp only [In_eq, Span_eq, Option.bind_some]; generalize l[i] = b; have hno : ∀ (h : okS b = false), (if (okS b && (l.drop (i + 1)).all okS) = true then (0 : Int) else 2) = 2 := fun h => by rw [h]; rfl
  by_cases h1 : 0 ≤ b.f0.f0 ∧ b.f0.f0 ≤ b.f0.f1 ∧ b.f0.f1 ≤ 200
  ·rw [if_pos (by simpa using h1)]
   by_cases h2 : 0 ≤ b.f1 ∧ b.f1 ≤ 500
   ·rw [if_pos (by simpa using h2)]
    by_cases h3 : 0 ≤ b.f2 ∧ b.f2 ≤ 50
    ·rw [if_pos (by simpa using h3)]
     by_cases h4 : 0 ≤ b.f3 ∧ b.f3 ≤ 12
     ·rw [if_pos (by simpa using h4)]
      have : okS b = true := by unfold okS; rw [decide_eq_true_iff]; omega
      rw [this, Bool.true_and]
     ·rw [if_neg (by simpa using h4), hno (by unfold okS; rw [decide_eq_false_iff_not]; omega)]
    ·rw [if_neg (by simpa using h3), hno (by unfold okS; rw [decide_eq_false_iff_not]; omega)]
   ·rw [if_neg (by simpa using h2), hno (by unfold okS; rw [decide_eq_false_iff_not]; omega)]
  ·rw [if_neg (by simpa using h1), hno (by unfold okS; rw [decide_eq_false_iff_not]; omega)]
theorem Qcg (l : List S100) {k : Nat} (hk : 10 < k) : Qau.f k l = some (chk l) := by
 unfold Qau.f chk; by_cases h1 : (l.length : Int) > 4
 ·rw [if_pos h1, if_pos h1]
 ·rw [if_neg h1, if_neg h1]
  by_cases h2 : (l.length : Int) = 0
  ·rw [if_pos h2, if_pos h2]
  ·rw [if_neg h2, if_neg h2]
   exact Qdm l (by omega) l.length k 0 (Nat.zero_add _) (by omega)
theorem Qdi (a b c d e : Int) : Qa4.f a b c d e = some (okC a b c d e) := by
 unfold Qa4.f okC; simp only [In_eq, Span_eq, Option.bind_some]; by_cases h1 : 1 ≤ a ∧ a ≤ b ∧ b ≤ 2000
 ·rw [if_pos (by simpa using h1)]
  by_cases h2 : 0 ≤ c ∧ c ≤ d ∧ d ≤ 300
  ·rw [if_pos (by simpa using h2)]
   congr 1
   exact decide_eq_decide.2 (by omega)
  ·rw [if_neg (by simpa using h2)]
   congr 1; symm; rw [decide_eq_false_iff_not]; omega
 ·rw [if_neg (by simpa using h1)]
  congr 1; symm; rw [decide_eq_false_iff_not]; omega
theorem Qci {a c : Int} (h0 : 0 ≤ a) (h1 : a ≤ 2000) (h2 : 0 ≤ c) (h3 : c ≤ 300) : Qa0.f a c = some (upN a c) := by
 have h := Qbe h0 h1 h2 h3; unfold Qa0.f upN; generalize a * c = p at *; rw [w64 (x := p) (by omega), Int.tdiv_eq_ediv_of_nonneg (by omega), w64 (x := p / 1000) (by omega), w64 (x := p / 1000 * 1000) (by omega), w64 (x := p / 1000 + 1) (by omega)]; by_cases hc : p / 1000 * 1000 < p
 ·rw [if_pos hc]; congr 1; omega
 ·rw [if_neg hc]; congr 1; omega
theorem Qc1 {a b c d e : Int} (h : okC a b c d e = true) : Qay.f a b c d e = some (upN a c, upN b d) := by
 obtain ⟨h1, h2, h3⟩ := Qb8 h; unfold Qay.f; rw [Qci h1.1 h1.2.1 h2.1 h2.2.1, Qci h1.2.2.1 h1.2.2.2 h2.2.2.1 h2.2.2.2]; rfl
theorem Qb4 (l : List S100) (a b c d e : Int) {k : Nat} (hk : 10 < k) : Qba.f k l a b c d e = some (opn l a b c d e) := by
 unfold Qba.f opn; rw [Qcg l hk]; simp only [Option.bind_some]; by_cases h : chk l = 0
 ·rw [if_pos h, Qdi]
  simp only [Option.bind_some]; by_cases h2 : okC a b c d e = true
  ·rw [if_pos h2, if_pos h, if_pos h2]
  ·rw [if_neg h2, if_pos h, if_neg h2]
 ·rw [if_neg h, if_neg h]
theorem Qec (l : List S100) (m : List Int) (h : Mx l m) (hl : m.length = l.length) : ∀ (q k i : Nat) (s t : Int), i + q = m.length → q < k → -600 ≤ s → s ≤ 2400 * (i : Int) → -600 ≤ t → t ≤ 2400 * (i : Int) →
  Qas.l0 k l m (i : Int) s t = some (s + tot Qa5 (l.drop i) (m.drop i), t + tot Qbm (l.drop i) (m.drop i)) := by
 have h4 := h.l4; intro q
 induction q with
 | zero =>
  intro k i s t hi hk _ _ _ _; obtain ⟨k, rfl⟩ : ∃ z, k = z + 1 := ⟨k - 1, by omega⟩
  simp only [Qas.l0]; rw [if_neg (by omega), List.drop_of_length_le (l := m) (by omega)]
  simp [tot]
 | succ q ih =>
  intro k i s t hi hk hs0 hs1 ht0 ht1; obtain ⟨k, rfl⟩ : ∃ z, k = z + 1 := ⟨k - 1, by omega⟩
  have h1 : i < m.length := by omega
  have h2 : i < l.length := by omega
  have hf := Qb3 (h.ok l[i] (List.getElem_mem h2)); have hg := most_ok (h.ok l[i] (List.getElem_mem h2)); have hx := h.m12 m[i] (List.getElem_mem h1); have hp := Qbe hx.1 hx.2 hf.1 hf.2; have hq := Qbe hx.1 hx.2 hg.1 hg.2; simp only [Qas.l0]; rw [if_pos (by omega), if_pos (by omega), if_pos (by omega), Qa2 h2, YT h1, Qbi h2 h1, Qbi h2 h1]; have e : l[i].f0.f0 = Qa5 l[i] := rfl; have e' : l[i].f0.f1 = Qbm l[i] := rfl; rw [e, e', w64 (x := m[i] * Qa5 l[i]) (by omega), w64 (x := s + m[i] * Qa5 l[i]) (by omega), w64 (x := m[i] * Qbm l[i]) (by omega), w64 (x := t + m[i] * Qbm l[i]) (by omega), w64 (by omega), show ((i : Int) + 1) = ((i + 1 : Nat) : Int) by omega, ih k (i + 1) _ _ (by omega) (by omega) (by omega) (by omega) (by omega) (by omega), Int.add_assoc, Int.add_assoc]
theorem Qee {l : List S100} {m : List Int} (h : Mx l m) (hl : m.length = l.length) {a b c d e : Int} (hc : okC a b c d e = true) {k : Nat} (hk : m.length < k) : Qas.f k l a b c d e m = some (lo l b d m, hi l a c m) := by
 obtain ⟨h1, h2, h3⟩ := Qb8 hc; have g1 := Qcq h1.1 h1.2.1 h2.1 h2.2.1; have g2 := Qcq h1.2.2.1 h1.2.2.2 h2.2.2.1 h2.2.2.2; unfold Qas.f; rw [Qc1 hc]; simp only [Option.bind_some]; rw [w64 (x := -upN b d) (by omega), w64 (x := -upN a c) (by omega)]; have := Qec l m h hl m.length k 0 (-upN b d) (-upN a c) (Nat.zero_add _) hk (by omega) (by omega) (by omega) (by omega); have e0 : ((0 : Nat) : Int) = 0 := rfl; rw [e0] at this; rw [this]; unfold lo hi; simp only [List.drop_zero]
 congr 2 <;> omega
theorem Qc5 (l : List S100) (m : List Int) (h : Mx l m) (hl : m.length = l.length) : ∀ (q k i : Nat) (s : Int), i + q = m.length → q < k → 0 ≤ s → s ≤ 12 * 50 * (i : Int) →
  Qaw.l0 k l m s (i : Int) = some (s + tot Qa1 (l.drop i) (m.drop i)) := by
 have h4 := h.l4; intro q
 induction q with
 | zero =>
  intro k i s hi hk _ _; obtain ⟨k, rfl⟩ : ∃ z, k = z + 1 := ⟨k - 1, by omega⟩
  simp only [Qaw.l0]; rw [if_neg (by omega), List.drop_of_length_le (l := m) (by omega)]
  simp [tot]
 | succ q ih =>
  intro k i s hi hk hs0 hs1; obtain ⟨k, rfl⟩ : ∃ z, k = z + 1 := ⟨k - 1, by omega⟩
  have h1 : i < m.length := by omega
  have h2 : i < l.length := by omega
  have hf := Qch (h.ok l[i] (List.getElem_mem h2)); have hx := h.m12 m[i] (List.getElem_mem h1); have hp := Qbe hx.1 hx.2 hf.1 hf.2; simp only [Qaw.l0]; rw [if_pos (by omega), if_pos (by omega), if_pos (by omega), Qa2 h2, YT h1, Qbi h2 h1]; have e : l[i].f2 = Qa1 l[i] := rfl; rw [e, w64 (x := m[i] * Qa1 l[i]) (by omega), w64 (x := s + m[i] * Qa1 l[i]) (by omega), w64 (by omega), show ((i : Int) + 1) = ((i + 1 : Nat) : Int) by omega, ih k (i + 1) _ (by omega) (by omega) (by omega) (by omega), Int.add_assoc]
theorem Qc6 {l : List S100} {m : List Int} (h : Mx l m) (hl : m.length = l.length) {k : Nat} (hk : m.length < k) : Qaw.f k l m = some (tot Qa1 l m) := by
 unfold Qaw.f; have := Qc5 l m h hl m.length k 0 0 (Nat.zero_add _) hk (by omega) (by omega)
 simpa using this
theorem Qdf (low t q s h need : Int) (hl : 0 ≤ low ∧ low ≤ 200) : ∀ (z k : Nat) (x y : Int), 0 ≤ x → x ≤ y → y ≤ 1000 → (y - x).toNat ≤ z → z < k →
  ∃ r, Qo.l0 k x y low t q s h need = some r ∧ x ≤ r ∧ r ≤ y ∧ (∀ n, x ≤ n → n < r → ¬ n * low ≥ need) ∧ (r < y → r * low ≥ need) := by
 intro z
 induction z with
 | zero =>
  intro k x y h0 h1 h2 h3 h4; obtain ⟨k, rfl⟩ : ∃ z, k = z + 1 := ⟨k - 1, by omega⟩
  refine ⟨x, ?_, by omega, by omega, fun n _ _ => by omega, fun _ => by omega⟩; simp only [Qo.l0]; rw [if_neg (by omega)]
 | succ z ih =>
  intro k x y h0 h1 h2 h3 h4; obtain ⟨k, rfl⟩ : ∃ z, k = z + 1 := ⟨k - 1, by omega⟩
  simp only [Qo.l0]; by_cases hxy : x < y
  ·rw [if_pos hxy, w64 (x := x + y) (by omega)]
   have e : IntKind.u64.wrap (x + y) = x + y := by show (x + y) % 18446744073709551616 = _; omega
   rw [e, w64 (x := (x + y) / 2) (by omega), w64 (x := (x + y) / 2 + 1) (by omega)]; generalize hm : (x + y) / 2 = m; have hm1 : x ≤ m ∧ m < y := by omega
   have hp := Qbe (a := m) (A := 1000) (by omega) (by omega) hl.1 hl.2; unfold JU.f; simp only [Option.bind_some]; rw [w64 (x := m * low) (by omega)]; by_cases hc : m * low ≥ need
   ·rw [if_pos (by simpa using hc)]
    obtain ⟨r, g1, g2, g3, g4, g5⟩ := ih k x m h0 (by omega) (by omega) (by omega) (by omega); refine ⟨r, g1, g2, by omega, g4, fun _ => ?_⟩; by_cases hr : r < m
    ·exact g5 hr
    ·rw [show r = m by omega]; exact hc
   ·rw [if_neg (by simpa using hc)]
    obtain ⟨r, g1, g2, g3, g4, g5⟩ := ih k (m + 1) y (by omega) (by omega) (by omega) (by omega) (by omega); refine ⟨r, g1, by omega, g3, fun n h5 h6 => ?_, g5⟩; by_cases hn : n ≤ m
    ·intro hge
     have : n * low ≤ m * low := Int.mul_le_mul_of_nonneg_right hn hl.1; omega
    ·exact g4 n (by omega) h6
  ·rw [if_neg hxy]
   exact ⟨x, rfl, by omega, by omega, fun n _ _ => by omega, fun _ => by omega⟩
def catL {β : Type} (g : Nat → List β) : Nat → List β
 | 0 => []
 | n + 1 => catL g n ++ g n
theorem Qcy {β : Type} {f : Nat → Option (List β)} {g : Nat → List β} : ∀ {n : Nat}, (∀ p < n, f p = some (g p)) → catO f n = some (catL g n)
 | 0, _ => rfl
 | n + 1, h => by
  unfold catO catL; rw [Qcy (fun p hp => h p (by omega)), h n (by omega)]; rfl
theorem Qcf {α β : Type} (u v : α → β → α) (f g : Nat → List β) : ∀ (n : Nat) (a : α), (∀ p < n, ∀ a, (f p).foldl u a = (g p).foldl v a) → (catL f n).foldl u a = (catL g n).foldl v a
 | 0, _, _ => rfl
 | n + 1, a, h => by
  unfold catL; rw [List.foldl_append, List.foldl_append, Qcf u v f g n a (fun p hp => h p (by omega)), h n (by omega)]
def allA (l : List S100) : Nat → List Int → List (List Int)
 | 0, m => catL (fun p => [m ++ [(p : Int)]]) ((Qf l m.length).f3 + 1).toNat
 | d + 1, m => catL (fun p => allA l d (m ++ [(p : Int)])) ((Qf l m.length).f3 + 1).toNat
def upd (l : List S100) (b d e : Int) (x : List Int × Bool) (m : List Int) : List Int × Bool :=
 if lo l b d m ≥ 0 ∧ tot Qa1 l m ≤ e ∧ (x.2 = false ∨ tot Qav l m < tot Qav l x.1) then (m, true) else x
def updS (l : List S100) (e : Int) (x : List Int × Bool) (m : List Int) : List Int × Bool :=
 if tot Qa1 l m ≤ e ∧ (x.2 = false ∨ tot Qav l m < tot Qav l x.1) then (m, true) else x
theorem Qb1 (f : S100 → Int) (l : List S100) (m : List Int) (p : Int) (h : m.length < l.length) : tot f l (m ++ [p]) = tot f l m + p * f (Qf l m.length) := by
 rw [Qa2 h]; unfold tot
 induction m generalizing l with
 | nil =>
  cases l with
  | nil => simp at h
  | cons s l => simp
 | cons x m ih =>
  cases l with
  | nil => simp at h
  | cons s l =>
   simp only [List.length_cons] at h; have := ih l (by omega); simp only [List.cons_append, List.zip_cons_cons, List.map_cons, List.sum_cons, List.length_cons, List.getElem_cons_succ]; rw [this, Int.add_assoc]
theorem block (l : List S100) (b d e : Int) (m : List Int) (hm : m.length < l.length) (hs : okS (Qf l m.length) = true) (r : Int) (hr0 : 0 ≤ r)
  (hlt : ∀ n, 0 ≤ n → n < r → ¬ n * (Qf l m.length).f0.f0 ≥ upN b d - tot Qa5 l m) (hge : r ≤ (Qf l m.length).f3 → r * (Qf l m.length).f0.f0 ≥ upN b d - tot Qa5 l m) (n : Nat) (hn : (n : Int) ≤ (Qf l m.length).f3 + 1) (x : List Int × Bool) :
  (catL (fun p => [m ++ [(p : Int)]]) n).foldl (upd l b d e) x = if r < n then updS l e x (m ++ [r]) else x := by
 generalize hsd : Qf l m.length = s at *; have hs' := hs; unfold okS at hs'; rw [decide_eq_true_iff] at hs'
 have hlo : ∀ p : Int, lo l b d (m ++ [p]) = p * s.f0.f0 - (upN b d - tot Qa5 l m) := fun p => by
  unfold lo; rw [Qb1 _ _ _ _ hm, hsd]; unfold Qa5; omega
 have hst : ∀ p : Int, tot Qa1 l (m ++ [p]) = tot Qa1 l m + p * s.f2 := fun p => by rw [Qb1 _ _ _ _ hm, hsd]; rfl
 have hpr : ∀ p : Int, tot Qav l (m ++ [p]) = tot Qav l m + p * s.f1 := fun p => by rw [Qb1 _ _ _ _ hm, hsd]; rfl
 induction n with
 | zero => rw [if_neg (by omega)]; rfl
 | succ n ih =>
  unfold catL; rw [List.foldl_append, ih (by omega)]; simp only [List.foldl_cons, List.foldl_nil]; by_cases h1 : r < (n : Int)
  ·rw [if_pos h1, if_pos (by omega)]
   have hst' : r * s.f2 ≤ n * s.f2 := Int.mul_le_mul_of_nonneg_right (by omega) (by omega); have hpr' : r * s.f1 ≤ n * s.f1 := Int.mul_le_mul_of_nonneg_right (by omega) (by omega); unfold upd; rw [if_neg]; rintro ⟨_, h3, h4⟩; unfold updS at h4; rw [hst] at h3
   split at h4
   ·simp only at h4
    rcases h4 with h4 | h4
    ·cases h4
    ·rw [hpr, hpr] at h4; omega
   ·rename_i h5
    apply h5
    refine ⟨by rw [hst]; omega, ?_⟩
    rcases h4 with h4 | h4
    ·exact .inl h4
    ·right; rw [hpr] at h4 ⊢; omega
  ·rw [if_neg h1]
   by_cases h2 : r = (n : Int)
   ·rw [if_pos (by omega)]
    unfold upd updS; have := hge (by omega); subst h2; by_cases h3 : tot Qa1 l (m ++ [(n : Int)]) ≤ e ∧ (x.2 = false ∨ tot Qav l (m ++ [(n : Int)]) < tot Qav l x.1)
    ·rw [if_pos ⟨by rw [hlo]; omega, h3⟩, if_pos h3]
    ·rw [if_neg (fun h => h3 h.2), if_neg h3]
   ·rw [if_neg (by omega)]
    unfold upd; rw [if_neg]; rintro ⟨h3, _⟩; have := hlt n (by omega) (by omega); rw [hlo] at h3; omega
theorem Mx.snoc {l : List S100} {m : List Int} (h : Mx l m) (hm : m.length < l.length) {p : Int} (h0 : 0 ≤ p) (h1 : p ≤ 12) : Mx l (m ++ [p]) :=
 ⟨h.ok, by simp; omega, h.l4, fun x hx => by
  rcases List.mem_append.1 hx with hx | hx
  ·exact h.m12 x hx
  ·rw [List.mem_singleton.1 hx]; exact ⟨h0, h1⟩⟩
theorem Qbj {s : S100} (h : okS s = true) : 0 ≤ s.f3 ∧ s.f3 ≤ 12 := by unfold okS at h; rw [decide_eq_true_iff] at h; omega
theorem Qd1 (l : List S100) (a b c d e : Int) (hc : okC a b c d e = true) : ∀ (q k : Nat) (m : List Int), m.length + q + 1 = l.length → 2000 < k → Mx l m →
  ∃ ms, Q8.l k a b c d e l q m = some ms ∧ (∀ x, ms.foldl (updS l e) x = (allA l q m).foldl (upd l b d e) x) ∧ ∀ z ∈ ms, Mx l z ∧ z.length = l.length := by
 obtain ⟨hu1, hu2, hu3⟩ := Qb8 hc; intro q
 induction q with
 | zero =>
  intro k m hl hk hm; have h4 := hm.l4; have hlt : m.length < l.length := by omega
  have hs := hm.ok l[m.length] (List.getElem_mem hlt); have hs3 := Qbj hs; have hsr : Qf l (m.length : Int) = l[m.length] := Qa2 hlt; have hs' := hs; unfold okS at hs'; rw [decide_eq_true_iff] at hs'; have g1 := Qcq hu1.2.2.1 hu1.2.2.2 hu2.2.2.1 hu2.2.2.2; have g2 := Qd4 hm; obtain ⟨r, s1, s2, s3, s4, s5⟩ := Qdf l[m.length].f0.f0 l[m.length].f0.f1 l[m.length].f1 l[m.length].f2 l[m.length].f3 (upN b d - tot Qa5 l m) ⟨by omega, by omega⟩ 1000 k 0 (l[m.length].f3 + 1) (by omega) (by omega) (by omega) (by omega) (by omega)
  have hsyn : Jm.f k 0 a b c d e l m = some (r, decide (r ≤ l[m.length].f3)) := by
   unfold Jm.f Qo.f; rw [if_pos (by omega), if_pos (by omega), Qc3 hc, Qd5 hm _ _ _ _ _ (by omega)]; simp only [Option.bind_some]; rw [hsr, w64 (x := l[m.length].f3 + 1) (by omega), w64 (x := upN b d - tot Qa5 l m) (by omega), s1]; rfl
  have hb := fun x => block l b d e m hlt (by rw [hsr]; exact hs) r s2 (by rw [hsr]; exact s4) (by rw [hsr]; exact fun h => s5 (by omega)) (l[m.length].f3 + 1).toNat (by rw [hsr]; omega) x
  unfold Q8.l; rw [if_pos (by omega), hsyn]; refine ⟨if r ≤ l[m.length].f3 then [m ++ [r]] else [], ?_, fun x => ?_, fun z hz => ?_⟩
  ·simp only [Option.bind_some, decide_eq_true_iff]
  ·unfold allA
   rw [hsr, hb x]; by_cases h : r ≤ l[m.length].f3
   ·rw [if_pos h, if_pos (by omega)]; rfl
   ·rw [if_neg h, if_neg (by omega)]; rfl
  ·by_cases h : r ≤ l[m.length].f3
   ·rw [if_pos h] at hz
    rw [List.mem_singleton.1 hz]; exact ⟨hm.snoc hlt s2 (by omega), by simp; omega⟩
   ·rw [if_neg h] at hz; cases hz
 | succ q ih =>
  intro k m hl hk hm; have h4 := hm.l4; have hlt : m.length < l.length := by omega
  have hs := hm.ok l[m.length] (List.getElem_mem hlt); have hs3 := Qbj hs; have hsr : Qf l (m.length : Int) = l[m.length] := Qa2 hlt
  have hall : ∀ p : Nat, ∃ ms, p < (l[m.length].f3 + 1).toNat → Q8.l k a b c d e l q (m ++ [(p : Int)]) = some ms ∧ (∀ x, ms.foldl (updS l e) x = (allA l q (m ++ [(p : Int)])).foldl (upd l b d e) x) ∧ ∀ z ∈ ms, Mx l z ∧ z.length = l.length := fun p => by
   by_cases hp : p < (l[m.length].f3 + 1).toNat
   ·obtain ⟨ms, h⟩ := ih k (m ++ [(p : Int)]) (by simp; omega) hk (hm.snoc hlt (by omega) (by omega))
    exact ⟨ms, fun _ => h⟩
   ·exact ⟨[], fun h => absurd h hp⟩
  obtain ⟨g, hg⟩ := Classical.axiomOfChoice hall; unfold Q8.l; rw [hsr, if_pos ⟨by omega, by omega, by omega, by omega⟩, Qcy (g := g) fun p hp => (hg p hp).1]; refine ⟨_, rfl, fun x => ?_, ?_⟩
  ·unfold allA
   rw [hsr]; exact Qcf _ _ g _ _ x fun p hp y => (hg p hp).2.1 y
  ·have : ∀ n, n ≤ (l[m.length].f3 + 1).toNat → ∀ z ∈ catL g n, Mx l z ∧ z.length = l.length := by
    intro n
    induction n with
    | zero => intro _ z hz; cases hz
    | succ n ihn =>
     intro hn z hz; unfold catL at hz
     rcases List.mem_append.1 hz with hz | hz
     ·exact ihn (by omega) z hz
     ·exact (hg n (by omega)).2.2 z hz
   exact this _ (Nat.le_refl _)
theorem Qc7 {l : List S100} {m best : List Int} {ok : Bool} (hm : Mx l m) (hb : ok = true → Mx l best) (a b c d e : Int) {k : Nat} (hk : 10 < k) : Q4.f k a b c d e l m best ok = some (updS l e (best, ok) m) := by
 have h4 := hm.l4; have hl := hm.len
 have hcl : Q5.f m = some m := by
  unfold Q5.f; simp only [Option.bind_some, List.length_nil, List.nil_append]; rw [if_pos (by omega)]
 unfold Q4.f updS; rw [Qdg hm _ _ _ _ _ (by omega)]; simp only [Option.bind_some]; by_cases h1 : tot Qa1 l m ≤ e
 ·rw [if_pos h1]
  cases ok with
  | true =>
   have hbm := hb rfl; have hbl := hbm.len; rw [if_pos rfl, Qbn hm _ _ _ _ _ (by omega), Qbn hbm _ _ _ _ _ (by omega)]; simp only [Option.bind_some]; by_cases h2 : tot Qav l m < tot Qav l best
   ·rw [if_pos h2, hcl, if_pos ⟨h1, .inr h2⟩]; rfl
   ·rw [if_neg h2, if_neg]
    rintro ⟨_, h | h⟩
    ·cases h
    ·exact h2 h
  | false =>
   rw [if_neg (by simp), hcl, if_pos ⟨h1, .inl rfl⟩]; rfl
 ·rw [if_neg h1, if_neg (fun h => h1 h.1)]
theorem updS_Mx {l : List S100} {m : List Int} {x : List Int × Bool} {e : Int} (hm : Mx l m ∧ m.length = l.length) (hx : x.2 = true → Mx l x.1 ∧ x.1.length = l.length) : (updS l e x m).2 = true → Mx l (updS l e x m).1 ∧ (updS l e x m).1.length = l.length := by
 unfold updS
 split
 ·exact fun _ => hm
 ·exact hx
theorem Qb7 (l : List S100) (a b c d e : Int) {k : Nat} (hk : 10 < k) : ∀ (ms : List (List Int)) (best : List Int) (ok : Bool), (∀ z ∈ ms, Mx l z ∧ z.length = l.length) → (ok = true → Mx l best ∧ best.length = l.length) →
  Qv.l k a b c d e l ms best ok = some (ms.foldl (updS l e) (best, ok)) ∧ ((ms.foldl (updS l e) (best, ok)).2 = true → Mx l (ms.foldl (updS l e) (best, ok)).1 ∧ (ms.foldl (updS l e) (best, ok)).1.length = l.length)
 | [], best, ok, _, hb => ⟨rfl, hb⟩
 | m :: ms, best, ok, hm, hb => by
  have h1 := Qc7 (hm m (by simp)).1 (fun h => (hb h).1) a b c d e hk; have h2 := updS_Mx (e := e) (x := (best, ok)) (hm m (by simp)) hb; unfold Qv.l; rw [h1]; simp only [Option.bind_some, List.foldl_cons]; exact Qb7 l a b c d e hk ms _ _ (fun z hz => hm z (by simp [hz])) h2
def best (l : List S100) (b d e : Int) : List Int × Bool := (allA l (l.length - 1) []).foldl (upd l b d e) ([], false)
theorem Qbo {l : List S100} {a b c d e : Int} (hl : chk l = 0) (hc : okC a b c d e = true) {k : Nat} (hk : 2000 < k) : Qv.f k a b c d e l = some (best l b d e) ∧ ((best l b d e).2 = true → Mx l (best l b d e).1 ∧ (best l b d e).1.length = l.length) := by
 obtain ⟨h1, h2, h3⟩ := chk0 hl; obtain ⟨ms, g1, g2, g3⟩ := Qd1 l a b c d e hc (l.length - 1) k [] (by simp; omega) hk ⟨h3, by simp, h2, by simp⟩; have g4 := Qb7 l a b c d e (k := k) (by omega) ms [] false g3 (by simp); rw [g2] at g4; unfold Qv.f; rw [if_neg (by omega), g1]; exact g4
theorem Qdt (l : List S100) (m : List Int) (h : Mx l m) (hl : m.length = l.length) : ∀ (q k i : Nat) (s : Int), i + q = m.length → q < k → 0 ≤ s → s ≤ 12 * 500 * (i : Int) →
  Qax.l0 k l m s (i : Int) = some (s + tot Qav (l.drop i) (m.drop i)) := by
 have h4 := h.l4; intro q
 induction q with
 | zero =>
  intro k i s hi hk _ _; obtain ⟨k, rfl⟩ : ∃ z, k = z + 1 := ⟨k - 1, by omega⟩
  simp only [Qax.l0]; rw [if_neg (by omega), List.drop_of_length_le (l := m) (by omega)]
  simp [tot]
 | succ q ih =>
  intro k i s hi hk hs0 hs1; obtain ⟨k, rfl⟩ : ∃ z, k = z + 1 := ⟨k - 1, by omega⟩
  have h1 : i < m.length := by omega
  have h2 : i < l.length := by omega
  have hf := Qb2 (h.ok l[i] (List.getElem_mem h2)); have hx := h.m12 m[i] (List.getElem_mem h1); have hp := Qbe hx.1 hx.2 hf.1 hf.2; simp only [Qax.l0]; rw [if_pos (by omega), if_pos (by omega), if_pos (by omega), Qa2 h2, YT h1, Qbi h2 h1]; have e : l[i].f1 = Qav l[i] := rfl; rw [e, w64 (x := m[i] * Qav l[i]) (by omega), w64 (x := s + m[i] * Qav l[i]) (by omega), w64 (by omega), show ((i : Int) + 1) = ((i + 1 : Nat) : Int) by omega, ih k (i + 1) _ (by omega) (by omega) (by omega) (by omega), Int.add_assoc]
theorem Qc9 {l : List S100} {m : List Int} (h : Mx l m) (hl : m.length = l.length) {k : Nat} (hk : m.length < k) : Qax.f k l m = some (tot Qav l m) := by
 unfold Qax.f; have := Qdt l m h hl m.length k 0 0 (Nat.zero_add _) hk (by omega) (by omega)
 simpa using this
abbrev mxs (l : List S100) (n : Nat) : List Int := (l.drop n).map fun s => s.f3
theorem Qct {l : List S100} {n : Nat} (h : n < l.length) : mxs l n = l[n].f3 :: mxs l (n + 1) := by
 unfold mxs; rw [List.drop_eq_getElem_cons h, List.map_cons]
theorem Qdp (Q R : List Int) (x : Int) : rd (Q ++ x :: R) (Q.length : Int) = x := by
 rw [YT (by simp)]; simp
theorem Qcw (Q R : List Int) (x y : Int) : (Q ++ x :: R).set ((Q.length : Nat) : Int).toNat y = Q ++ y :: R := by
 rw [Int.toNat_natCast, List.set_append_right _ _ (Nat.le_refl _), Nat.sub_self, List.set_cons_zero]
theorem Qcj (l : List S100) (hl : l.length ≤ 4) (ok : ∀ s ∈ l, okS s = true) (Q R : List Int) (x : Int) (h : (Q ++ x :: R).length = l.length) (hx : 0 ≤ x ∧ x ≤ 12) (k : Nat) :
  Qar.l0 (k + 1) l (Q ++ x :: R) (Q.length : Int) = if x + 1 ≤ (Qf l (Q.length : Int)).f3 then some (true, Q ++ (x + 1) :: R) else Qar.l0 k l (Q ++ 0 :: R) ((Q.length : Int) - 1) := by
 have hq : Q.length < l.length := by rw [← h]; simp
 simp only [Qar.l0]; rw [if_pos (by omega), if_pos (by omega), if_pos (by rw [h]; omega), Qdp, w64 (x := x + 1) (by omega), Qcw]; simp only [Option.bind_some]; rw [if_pos (by omega), Qdp]; by_cases hc : x + 1 ≤ (Qf l (Q.length : Int)).f3
 ·rw [if_pos hc, if_pos hc]
 ·rw [if_neg hc, if_neg hc, Qcw, w64 (by omega)]
theorem Qcr (l : List S100) (hl : l.length ≤ 4) (ok : ∀ s ∈ l, okS s = true) : ∀ (r : Nat) (Q : List Int) (k : Nat), Q.length + r = l.length →
  Qar.l0 (k + r) l (Q ++ mxs l Q.length) ((l.length : Int) - 1) = Qar.l0 k l (Q ++ List.replicate r 0) ((Q.length : Int) - 1) := by
 intro r
 induction r with
 | zero =>
  intro Q k h; rw [show mxs l Q.length = [] by unfold mxs; rw [List.drop_of_length_le (by omega)]; rfl, show (l.length : Int) = (Q.length : Int) by omega]; rfl
 | succ r ih =>
  intro Q k h; have hq : Q.length < l.length := by omega
  have hs := Qbj (ok l[Q.length] (List.getElem_mem hq)); rw [Qct hq]; have h1 := ih (Q ++ [l[Q.length].f3]) (k + 1) (by simp; omega); have e : (Q ++ [l[Q.length].f3]).length = Q.length + 1 := by simp
  rw [e, List.append_assoc, List.append_assoc] at h1; have h2 := Qcj l hl ok Q (List.replicate r 0) l[Q.length].f3 (by simp; omega) (by omega) k; rw [Qa2 hq, if_neg (by omega)] at h2; rw [show k + (r + 1) = k + 1 + r by omega]; have e2 : (((Q.length + 1 : Nat) : Int) - 1) = (Q.length : Int) := by omega
  rw [e2] at h1; exact h1.trans h2
theorem next_eq (l : List S100) (hl : l.length ≤ 4) (ok : ∀ s ∈ l, okS s = true) (r : Nat) (Q : List Int) (x : Int) (h : Q.length + r + 1 = l.length) (hx : 0 ≤ x) (hx2 : x + 1 ≤ (Qf l (Q.length : Int)).f3) {k : Nat} (hk : 10 < k) :
  Qar.f k l (Q ++ x :: mxs l (Q.length + 1)) = some (true, Q ++ (x + 1) :: List.replicate r 0) := by
 have hq : Q.length < l.length := by omega
 have hs := Qbj (ok l[Q.length] (List.getElem_mem hq)); rw [Qa2 hq] at hx2; obtain ⟨k, rfl⟩ : ∃ z, k = z + 1 + r := ⟨k - 1 - r, by omega⟩
 unfold Qar.f; have h1 := Qcr l hl ok r (Q ++ [x]) (k + 1) (by simp; omega); have e : (Q ++ [x]).length = Q.length + 1 := by simp
 rw [e, List.append_assoc, List.append_assoc, show (((Q.length + 1 : Nat) : Int) - 1) = (Q.length : Int) by omega] at h1; have h2 := Qcj l hl ok Q (List.replicate r 0) x (by simp; omega) (by omega) k; rw [Qa2 hq, if_pos hx2] at h2; rw [w64 (by omega)]; exact h1.trans h2
theorem Qdy (l : List S100) (hl : l.length ≤ 4) (ok : ∀ s ∈ l, okS s = true) {k : Nat} (hk : 10 < k) : Qar.f k l (mxs l 0) = some (false, List.replicate l.length 0) := by
 obtain ⟨k, rfl⟩ : ∃ z, k = z + 1 + l.length := ⟨k - 1 - l.length, by omega⟩
 unfold Qar.f; rw [w64 (by omega)]; have h1 := Qcr l hl ok l.length [] (k + 1) (by simp); refine h1.trans ?_; simp only [Qar.l0]; rw [if_neg (by simp)]; rfl
theorem Qbp {β : Type} (g : Nat → List β) (n : Nat) : catL g (n + 1) = catL g n ++ g n := rfl
def allB (l : List S100) : Nat → List Int → List (List Int)
 | 0, m => [m]
 | r + 1, m => catL (fun p => allB l r (m ++ [(p : Int)])) ((Qf l m.length).f3 + 1).toNat
theorem Qdd (l : List S100) (r : Nat) (m : List Int) : allB l (r + 1) m = catL (fun p => allB l r (m ++ [(p : Int)])) ((Qf l m.length).f3 + 1).toNat := rfl
theorem Qc8 (l : List S100) : ∀ (q : Nat) (m : List Int), allA l q m = allB l (q + 1) m
 | 0, m => rfl
 | q + 1, m => by
  unfold allA allB
  congr 1
  funext p
  exact Qc8 l q _
theorem Qea (l : List S100) (h : l.length ≤ 100) : ∀ (q k i : Nat), i + q = l.length → q < k → ∃ b, Qat.l0 k l (i : Int) = some b := by
 intro q
 induction q with
 | zero =>
  intro k i hi hk; obtain ⟨k, rfl⟩ : ∃ z, k = z + 1 := ⟨k - 1, by omega⟩
  refine ⟨true, ?_⟩; simp only [Qat.l0]; rw [if_neg (by omega)]
 | succ q ih =>
  intro k i hi hk; obtain ⟨k, rfl⟩ : ∃ z, k = z + 1 := ⟨k - 1, by omega⟩
  simp only [Qat.l0]; rw [if_pos (by omega), if_pos (by omega)]; by_cases hc : (Qf l (i : Int)).f3 > 4
  ·exact ⟨false, by rw [if_pos hc]⟩
  ·rw [if_neg hc, w64 (by omega)]
   exact ih k (i + 1) (by omega) (by omega)
theorem Qc0 (l : List S100) (h : l.length ≤ 100) {k : Nat} (hk : 200 < k) : ∃ b, Qat.f k l = some b := by
 obtain ⟨k, rfl⟩ : ∃ z, k = z + 1 := ⟨k - 1, by omega⟩
 unfold Qat.f; by_cases h3 : (l.length : Int) < 3
 ·refine ⟨true, ?_⟩
  rw [if_pos h3]; simp only [Qat.j0]; rw [if_pos trivial]
 ·rw [if_neg h3, Qcg l (by omega)]
  simp only [Option.bind_some, Qat.j0]; by_cases hc : (chk l != 0) = true
  ·exact ⟨true, by rw [if_pos hc]⟩
  ·rw [if_neg hc]
   exact Qea l h l.length k 0 (Nat.zero_add _) (by omega)
end Go.Proofs.YtjaapkkpmegkfaaGreat.P
