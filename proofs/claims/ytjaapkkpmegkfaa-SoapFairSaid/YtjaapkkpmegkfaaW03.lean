/- Part 3 of what the law's proof needs beyond its base: words, walks of functions and plain facts. -/
import Derived.Test.YtjaapkkpmegkfaaW02
set_option linter.unusedVariables false
set_option linter.unusedSimpArgs false
namespace Go.Proofs.Ytjaapkkpmegkfaa.P
open Go.RowKit Go.Shelf Go.Proofs.YtjaapkkpmegkfaaW.PrintWords Go.Proofs.YtjaapkkpmegkfaaW.PrintLast Go.Proofs.YtjaapkkpmegkfaaW.PrintMore
set_option linter.unusedVariables false
set_option linter.unusedSimpArgs false
theorem Qbs (l : List Int) (h : l.length ≤ 100) : Qaq.f l = some l := by
 unfold Qaq.f
 simp only [Option.bind_some, List.length_nil, List.nil_append]
 rw [if_pos (by omega)]
theorem Qax {α : Type _} (n a : Nat) (v : α) (f : Nat → α) : ((List.range n).map f).set a v = (List.range n).map (fun i => if i = a then v else f i) := by
 apply List.ext_getElem
 ·simp
 ·intro i h1 h2
  simp only [List.getElem_set, List.getElem_map, List.getElem_range]
  by_cases h : a = i
  ·subst h; simp
  ·rw [if_neg h, if_neg (fun e => h e.symm)]
def Rr (r : Nat → Int) (a b : Nat) : Prop := r a > r b ∨ (r a = r b ∧ a < b)
def left (r : Nat → Int) (n : Nat) (T : List Nat) : List Int := (List.range n).map fun i => if i ∈ T then -1 else r i
def more (f : Nat → Int) (n : Nat) (T : List Nat) : List Int := (List.range n).map fun i => if i ∈ T then f i + 1 else f i
theorem left_set (r : Nat → Int) (n : Nat) (T : List Nat) (a : Nat) : (left r n T).set a (-1) = left r n (T ++ [a]) := by
 unfold left
 rw [Qax]
 apply List.map_congr_left
 intro i _
 by_cases h : i = a
 ·subst h; simp
 ·by_cases h' : i ∈ T <;> simp [h, h']
theorem Qbu (f : Nat → Int) (n : Nat) (T : List Nat) (a : Nat) (h : a ∉ T) : (more f n T).set a (f a + 1) = more f n (T ++ [a]) := by
 unfold more
 rw [Qax]
 apply List.map_congr_left
 intro i _
 by_cases h : i = a
 ·subst h; simp
 ·by_cases h' : i ∈ T <;> simp [h, h']
theorem next_at {r : Nat → Int} {n : Nat} {L : List Nat} (hp : L.Pairwise (Rr r)) (hin : ∀ i, i ∈ L ↔ i < n) (hr : ∀ i < n, 0 ≤ r i) {j : Nat} (hj : j < L.length)
  {a : Nat} (ha : a < n) (hmax : ∀ i < n, (left r n (L.take j)).getD i 0 ≤ (left r n (L.take j)).getD a 0) (hfst : ∀ i < a, (left r n (L.take j)).getD i 0 < (left r n (L.take j)).getD a 0) : a = L[j] := by
 have hg : ∀ i < n, (left r n (L.take j)).getD i 0 = if i ∈ L.take j then -1 else r i := fun i hi => by
  unfold left; rw [List.getD_eq_getElem?_getD, List.getElem?_map, List.getElem?_range hi]; rfl
 have hd : L.drop j = L[j] :: L.drop (j + 1) := List.drop_eq_getElem_cons hj
 have hsplit : L = L.take j ++ L[j] :: L.drop (j + 1) := by rw [← hd, List.take_append_drop]
 have hp2 := hp
 rw [hsplit, List.pairwise_append, List.pairwise_cons] at hp2
 obtain ⟨p1, ⟨p2, p3⟩, p4⟩ := hp2
 have hLn : L[j] < n := (hin _).1 (List.getElem_mem hj)
 have hnot : L[j] ∉ L.take j := fun h => by
  have := p4 _ h L[j] (List.mem_cons_self ..)
  unfold Rr at this; omega
 have h1 := hmax _ hLn
 rw [hg _ hLn, if_neg hnot, hg _ ha] at h1
 have hanot : a ∉ L.take j := fun h => by
  rw [if_pos h] at h1
  have := hr _ hLn; omega
 rw [if_neg hanot] at h1
 have haL : a ∈ L := (hin a).2 ha
 rw [hsplit] at haL
 rcases List.mem_append.1 haL with h | h
 ·exact absurd h hanot
 ·rcases List.mem_cons.1 h with h | h
  ·exact h
  ·have := p2 a h
   unfold Rr at this
   rcases this with h | ⟨h, h'⟩
   ·omega
   ·have := hfst _ h'
    rw [hg _ hLn, if_neg hnot, hg _ ha, if_neg hanot] at this
    omega
theorem miss (l : List Int) (m a : Int) : a * (l.map (fun p => m * p / a)).sum + (l.map (fun p => m * p % a)).sum = m * l.sum := by
 induction l with
 | nil => simp
 | cons p l ih =>
  simp only [List.map_cons, List.sum_cons, Int.mul_add]
  have := Int.mul_ediv_add_emod (m * p) a
  omega
theorem rests (l : List Int) (m a : Int) (ha : 0 < a) : 0 ≤ (l.map (fun p => m * p % a)).sum ∧ (l.map (fun p => m * p % a)).sum ≤ a * l.length := by
 induction l with
 | nil => simp
 | cons p l ih =>
  simp only [List.map_cons, List.sum_cons, List.length_cons]
  have h1 := Int.emod_nonneg (m * p) (show a ≠ 0 by omega)
  have h2 := Int.emod_lt_of_pos (m * p) ha
  have h3 : a * ((l.length + 1 : Nat) : Int) = a * l.length + a := by rw [Int.natCast_add, Int.mul_add]; omega
  omega
theorem Qa4 (l : List Int) (m : Int) (ha : 0 < l.sum) : 0 ≤ m - (l.map (fun p => m * p / l.sum)).sum ∧ m - (l.map (fun p => m * p / l.sum)).sum ≤ l.length := by
 have h1 := miss l m l.sum
 have ⟨h2, h3⟩ := rests l m l.sum ha
 generalize (l.map (fun p => m * p / l.sum)).sum = s at *
 generalize l.sum = a at *
 have h4 : a * (m - s) ≤ a * l.length := by rw [Int.mul_sub, Int.mul_comm a m]; omega
 have h5 : a * 0 ≤ a * (m - s) := by rw [Int.mul_sub, Int.mul_comm a m]; omega
 exact ⟨Int.le_of_mul_le_mul_left h5 ha, Int.le_of_mul_le_mul_left h4 ha⟩
theorem Qbe {r : Nat → Int} {a b c : Nat} (h : Rr r a b) (g : Rr r b c) : Rr r a c := by unfold Rr at *; omega
theorem Qar {r : Nat → Int} {a : Nat} : ¬ Rr r a a := by unfold Rr; omega
theorem Rr_total {r : Nat → Int} {a b : Nat} (h : a ≠ b) : Rr r a b ∨ Rr r b a := by unfold Rr; omega

theorem Qbk {r : Nat → Int} {x : Nat} (P Q : List Nat) (hs : (P ++ Q).Pairwise (Rr r)) (hlt : ∀ y ∈ P ++ Q, y < x)
  (hQ : ∀ y ∈ Q, r y < r x) (hP : ∀ y, P.getLast? = some y → r x ≤ r y) : (P ++ x :: Q).Pairwise (Rr r) := by
 rw [List.pairwise_append] at hs ⊢
 obtain ⟨h1, h2, h3⟩ := hs
 refine ⟨h1, ?_, ?_⟩
 ·rw [List.pairwise_cons]
  exact ⟨fun y hy => Or.inl (hQ y hy), h2⟩
 ·intro a ha b hb
  rcases List.mem_cons.1 hb with rfl | hb
  ·have hne : P ≠ [] := List.ne_nil_of_mem ha
   have hl := hP (P.getLast hne) (by rw [List.getLast?_eq_some_getLast hne])
   have hax : a < b := hlt a (List.mem_append_left _ ha)
   have hlx : P.getLast hne < b := hlt _ (List.mem_append_left _ (List.getLast_mem hne))
   by_cases he : a = P.getLast hne
   ·subst he; unfold Rr; omega
   ·have := List.dropLast_concat_getLast hne
    rw [← this] at h1 ha
    rw [List.pairwise_append] at h1
    have ha' : a ∈ P.dropLast := by
     rcases List.mem_append.1 ha with h | h
     ·exact h
     ·exact absurd (List.mem_singleton.1 h) he
    have := h1.2.2 a ha' (P.getLast hne) (by simp)
    unfold Rr at this ⊢; omega
  ·exact h3 a ha b hb
def rr (m a : Int) (ps : List Int) (i : Nat) : Int := m * ps.getD i 0 % a
def fl (m a : Int) (ps : List Int) (i : Nat) : Int := m * ps.getD i 0 / a
def cs (l : List Nat) : List Int := l.map fun i : Nat => (i : Int)
structure Okp (m a : Int) (ps : List Int) : Prop where
 len : ps.length ≤ 6
 one : ∀ p ∈ ps, 1 ≤ p ∧ p ≤ 100
 m0 : 0 ≤ m
 m1 : m ≤ 100000
 a0 : 1 ≤ a
 a1 : a ≤ 600
theorem Okp.get {m a : Int} {ps : List Int} (h : Okp m a ps) {i : Nat} (hi : i < ps.length) : 1 ≤ ps.getD i 0 ∧ ps.getD i 0 ≤ 100 := by
 rw [List.getD_eq_getElem?_getD, List.getElem?_eq_getElem hi]; exact h.one _ (List.getElem_mem hi)
theorem Okp.mul {m a : Int} {ps : List Int} (h : Okp m a ps) {i : Nat} (hi : i < ps.length) : 0 ≤ m * ps.getD i 0 ∧ m * ps.getD i 0 ≤ 10000000 := by
 have h1 := h.get hi
 have h2 : m * ps.getD i 0 ≤ 100000 * ps.getD i 0 := Int.mul_le_mul_of_nonneg_right h.m1 (by omega)
 exact ⟨Int.mul_nonneg h.m0 (by omega), by omega⟩
theorem Okp.rst {m a : Int} {ps : List Int} (h : Okp m a ps) {i : Nat} (hi : i < ps.length) : 0 ≤ rr m a ps i ∧ rr m a ps i < 600 := by
 have := Int.emod_nonneg (m * ps.getD i 0) (show a ≠ 0 by have := h.a0; omega)
 have := Int.emod_lt_of_pos (m * ps.getD i 0) (show 0 < a by have := h.a0; omega)
 have := h.a1
 unfold rr; omega
theorem Qbo {m a : Int} {ps : List Int} (h : Okp m a ps) {i j : Nat} (hi : i < ps.length) (hj : j < ps.length) : J9.f ((i : Int)) ((j : Int)) m ps a = some (rr m a ps j - rr m a ps i) := by
 have h1 := h.mul hi
 have h2 := h.mul hj
 have h3 := h.rst hi
 have h4 := h.rst hj
 have ha := h.a0
 unfold J9.f
 rw [if_pos (by omega), if_pos (by omega), if_neg (by omega), if_pos (by omega), if_pos (by omega)]
 have e1 : rd ps (i : Int) = ps.getD i 0 := rfl
 have e2 : rd ps (j : Int) = ps.getD j 0 := rfl
 rw [e1, e2, w64 (x := m * ps.getD j 0) (by omega), w64 (x := m * ps.getD i 0) (by omega), Int.tmod_eq_emod_of_nonneg h1.1, Int.tmod_eq_emod_of_nonneg h2.1]
 have e3 : m * ps.getD i 0 % a = rr m a ps i := rfl
 have e4 : m * ps.getD j 0 % a = rr m a ps j := rfl
 rw [e3, e4, w64 (by omega)]

theorem Qa8 (P S : List Nat) (x : Nat) : rd (cs (P ++ x :: S)) (P.length : Int) = (x : Int) := by
 rw [YT (by simp [cs])]; simp [cs]
theorem ins1 {m a : Int} {ps : List Int} (h : Okp m a ps) (i n x : Nat) (hx : x < ps.length) (hn : n ≤ 6) : ∀ (d : Nat) (P S : List Nat) (k : Nat), P.length = d → (∀ y ∈ P, y < ps.length) → (P ++ x :: S).length = n → d < k →
  ∃ P' P'' k', P = P' ++ P'' ∧ (∀ y ∈ P'', rr m a ps y < rr m a ps x) ∧ (∀ y, P'.getLast? = some y → rr m a ps x ≤ rr m a ps y) ∧ k ≤ k' + d + 1 ∧
   Qc.l1 k (cs (P ++ x :: S)) 0 (n : Int) (i : Int) (d : Int) m ps a = Qc.l0 k' (cs (P' ++ x :: (P'' ++ S))) 0 (n : Int) (wrap64 ((i : Int) + 1)) m ps a := by
 intro d
 induction d with
 | zero =>
  intro P S k hP hy hl hk
  obtain ⟨k, rfl⟩ : ∃ q, k = q + 1 := ⟨k - 1, by omega⟩
  obtain rfl := List.length_eq_zero_iff.1 hP
  refine ⟨[], [], k, rfl, by simp, by simp, by omega, ?_⟩
  simp only [Qc.l1]
  rw [if_neg (by omega)]; rfl
 | succ d ih =>
  intro P S k hP hy hl hk
  obtain ⟨k, rfl⟩ : ∃ q, k = q + 1 := ⟨k - 1, by omega⟩
  have hne : P ≠ [] := by intro e; subst e; simp at hP
  obtain ⟨Q, y, rfl⟩ : ∃ Q y, P = Q ++ [y] := ⟨P.dropLast, P.getLast hne, (List.dropLast_concat_getLast hne).symm⟩
  have hQ : Q.length = d := by simpa using hP
  have hyl : y < ps.length := hy y (by simp)
  have hlen : (cs (Q ++ [y] ++ x :: S)).length = n := by unfold cs; rw [List.length_map]; exact hl
  have hd : d + 1 < n := by rw [← hl]; simp; omega
  have hw : wrap64 (((d + 1 : Nat) : Int) - 1) = (d : Int) := by rw [w64 (by omega)]; omega
  have e1 : rd (cs (Q ++ [y] ++ x :: S)) ((d + 1 : Nat) : Int) = (x : Int) := by rw [← hP]; exact Qa8 _ _ _
  have e2 : rd (cs (Q ++ [y] ++ x :: S)) (d : Int) = (y : Int) := by
   rw [List.append_assoc, ← hQ]; exact Qa8 Q (x :: S) y
  have e3 : ((cs (Q ++ [y] ++ x :: S)).set ((d + 1 : Nat) : Int).toNat (y : Int)).set ((d : Nat) : Int).toNat (x : Int) = cs (Q ++ x :: (y :: S)) := by
   rw [Int.toNat_natCast, Int.toNat_natCast]
   simp only [cs, List.map_append, List.map_cons, List.map_nil, List.append_assoc, List.singleton_append]
   rw [List.set_append_right _ _ (by simp; omega), List.set_append_right _ _ (by simp; omega)]
   have g1 : d + 1 - (List.map (fun i : Nat => (i : Int)) Q).length = 1 := by simp; omega
   have g2 : d - (List.map (fun i : Nat => (i : Int)) Q).length = 0 := by simp; omega
   rw [g1, g2]; rfl
  have hstep := Qbo h hx hyl
  by_cases hc : rr m a ps y < rr m a ps x
  ·obtain ⟨P', P'', k', g1, g2, g3, g4, g5⟩ := ih Q (y :: S) k hQ (fun z hz => hy z (by simp [hz])) (by rw [← hl]; simp) (by omega)
   refine ⟨P', P'' ++ [y], k', by rw [g1]; simp, ?_, g3, by omega, ?_⟩
   ·intro z hz
    rcases List.mem_append.1 hz with hz | hz
    ·exact g2 z hz
    ·rw [List.mem_singleton.1 hz]; exact hc
   ·simp only [Qc.l1]
    rw [if_pos (by omega), if_pos (by omega), if_pos (by omega), hw, if_pos (by omega), if_pos (by omega), e1, e2, hstep]
    simp only [Option.bind_some]
    rw [if_pos (by omega), e3, g5]
    simp
  ·refine ⟨Q ++ [y], [], k, by simp, by simp, ?_, by omega, ?_⟩
   ·intro z hz
    rw [List.getLast?_concat] at hz
    obtain rfl := Option.some.inj hz
    omega
   ·simp only [Qc.l1]
    rw [if_pos (by omega), if_pos (by omega), if_pos (by omega), hw, if_pos (by omega), if_pos (by omega), e1, e2, hstep]
    simp only [Option.bind_some]
    rw [if_neg (by omega)]
    simp
theorem ins0 {m a : Int} {ps : List Int} (h : Okp m a ps) : ∀ (d : Nat) (P : List Nat) (k : Nat), P.length + d = ps.length → 10 * d < k → P.Pairwise (Rr (rr m a ps)) → (∀ y, y ∈ P ↔ y < P.length) →
  ∃ L : List Nat, Qc.l0 k (cs (P ++ (List.range' P.length d))) 0 (ps.length : Int) (P.length : Int) m ps a = some (cs L) ∧ L.Pairwise (Rr (rr m a ps)) ∧ (∀ y, y ∈ L ↔ y < ps.length) ∧ L.length = ps.length := by
 have h6 := h.len
 intro d
 induction d with
 | zero =>
  intro P k hP hk hs hm
  obtain ⟨k, rfl⟩ : ∃ q, k = q + 1 := ⟨k - 1, by omega⟩
  refine ⟨P, ?_, hs, by rw [show ps.length = P.length by omega]; exact hm, by omega⟩
  simp only [Qc.l0]
  rw [if_neg (by omega)]; simp
 | succ d ih =>
  intro P k hP hk hs hm
  obtain ⟨k, rfl⟩ : ∃ q, k = q + 1 := ⟨k - 1, by omega⟩
  simp only [Qc.l0]
  rw [if_pos (by omega), List.range'_succ]
  obtain ⟨P', P'', k', g1, g2, g3, g4, g5⟩ := ins1 h P.length ps.length P.length (by omega) h6 P.length P (List.range' (P.length + 1) d) k rfl (fun y hy => by have := (hm y).1 hy; omega) (by simp; omega) (by omega)
  rw [g5]
  have hlen : P'.length + P''.length = P.length := by rw [g1]; simp
  have hw : wrap64 ((P.length : Int) + 1) = ((P' ++ P.length :: P'').length : Int) := by rw [w64 (by omega)]; simp; omega
  have hnew : P' ++ P.length :: (P'' ++ List.range' (P.length + 1) d) = (P' ++ P.length :: P'') ++ List.range' (P' ++ P.length :: P'').length d := by
   have : (P' ++ P.length :: P'').length = P.length + 1 := by simp; omega
   rw [this]; simp
  rw [hw, hnew]
  refine ih (P' ++ P.length :: P'') k' (by simp; omega) (by omega) ?_ ?_
  ·exact Qbk P' P'' (by rw [← g1]; exact hs) (fun y hy => by rw [← g1] at hy; exact (hm y).1 hy) g2 g3
  ·intro y
   have : (P' ++ P.length :: P'').length = P.length + 1 := by simp; omega
   rw [this]
   constructor
   ·intro hy
    rcases List.mem_append.1 hy with hy | hy
    ·have := (hm y).1 (by rw [g1]; exact List.mem_append_left _ hy); omega
    ·rcases List.mem_cons.1 hy with hy | hy
     ·omega
     ·have := (hm y).1 (by rw [g1]; exact List.mem_append_right _ hy); omega
   ·intro hy
    by_cases e : y = P.length
    ·subst e; simp
    ·have := (hm y).2 (by omega)
     rw [g1] at this
     rcases List.mem_append.1 this with h | h
     ·exact List.mem_append_left _ h
     ·exact List.mem_append_right _ (List.mem_cons_of_mem _ h)
theorem Qbj {m a : Int} {ps : List Int} (h : Okp m a ps) (h1 : 1 ≤ ps.length) {k : Nat} (hk : 100 < k) : ∃ L : List Nat, Qz.f k (cs (List.range ps.length)) m ps a = some (cs L) ∧ L.Pairwise (Rr (rr m a ps)) ∧ (∀ y, y ∈ L ↔ y < ps.length) ∧ L.length = ps.length := by
 have h6 := h.len
 obtain ⟨d, hd⟩ : ∃ d, ps.length = d + 1 := ⟨ps.length - 1, by omega⟩
 obtain ⟨k, rfl⟩ : ∃ q, k = q + 1 := ⟨k - 1, by omega⟩
 obtain ⟨L, g1, g2, g3, g4⟩ := ins0 h d [0] k (by simp; omega) (by omega) (List.pairwise_singleton ..) (by simp)
 refine ⟨L, ?_, g2, g3, g4⟩
 have e : cs (List.range ps.length) = cs ([0] ++ List.range' 1 d) := by
  rw [hd, List.range_eq_range', List.range'_succ]; rfl
 have hl : (cs (List.range ps.length)).length = ps.length := by simp [cs]
 unfold Qz.f Qe.f
 simp only [Qe.l0]
 rw [hl, if_neg (by omega)]
 unfold Qc.f
 rw [show wrap64 (0 + 1) = (1 : Int) from w64 (by omega), e]
 have g1' : Qc.l0 k (cs ([0] ++ List.range' 1 d)) 0 (ps.length : Int) 1 m ps a = some (cs L) := g1
 rw [g1']
 obtain ⟨k, rfl⟩ : ∃ q, k = q + 1 := ⟨k - 1, by omega⟩
 simp only [Option.bind_some, Qe.l1]
 rw [if_neg (by omega)]; rfl
theorem sum_at (l : List Int) (hl : l.length ≤ 100) (hb : ∀ x ∈ l, 0 ≤ x ∧ x ≤ 100000000) : ∀ (d k i : Nat) (s : Int), i + d = l.length → d < k → 0 ≤ s → s ≤ 100000000 * (i : Int) → QH.l0 k s l (l.length : Int) (i : Int) = some (s + (l.drop i).sum) := by
 intro d
 induction d with
 | zero =>
  intro k i s hi hk _ _
  obtain ⟨k, rfl⟩ : ∃ q, k = q + 1 := ⟨k - 1, by omega⟩
  simp only [QH.l0]
  rw [if_neg (by omega), List.drop_of_length_le (by omega)]; simp
 | succ d ih =>
  intro k i s hi hk h0 h1
  obtain ⟨k, rfl⟩ : ∃ q, k = q + 1 := ⟨k - 1, by omega⟩
  have hlt : i < l.length := by omega
  have hx := hb l[i] (List.getElem_mem hlt)
  simp only [QH.l0]
  rw [if_pos (by omega), if_pos (by omega), if_pos (by omega), YT hlt, w64 (x := s + l[i]) (by omega), w64 (by omega), List.drop_eq_getElem_cons hlt, List.sum_cons]
  have := ih k (i + 1) (s + l[i]) (by omega) (by omega) (by omega) (by omega)
  rw [show ((i : Int) + 1) = ((i + 1 : Nat) : Int) by omega, this, Int.add_assoc]
theorem Qbn (l : List Int) (hl : l.length ≤ 100) (hb : ∀ x ∈ l, 0 ≤ x ∧ x ≤ 100000000) {k : Nat} (hk : l.length < k) : QH.f k l = some l.sum := by
 unfold QH.f
 have := sum_at l hl hb l.length k 0 0 (by omega) hk (by omega) (by omega)
 simpa using this
theorem Qbw {m a : Int} {ps : List Int} (h : Okp m a ps) (T : List Nat) (hT : T.Nodup) (hin : ∀ y ∈ T, y < ps.length) (hTl : T.length ≤ 6) : ∀ (d k j : Nat), j + d = T.length → d < k →
  QE.l1 k (more (fl m a ps) ps.length (T.take j)) (cs T) (T.length : Int) (j : Int) = some (more (fl m a ps) ps.length T, 0) := by
 have hcl : (cs T).length = T.length := by simp [cs]
 have h6 := h.len
 intro d
 induction d with
 | zero =>
  intro k j hj hk
  obtain ⟨k, rfl⟩ : ∃ q, k = q + 1 := ⟨k - 1, by omega⟩
  simp only [QE.l1]
  rw [if_neg (by omega), List.take_of_length_le (by omega)]
 | succ d ih =>
  intro k j hj hk
  obtain ⟨k, rfl⟩ : ∃ q, k = q + 1 := ⟨k - 1, by omega⟩
  have hlt : j < T.length := by omega
  have hrd : rd (cs T) (j : Int) = (T[j] : Int) := by rw [YT (by omega)]; simp [cs]
  have hTj := hin T[j] (List.getElem_mem hlt)
  have hnot : T[j] ∉ T.take j := by
   intro e
   obtain ⟨q, hq, e⟩ := List.getElem_of_mem e
   rw [List.getElem_take] at e
   simp only [List.length_take] at hq
   exact (List.pairwise_iff_getElem.1 hT) q j (by omega) hlt (by omega) e
  have hml : (more (fl m a ps) ps.length (T.take j)).length = ps.length := by simp [more]
  have hfl : 0 ≤ fl m a ps T[j] ∧ fl m a ps T[j] ≤ 10000000 := by
   have h1 := h.mul hTj
   have h2 := h.a0
   unfold fl
   refine ⟨Int.ediv_nonneg h1.1 (by omega), Int.le_trans (Int.ediv_le_self _ h1.1) h1.2⟩
  have hat : rd (more (fl m a ps) ps.length (T.take j)) ((T[j] : Nat) : Int) = fl m a ps T[j] := by
   rw [YT (by omega)]; simp [more, hnot]
  simp only [QE.l1]
  rw [if_pos (by omega), if_pos (by omega), if_pos (by omega), hrd, if_pos (by omega), if_pos (by omega), hat, Int.toNat_natCast, w64 (x := fl m a ps T[j] + 1) (by omega), Qbu _ _ _ _ hnot, w64 (by omega)]
  have : T.take j ++ [T[j]] = T.take (j + 1) := by rw [List.take_succ_eq_append_getElem hlt]
  rw [this]
  exact ih k (j + 1) (by omega) (by omega)

def want (m : Int) (ps : List Int) (L : List Nat) : List Int := more (fl m ps.sum ps) ps.length (L.take (m - (ps.map fun p => m * p / ps.sum).sum).toNat)
theorem Qbl (m a : Int) (ps : List Int) : (List.range ps.length).map (fl m a ps) = ps.map fun p => m * p / a := by
 apply List.ext_getElem
 ·simp
 ·intro i h1 h2
  simp only [List.length_map, List.length_range] at h1
  simp [fl, List.getElem?_eq_getElem h1]

theorem Qbt {m : Int} {ps : List Int} (h : Okp m ps.sum ps) (h1 : 1 ≤ ps.length) : ∃ L : List Nat, L.Pairwise (Rr (rr m ps.sum ps)) ∧ (∀ y, y ∈ L ↔ y < ps.length) ∧ L.length = ps.length ∧ ∀ (d k i : Nat), i + d = ps.length → d + 200 < k →
  QE.l0 k ((ps.take i).map fun p => m * p / ps.sum) ((List.range ps.length).map fun j : Nat => if j < i then (j : Int) else 0) ps (ps.length : Int) (i : Int) ps m ps.sum = some (want m ps L, 0) := by
 have h6 := h.len
 have ha0 := h.a0
 have ha1 := h.a1
 have hm0 := h.m0
 have hm1 := h.m1
 obtain ⟨L, _, hL1, hL2, hL3⟩ := Qbj h h1 (k := 101) (by omega)
 have hmiss := Qa4 ps m (by omega)
 refine ⟨L, hL1, hL2, hL3, ?_⟩
 intro d
 induction d with
 | zero =>
  intro k i hi hk
  obtain ⟨k, rfl⟩ : ∃ q, k = q + 1 := ⟨k - 1, by omega⟩
  obtain ⟨L', hs, hL1', hL2', hL3'⟩ := Qbj h h1 (k := k) (by omega)
  have hLL : L' = L := by
   refine List.Perm.eq_of_pairwise (le := Rr (rr m ps.sum ps)) ?_ hL1' hL1 ?_
   ·intro a b _ _ f g; exact absurd (Qbe f g) Qar
   ·refine (List.perm_ext_iff_of_nodup ?_ ?_).2 fun y => by rw [hL2, hL2']
    ·exact hL1'.imp (fun {a b} f e => by subst e; exact Qar f)
    ·exact hL1.imp (fun {a b} f e => by subst e; exact Qar f)
  subst hLL
  have e1 : ((List.range ps.length).map fun j : Nat => if j < i then (j : Int) else 0) = cs (List.range ps.length) := by
   unfold cs; apply List.map_congr_left
   intro j hj
   rw [List.mem_range] at hj
   rw [if_pos (by omega)]
  have e2 : ps.take i = ps := List.take_of_length_le (by omega)
  have hl2 : (cs (List.range ps.length)).length = ps.length := by simp [cs]
  simp only [QE.l0]
  rw [if_neg (by omega), e1, e2, hs]
  simp only [Option.bind_some]
  have hsum : QH.f k (ps.map fun p => m * p / ps.sum) = some (ps.map fun p => m * p / ps.sum).sum := by
   refine Qbn _ (by simp; omega) ?_ (by simp; omega)
   intro x hx
   obtain ⟨p, hp, rfl⟩ := List.mem_map.1 hx
   obtain ⟨j, hj, rfl⟩ := List.getElem_of_mem hp
   have h1 := h.mul hj
   have e : ps.getD j 0 = ps[j] := by simp [List.getElem?_eq_getElem hj]
   rw [e] at h1
   exact ⟨Int.ediv_nonneg h1.1 (by omega), Int.le_trans (Int.ediv_le_self _ h1.1) (by omega)⟩
  rw [hsum]
  simp only [Option.bind_some]
  unfold want
  generalize (ps.map fun p => m * p / ps.sum).sum = s at *
  rw [w64 (by omega), if_pos (by omega), hl2, if_pos (by omega)]
  have e3 : (cs L').take (m - s).toNat = cs (L'.take (m - s).toNat) := by unfold cs; rw [List.map_take]
  rw [e3]
  have e4 : ((cs (L'.take (m - s).toNat)).length : Int) = ((L'.take (m - s).toNat).length : Int) := by simp [cs]
  rw [e4]
  have e5 : ps.map (fun p => m * p / ps.sum) = more (fl m ps.sum ps) ps.length ((L'.take (m - s).toNat).take 0) := by
   rw [← Qbl]; simp [more]
  rw [e5]
  exact Qbw h (L'.take (m - s).toNat) ((hL1'.imp (fun {a b} f e => by subst e; exact Qar f) : L'.Nodup).sublist (List.take_sublist _ _)) (fun y hy => (hL2' y).1 (List.mem_of_mem_take hy)) (by simp; omega) _ k 0 (Nat.zero_add _) (by simp; omega)
 | succ d ih =>
  intro k i hi hk
  obtain ⟨k, rfl⟩ : ∃ q, k = q + 1 := ⟨k - 1, by omega⟩
  have hlt : i < ps.length := by omega
  have hmul := h.mul hlt
  have e : ps.getD i 0 = ps[i] := by simp [List.getElem?_eq_getElem hlt]
  rw [e] at hmul
  have hd1 := Int.ediv_nonneg hmul.1 (show 0 ≤ ps.sum by omega)
  have hd2 := Int.ediv_le_self ps.sum hmul.1
  simp only [QE.l0]
  rw [if_pos (by omega), if_pos (by omega), if_pos (by omega), if_pos (by simp; omega), if_neg (by omega), if_pos (by simp; omega), YT hlt, w64 (x := m * ps[i]) (by omega), Int.tdiv_eq_ediv_of_nonneg hmul.1, w64 (by omega), w64 (by omega)]
  have e1 : (ps.take i).map (fun p => m * p / ps.sum) ++ [m * ps[i] / ps.sum] = (ps.take (i + 1)).map (fun p => m * p / ps.sum) := by
   rw [List.take_succ_eq_append_getElem hlt, List.map_append]; rfl
  have e2 : ((List.range ps.length).map fun j : Nat => if j < i then (j : Int) else 0).set ((i : Int)).toNat (i : Int) = (List.range ps.length).map fun j : Nat => if j < i + 1 then (j : Int) else 0 := by
   rw [Int.toNat_natCast, Qax]
   apply List.map_congr_left
   intro j _
   by_cases hj : j = i
   ·subst hj; simp
   ·rw [if_neg hj]
    by_cases hj' : j < i
    ·rw [if_pos hj', if_pos (by omega)]
    ·rw [if_neg hj', if_neg (by omega)]
  rw [e1, e2]
  exact ih k (i + 1) (by omega) (by omega)
theorem Okp.of {m : Int} {ps : List Int} (h6 : (ps.length : Int) ≤ 6) (hne : (ps.length : Int) ≠ 0) (hw : (ps.all fun x => decide (1 ≤ x ∧ x ≤ 100)) = true) (hm : 0 ≤ m ∧ m ≤ 100000) : Okp m ps.sum ps := by
 have hone : ∀ p ∈ ps, 1 ≤ p ∧ p ≤ 100 := by simpa using hw
 have hs : ∀ l : List Int, (∀ p ∈ l, 1 ≤ p ∧ p ≤ 100) → (l.length : Int) ≤ l.sum ∧ l.sum ≤ 100 * (l.length : Int) := by
  intro l
  induction l with
  | nil => simp
  | cons x l ih =>
   intro hl
   have := hl x (by simp)
   have := ih fun p hp => hl p (by simp [hp])
   simp only [List.sum_cons, List.length_cons]
   omega
 have := hs ps hone
 exact ⟨by omega, hone, hm.1, hm.2, by omega, by omega⟩
theorem Qbr (m : Int) (ps : List Int) : (m < 0 ∨ 100000 < m ∨ ¬ (ps.all fun x => decide (1 ≤ x ∧ x ≤ 100)) = true ∨ (ps.length : Int) > 6 ∨ (ps.length : Int) = 0) ∧
   (∀ k, 300 < k → ps.length < k → QE.f k ps m = some ([], if (ps.length : Int) > 6 then 5 else if (ps.length : Int) = 0 then 7 else if (ps.all fun x => decide (1 ≤ x ∧ x ≤ 100)) = true then 3 else 2)) ∨
  Okp m ps.sum ps ∧ 1 ≤ ps.length ∧ ∃ L : List Nat, L.Pairwise (Rr (rr m ps.sum ps)) ∧ (∀ y, y ∈ L ↔ y < ps.length) ∧ L.length = ps.length ∧ ∀ k, 300 < k → QE.f k ps m = some (want m ps L, 0) := by
 by_cases h6 : (ps.length : Int) > 6
 ·refine .inl ⟨by omega, fun k _ _ => ?_⟩
  unfold QE.f
  rw [if_pos h6, if_pos h6]
 by_cases h0 : (ps.length : Int) = 0
 ·refine .inl ⟨by omega, fun k _ _ => ?_⟩
  unfold QE.f
  rw [if_neg h6, if_pos h0, if_neg h6, if_pos h0]
 by_cases hw : (ps.all fun x => decide (1 ≤ x ∧ x ≤ 100)) = true
 ·by_cases hm : 0 ≤ m ∧ m ≤ 100000
  ·have hok := Okp.of (m := m) (by omega) h0 hw hm
   have h1 : 1 ≤ ps.length := by omega
   obtain ⟨L, g1, g2, g3, g4⟩ := Qbt hok h1
   refine .inr ⟨hok, h1, L, g1, g2, g3, fun k hk => ?_⟩
   unfold QE.f
   rw [if_neg h6, if_neg h0, Y1]
   simp only [Option.bind_some]
   rw [if_pos hw, Y1]
   simp only [Option.bind_some]
   rw [if_pos (by simpa using hm), Qbn ps (by have := hok.len; omega) (fun x hx => by have := hok.one x hx; omega) (by have := hok.len; omega)]
   simp only [Option.bind_some]
   rw [if_pos (by omega), if_pos (by have := hok.len; omega), Int.toNat_natCast]
   have e : List.replicate ps.length (0 : Int) = (List.range ps.length).map fun j : Nat => if j < 0 then (j : Int) else 0 := by
    apply List.ext_getElem
    ·simp
    ·intro i h1 h2; simp
   rw [e]
   exact g4 ps.length k 0 (Nat.zero_add _) (by have := hok.len; omega)
  ·refine .inl ⟨by omega, fun k _ _ => ?_⟩
   unfold QE.f
   rw [if_neg h6, if_neg h0, Y1]
   simp only [Option.bind_some]
   rw [if_pos hw, Y1]
   simp only [Option.bind_some]
   rw [if_neg (by simpa using hm), if_neg h6, if_neg h0, if_pos hw]
 ·refine .inl ⟨.inr (.inr (.inl hw)), fun k _ _ => ?_⟩
  unfold QE.f
  rw [if_neg h6, if_neg h0, Y1]
  simp only [Option.bind_some]
  rw [if_neg hw, if_neg h6, if_neg h0, if_neg hw]
theorem mul_lef {a c A C : Int} (h0 : 0 ≤ a) (h1 : a ≤ A) (h2 : 0 ≤ c) (h3 : c ≤ C) : 0 ≤ a * c ∧ a * c ≤ A * C :=
 ⟨Int.mul_nonneg h0 h2, Int.mul_le_mul h1 h3 h2 (by omega)⟩
theorem Qa1 {l l' : List Int} (h : l.Perm l') : l.sum = l'.sum := by
 induction h with
 | nil => rfl
 | cons x _ ih => simp only [List.sum_cons, ih]
 | swap x y l => simp only [List.sum_cons]; omega
 | trans _ _ h1 h2 => exact h1.trans h2
theorem Qbg {r : Nat → Int} {L : List Nat} (hp : L.Pairwise (Rr r)) : L.Nodup := hp.imp (fun {a b} h e => by subst e; exact Qar h)
theorem Qbh {l : List Int} {b : Int} (h : ∀ x ∈ l, x ≤ b) : l.sum ≤ b * l.length := by
 induction l with
 | nil => simp
 | cons x l ih =>
  have h1 := h x (by simp)
  have h2 := ih fun y hy => h y (by simp [hy])
  have h3 : b * ((l.length + 1 : Nat) : Int) = b * l.length + b := by rw [Int.natCast_add, Int.mul_add]; omega
  simp only [List.sum_cons, List.length_cons]
  omega
theorem Qa0 {f g : Nat → Int} {c : Int} : ∀ {l : List Nat}, (∀ x ∈ l, g x = f x + c) → (l.map g).sum = (l.map f).sum + c * l.length
 | [], _ => by simp
 | x :: l, h => by
  have h1 := h x (by simp)
  have h2 := Qa0 (l := l) fun y hy => h y (by simp [hy])
  have h3 : c * ((l.length + 1 : Nat) : Int) = c * l.length + c := by rw [Int.natCast_add, Int.mul_add]; omega
  simp only [List.map_cons, List.sum_cons, List.length_cons]
  omega
theorem map_rr (m a : Int) (ps : List Int) : (List.range ps.length).map (rr m a ps) = ps.map fun p => m * p % a := by
 apply List.ext_getElem
 ·simp
 ·intro i h1 h2
  simp only [List.length_map, List.length_range] at h1
  simp [rr, List.getElem?_eq_getElem h1]
def qn (m : Int) (ps : List Int) : Nat := (m - (ps.map fun p => m * p / ps.sum).sum).toNat
theorem Qbq {n : Nat} {r : Nat → Int} {L : List Nat} (hp : L.Pairwise (Rr r)) (hin : ∀ y, y ∈ L ↔ y < n) : L.Perm (List.range n) :=
 (List.perm_ext_iff_of_nodup (Qbg hp) List.nodup_range).2 fun y => by rw [hin, List.mem_range]
theorem Qa9 {m : Int} {ps : List Int} {L : List Nat} (hok : Okp m ps.sum ps) (hp : L.Pairwise (Rr (rr m ps.sum ps))) (hin : ∀ y, y ∈ L ↔ y < ps.length) {i : Nat} (hi : i ∈ L.take (qn m ps)) : 0 < rr m ps.sum ps i := by
 have ha := hok.a0
 obtain ⟨q0, q1⟩ := Qa4 ps m (by omega)
 have hmiss := miss ps m ps.sum
 have hsum := Qa1 ((Qbq hp hin).map (rr m ps.sum ps))
 rw [map_rr] at hsum
 rw [← hsum] at hmiss
 obtain ⟨A, B, hAB⟩ := List.append_of_mem hi
 have hL : L = A ++ i :: (B ++ L.drop (qn m ps)) := by
  have := List.take_append_drop (qn m ps) L
  rw [hAB] at this
  rw [List.append_assoc, List.cons_append] at this
  exact this.symm
 have hAq : A.length < qn m ps := by
  have : (L.take (qn m ps)).length ≤ qn m ps := by rw [List.length_take]; omega
  rw [hAB] at this
  simp at this
  omega
 refine Classical.byContradiction fun hn => ?_
 have hp' := hp
 rw [hL, List.pairwise_append, List.pairwise_cons] at hp'
 have hiL : i < ps.length := (hin i).1 (List.mem_of_mem_take hi)
 have hA : (A.map (rr m ps.sum ps)).sum ≤ (ps.sum - 1) * A.length := by
  have := Qbh (l := A.map (rr m ps.sum ps)) (b := ps.sum - 1) (fun x hx => by
   obtain ⟨j, hj, rfl⟩ := List.mem_map.1 hx
   have := Int.emod_lt_of_pos (m * ps.getD j 0) (show 0 < ps.sum by omega)
   unfold rr; omega)
  simpa using this
 have hB : ((B ++ L.drop (qn m ps)).map (rr m ps.sum ps)).sum ≤ 0 := by
  have := Qbh (l := (B ++ L.drop (qn m ps)).map (rr m ps.sum ps)) (b := 0) (fun x hx => by
   obtain ⟨j, hj, rfl⟩ := List.mem_map.1 hx
   have := hp'.2.1.1 j hj
   unfold Rr at this
   omega)
  simpa using this
 have e : (L.map (rr m ps.sum ps)).sum = (A.map (rr m ps.sum ps)).sum + rr m ps.sum ps i + ((B ++ L.drop (qn m ps)).map (rr m ps.sum ps)).sum := by
  conv => lhs; rw [hL]
  rw [List.map_append, List.sum_append_int, List.map_cons, List.sum_cons]
  omega
 have hq : (qn m ps : Int) = m - (ps.map fun p => m * p / ps.sum).sum := by unfold qn; omega
 generalize (ps.map fun p => m * p / ps.sum).sum = S at *
 generalize ps.sum = a at *
 have h1 : a * (qn m ps : Int) = m * a - a * S := by rw [hq, Int.mul_sub, Int.mul_comm a m]
 have h2 : (a - 1) * (A.length : Int) ≤ (a - 1) * (qn m ps : Int) := Int.mul_le_mul_of_nonneg_left (by omega) (by omega)
 have h3 := Int.sub_mul a 1 (qn m ps : Int)
 omega
theorem Qbd {m : Int} {ps : List Int} {L : List Nat} (hp : L.Pairwise (Rr (rr m ps.sum ps))) (hin : ∀ y, y ∈ L ↔ y < ps.length) {i j q : Nat} (hi : i ∈ L.take q) (hj : j < ps.length) (h : Rr (rr m ps.sum ps) j i) : j ∈ L.take q := by
 have hj' := (hin j).2 hj
 rw [← List.take_append_drop q L, List.mem_append] at hj'
 refine hj'.resolve_right fun hd => ?_
 have hp' := hp
 rw [← List.take_append_drop q L, List.pairwise_append] at hp'
 exact Qar (Qbe h (hp'.2.2 i hi j hd))
theorem Qau (m : Int) (ps : List Int) (L : List Nat) : (want m ps L).length = ps.length := by unfold want more; simp
theorem Qaw (m : Int) (ps : List Int) (L : List Nat) {i : Nat} (hi : i < ps.length) : rd (want m ps L) (i : Int) = if i ∈ L.take (qn m ps) then fl m ps.sum ps i + 1 else fl m ps.sum ps i := by
 rw [YT (by rw [Qau]; exact hi)]
 unfold want more
 rw [List.getElem_map, List.getElem_range]
 rfl
theorem Qbc {m : Int} {ps : List Int} {L : List Nat} (hok : Okp m ps.sum ps) (hp : L.Pairwise (Rr (rr m ps.sum ps))) (hin : ∀ y, y ∈ L ↔ y < ps.length) (hl : L.length = ps.length) : (want m ps L).sum = m := by
 obtain ⟨q0, q1⟩ := Qa4 ps m (by have := hok.a0; omega)
 have hperm := Qbq hp hin
 have e1 : (want m ps L).sum = (L.map fun i => if i ∈ L.take (qn m ps) then fl m ps.sum ps i + 1 else fl m ps.sum ps i).sum := (Qa1 (hperm.map _)).symm
 have e2 : (L.map (fl m ps.sum ps)).sum = (ps.map fun p => m * p / ps.sum).sum := by rw [Qa1 (hperm.map _), Qbl]
 have hnd := Qbg hp
 rw [← List.take_append_drop (qn m ps) L, List.nodup_append] at hnd
 have e3 : (L.map fun i => if i ∈ L.take (qn m ps) then fl m ps.sum ps i + 1 else fl m ps.sum ps i).sum = (L.map (fl m ps.sum ps)).sum + (qn m ps : Int) := by
  have hs : ∀ g : Nat → Int, (L.map g).sum = ((L.take (qn m ps)).map g).sum + ((L.drop (qn m ps)).map g).sum := fun g => by
   rw [← List.sum_append_int, ← List.map_append, List.take_append_drop]
  rw [hs, hs (fl m ps.sum ps), Qa0 (f := fl m ps.sum ps) (c := 1) (l := L.take (qn m ps)) (fun x hx => by rw [if_pos hx]), Qa0 (f := fl m ps.sum ps) (c := 0) (l := L.drop (qn m ps)) (fun x hx => by
   rw [if_neg fun hx' => hnd.2.2 x hx' x hx rfl]; omega), List.length_take]
  have : qn m ps ≤ L.length := by unfold qn; omega
  omega
 rw [e1, e3, e2]
 unfold qn
 omega
theorem Qa7 {m : Int} {ps : List Int} {L : List Nat} (hok : Okp m ps.sum ps) (hp : L.Pairwise (Rr (rr m ps.sum ps))) (hin : ∀ y, y ∈ L ↔ y < ps.length) {i : Nat} (hi : i < ps.length) :
  0 ≤ rd (want m ps L) (i : Int) ∧ (rd (want m ps L) (i : Int) + 1) * ps.sum > m * rd ps (i : Int) ∧ (rd (want m ps L) (i : Int) - 1) * ps.sum < m * rd ps (i : Int) := by
 have ha := hok.a0
 have hm := hok.m0
 have h1 := hok.one ps[i] (List.getElem_mem hi)
 have hpos := fun h => Qa9 hok hp hin (i := i) h
 rw [Qaw m ps L hi]
 have e : ps.getD i 0 = ps[i] := by simp [hi]
 have e' : rd ps (i : Int) = ps[i] := by rw [YT hi]
 simp only [rr, fl, e] at hpos ⊢
 rw [e']
 have d := Int.mul_ediv_add_emod (m * ps[i]) ps.sum
 have d0 := Int.emod_nonneg (m * ps[i]) (show ps.sum ≠ 0 by omega)
 have d1 := Int.emod_lt_of_pos (m * ps[i]) (show 0 < ps.sum by omega)
 have d2 : 0 ≤ m * ps[i] := Int.mul_nonneg hm (by omega)
 have d3 := Int.ediv_nonneg d2 (show 0 ≤ ps.sum by omega)
 generalize m * ps[i] / ps.sum = f at *
 generalize m * ps[i] % ps.sum = r at *
 generalize m * ps[i] = x at *
 generalize ps.sum = a at *
 rw [Int.mul_comm a f] at d
 split
 ·rename_i h
  have := hpos h
  simp only [Int.add_mul, Int.sub_mul]
  omega
 ·simp only [Int.add_mul, Int.sub_mul]
  omega
theorem fl_mono {m a p q : Int} (ha : 1 ≤ a) (hm : 0 ≤ m) (h : p ≤ q) : m * p / a ≤ m * q / a := Int.ediv_le_ediv (by omega) (Int.mul_le_mul_of_nonneg_left h hm)
theorem Qa5 {m : Int} {ps : List Int} {L : List Nat} (hok : Okp m ps.sum ps) (hp : L.Pairwise (Rr (rr m ps.sum ps))) (hin : ∀ y, y ∈ L ↔ y < ps.length) {i j : Nat} (hi : i < ps.length) (hj : j < ps.length)
  (h : rd ps (i : Int) < rd ps (j : Int)) : rd (want m ps L) (i : Int) ≤ rd (want m ps L) (j : Int) := by
 have ha := hok.a0
 have hm := hok.m0
 have hpos := fun h => Qa9 hok hp hin (i := i) h
 have hup := fun h h' => Qbd hp hin (q := qn m ps) (i := i) (j := j) h hj h'
 rw [Qaw m ps L hi, Qaw m ps L hj]
 have ei : ps.getD i 0 = rd ps (i : Int) := by simp [rd]
 have ej : ps.getD j 0 = rd ps (j : Int) := by simp [rd]
 simp only [Rr, rr, fl, ei, ej] at hpos hup ⊢
 have hm1 := fl_mono ha hm (Int.le_of_lt h)
 have d := Int.mul_ediv_add_emod (m * rd ps (i : Int)) ps.sum
 have d' := Int.mul_ediv_add_emod (m * rd ps (j : Int)) ps.sum
 by_cases hi' : i ∈ L.take (qn m ps)
 ·rw [if_pos hi']
  have h0 := hpos hi'
  have hm0 : 1 ≤ m := by
   refine Classical.byContradiction fun hn => ?_
   have : m = 0 := by omega
   rw [this] at h0
   simp at h0
  have hlt : m * rd ps (i : Int) < m * rd ps (j : Int) := Int.mul_lt_mul_of_pos_left h (by omega)
  by_cases he : m * rd ps (i : Int) / ps.sum = m * rd ps (j : Int) / ps.sum
  ·rw [he] at d
   rw [if_pos (hup hi' (.inl (by omega))), he]
   omega
  ·split <;> omega
 ·rw [if_neg hi']
  split <;> omega
theorem Qbm {m : Int} {ps : List Int} {L : List Nat} (hok : Okp m ps.sum ps) (hp : L.Pairwise (Rr (rr m ps.sum ps))) (hin : ∀ y, y ∈ L ↔ y < ps.length) {i j : Nat} (hi : i < ps.length) (hj : j < i)
  (h : rd ps (i : Int) = rd ps (j : Int)) : rd (want m ps L) (i : Int) ≤ rd (want m ps L) (j : Int) ∧ rd (want m ps L) (j : Int) ≤ rd (want m ps L) (i : Int) + 1 := by
 have hj' : j < ps.length := by omega
 have hup := fun h h' => Qbd hp hin (q := qn m ps) (i := i) (j := j) h hj' h'
 rw [Qaw m ps L hi, Qaw m ps L hj']
 have ei : ps.getD i 0 = rd ps (i : Int) := by simp [rd]
 have ej : ps.getD j 0 = rd ps (j : Int) := by simp [rd]
 rw [← h] at ej
 simp only [Rr, rr, fl, ei, ej] at hup ⊢
 by_cases hi' : i ∈ L.take (qn m ps)
 ·rw [if_pos hi', if_pos (hup hi' (.inr ⟨trivial, hj⟩))]
  omega
 ·rw [if_neg hi']
  split <;> omega
theorem Qbf (w : List Int) (i : Nat) (h : i < w.length) : (w.take (i + 1)).sum = (w.take i).sum + rd w (i : Int) := by
 rw [List.take_add_one, List.sum_append_int, YT h, List.getElem?_eq_getElem h]
 simp
theorem Qa3 (w : List Int) (b : Int) (hb : 0 ≤ b) (hw : ∀ x ∈ w, 0 ≤ x ∧ x ≤ b) (i : Nat) : 0 ≤ (w.take i).sum ∧ (w.take i).sum ≤ b * (i : Int) := by
 induction i with
 | zero => simp
 | succ i ih =>
  have e : b * ((i + 1 : Nat) : Int) = b * i + b := by rw [Int.natCast_add, Int.mul_add]; omega
  by_cases h : i < w.length
  ·have h1 := hw w[i] (List.getElem_mem h)
   rw [Qbf w i h, YT h]
   omega
  ·rw [List.take_of_length_le (by omega)] at ih
   rw [List.take_of_length_le (by omega)]
   omega
theorem fair2 {m : Int} {ps : List Int} {L : List Nat} (hok : Okp m ps.sum ps) (hp : L.Pairwise (Rr (rr m ps.sum ps))) (hin : ∀ y, y ∈ L ↔ y < ps.length) (hw : ∀ x ∈ want m ps L, 0 ≤ x ∧ x ≤ m) {i c : Nat} (hi : i < ps.length) (s : Int)
  (h : ∀ k, c ≤ k → Qao.l1 k ps ps.sum m (want m ps L) s ((i : Int) + 1) = some true) : ∀ (q k j : Nat), j + q = i → 2 * q + 1 + c ≤ k →
  Qao.l2 k ps ps.sum m (want m ps L) s (i : Int) (j : Int) = some true := by
 have hl := Qau m ps L
 have h6 := hok.len
 have hm0 := hok.m0
 have hm1 := hok.m1
 intro q
 induction q with
 | zero =>
  intro k j hj hk
  obtain ⟨k, rfl⟩ : ∃ z, k = z + 1 := ⟨k - 1, by omega⟩
  simp only [Qao.l2]
  rw [if_neg (by omega), w64 (by omega)]
  exact h k (by omega)
 | succ q ih =>
  intro k j hj hk
  obtain ⟨k, rfl⟩ : ∃ z, k = z + 2 := ⟨k - 2, by omega⟩
  have hji : j < i := by omega
  have hjl : j < ps.length := by omega
  have ih : Qao.j6 (k + 1) ps ps.sum m (want m ps L) s (i : Int) (j : Int) false = some true := by
   simp only [Qao.j6]
   rw [if_neg (by decide), w64 (by omega)]
   exact ih k (j + 1) (by omega) (by omega)
  have m1 := Qa5 hok hp hin hi hjl
  have m2 := Qa5 hok hp hin hjl hi
  have m3 := Qbm hok hp hin hi hji
  have b1 : 0 ≤ rd (want m ps L) (i : Int) ∧ rd (want m ps L) (i : Int) ≤ m := by rw [YT (by omega)]; exact hw _ (List.getElem_mem _)
  have b2 : 0 ≤ rd (want m ps L) (j : Int) ∧ rd (want m ps L) (j : Int) ≤ m := by rw [YT (by omega)]; exact hw _ (List.getElem_mem _)
  simp only [Qao.l2]
  rcases Int.lt_trichotomy (rd ps (i : Int)) (rd ps (j : Int)) with hc | hc | hc
  ·have := m1 hc
   rw [if_pos (by omega), if_pos (by omega), if_pos (by omega), if_pos (by omega), if_pos (by omega), if_pos (by omega), if_pos (by omega), if_pos (by omega), if_neg (by omega), if_neg (by omega), if_neg (by omega)]
   exact ih
  ·have := m3 hc
   rw [if_pos (by omega), if_pos (by omega), if_pos (by omega), if_pos (by omega), if_pos (by omega), if_neg (by omega), if_neg (by omega), if_pos hc, if_pos (by omega), if_pos (by omega), if_neg (by omega), w64 (x := rd (want m ps L) (j : Int) - 1) (by omega), show decide (rd (want m ps L) (i : Int) < rd (want m ps L) (j : Int) - 1) = false from decide_eq_false (by omega)]
   exact ih
  ·have := m2 hc
   rw [if_pos (by omega), if_pos (by omega), if_pos (by omega), if_pos (by omega), if_pos (by omega), if_neg (by omega), if_pos (by omega), if_pos (by omega), if_pos (by omega), if_neg (by omega), if_neg (by omega)]
   exact ih
theorem mem_sum {l : List Int} (h : ∀ x ∈ l, 0 ≤ x) : ∀ x ∈ l, x ≤ l.sum := by
 induction l with
 | nil => intro x hx; simp at hx
 | cons y l ih =>
  have h0 : 0 ≤ l.sum := by
   have : ∀ l : List Int, (∀ x ∈ l, 0 ≤ x) → 0 ≤ l.sum := by
    intro l hl
    induction l with
    | nil => simp
    | cons z l ih => have := ih fun x hx => hl x (by simp [hx]); have := hl z (by simp); simp only [List.sum_cons]; omega
   exact this l fun x hx => h x (by simp [hx])
  have hy := h y (by simp)
  have ih := ih fun x hx => h x (by simp [hx])
  intro x hx
  simp only [List.sum_cons]
  rcases List.mem_cons.1 hx with rfl | hx
  ·omega
  ·have := ih x hx; omega
theorem Qbv {m : Int} {ps : List Int} {L : List Nat} (hok : Okp m ps.sum ps) (hp : L.Pairwise (Rr (rr m ps.sum ps))) (hin : ∀ y, y ∈ L ↔ y < ps.length) (hl : L.length = ps.length) : ∀ x ∈ want m ps L, 0 ≤ x ∧ x ≤ m := by
 have h0 : ∀ x ∈ want m ps L, 0 ≤ x := by
  intro x hx
  obtain ⟨i, hi, rfl⟩ := List.mem_iff_getElem.1 hx
  have := (Qa7 hok hp hin (i := i) (by rw [Qau] at hi; exact hi)).1
  rwa [YT hi] at this
 intro x hx
 refine ⟨h0 x hx, ?_⟩
 have := mem_sum h0 x hx
 rwa [Qbc hok hp hin hl] at this
theorem fair1 {m : Int} {ps : List Int} {L : List Nat} (hok : Okp m ps.sum ps) (hp : L.Pairwise (Rr (rr m ps.sum ps))) (hin : ∀ y, y ∈ L ↔ y < ps.length) (hlen : L.length = ps.length) : ∀ (q k i : Nat), i + q = ps.length → 20 * q + 100 ≤ k →
  Qao.l1 k ps ps.sum m (want m ps L) ((want m ps L).take i).sum (i : Int) = some true := by
 have hw := Qbv hok hp hin hlen
 have hl := Qau m ps L
 have hs := Qbc hok hp hin hlen
 have h6 := hok.len
 have hm0 := hok.m0
 have hm1 := hok.m1
 have ha0 := hok.a0
 have ha1 := hok.a1
 intro q
 induction q with
 | zero =>
  intro k i hi hk
  obtain ⟨k, rfl⟩ : ∃ z, k = z + 1 := ⟨k - 1, by omega⟩
  simp only [Qao.l1]
  rw [if_neg (by omega), if_pos (by rw [List.take_of_length_le (by omega)]; exact hs), Qd.at (by omega)]
  rfl
 | succ q ih =>
  intro k i hi hk
  obtain ⟨k, rfl⟩ : ∃ z, k = z + 2 := ⟨k - 2, by omega⟩
  have hil : i < ps.length := by omega
  have ih := fun k h => ih k (i + 1) (by omega) h
  obtain ⟨n0, n1, n2⟩ := Qa7 hok hp hin hil
  have b1 : rd (want m ps L) (i : Int) ≤ m := by rw [YT (by omega)]; exact (hw _ (List.getElem_mem _)).2
  have b2 : 1 ≤ rd ps (i : Int) ∧ rd ps (i : Int) ≤ 100 := by rw [YT hil]; exact hok.one _ (List.getElem_mem _)
  have b3 := Qa3 (want m ps L) m hm0 hw i
  have b4 : m * (i : Int) ≤ 100000 * (i : Int) := Int.mul_le_mul_of_nonneg_right hm1 (by omega)
  have b5 := mul_lef (show 0 ≤ rd (want m ps L) (i : Int) by omega) (show rd (want m ps L) (i : Int) ≤ 100000 by omega) (show 0 ≤ ps.sum by omega) ha1
  have b6 := mul_lef hm0 hm1 (show 0 ≤ rd ps (i : Int) by omega) b2.2
  rw [Qbf _ i (by omega)] at ih
  have hj : ∀ k, 20 * q + 115 ≤ k → Qao.j4 k ps ps.sum m (want m ps L) ((want m ps L).take i).sum (i : Int) false = some true := by
   intro k hk
   obtain ⟨k, rfl⟩ : ∃ z, k = z + 1 := ⟨k - 1, by omega⟩
   simp only [Qao.j4]
   rw [if_neg (by decide), if_pos (by omega), if_pos (by omega), w64 (by omega)]
   have := fair2 hok hp hin hw hil (((want m ps L).take i).sum + rd (want m ps L) (i : Int)) (c := 20 * q + 100) (fun k h => ih k h) i k 0 (by omega) (by omega)
   exact this
  have t1 := Int.add_mul (rd (want m ps L) (i : Int)) 1 ps.sum
  have t2 := Int.sub_mul (rd (want m ps L) (i : Int)) 1 ps.sum
  simp only [Qao.l1]
  rw [if_pos (by omega), if_pos (by omega), if_neg (by omega), if_neg (by omega), if_pos (by omega), w64 (x := rd (want m ps L) (i : Int) + 1) (by omega), w64 (x := rd (want m ps L) (i : Int) - 1) (by omega),
   w64 (x := (rd (want m ps L) (i : Int) + 1) * ps.sum) (by omega), w64 (x := (rd (want m ps L) (i : Int) - 1) * ps.sum) (by omega), w64 (x := m * rd ps (i : Int)) (by omega), if_neg (by omega),
   show decide ((rd (want m ps L) (i : Int) - 1) * ps.sum ≥ m * rd ps (i : Int)) = false from decide_eq_false (by omega)]
  exact hj (k + 1) (by omega)
theorem Qa2 {ps p : List Int} {m : Int} {i : Int} {k : Nat} (h1 : 1 ≤ ps.length) (h6 : ps.length ≤ 6) (hone : ∀ x ∈ ps, 1 ≤ x ∧ x ≤ 100) (hm0 : 0 ≤ m) (hm1 : m ≤ 65535) (hk : 400 ≤ k) :
  Qao.j1 k p m ps ps.sum i false = some true := by
 obtain ⟨k, rfl⟩ : ∃ z, k = z + 2 := ⟨k - 2, by omega⟩
 simp only [Qao.j1]
 rw [if_neg (by decide), Qbs ps (by omega), w64 (x := m) (by omega)]
 simp only [Option.bind_some]
 rcases Qbr m ps with ⟨hb, _⟩ | ⟨hok, _, L, hp, hin, hl, hf⟩
 ·exfalso
  have : (ps.all fun x => decide (1 ≤ x ∧ x ≤ 100)) = true := List.all_eq_true.2 fun x hx => decide_eq_true (hone x hx)
  rcases hb with h | h | h | h | h
  ·omega
  ·omega
  ·exact h this
  ·omega
  ·omega
 ·rw [hf (k + 1) (by omega)]
  simp only [Option.bind_some]
  rw [if_pos trivial, Qau m ps L]
  simp only [Qao.j2]
  rw [if_neg (by simp)]
  exact fair1 hok hp hin hl ps.length k 0 (by omega) (by omega)
def fb (x : Int) : Int := 1 + x % 100
theorem fair0 {p : List Int} {m : Int} (hp : ∀ x ∈ p, 0 ≤ x ∧ x ≤ 255) (hm0 : 0 ≤ m) (hm1 : m ≤ 65535) (h0 : 1 ≤ p.length) : ∀ (q k i : Nat), i + q = 6 → i ≤ p.length → 2 * q + 500 ≤ k →
  Qao.l0 k p m ((p.take i).map fb) ((p.take i).map fb).sum (i : Int) = some true := by
 have hfb : ∀ x ∈ p, 1 ≤ fb x ∧ fb x ≤ 100 := fun x hx => by unfold fb; omega
 have hall : ∀ i, ∀ x ∈ (p.take i).map fb, 1 ≤ x ∧ x ≤ 100 := fun i x hx => by
  obtain ⟨y, hy, rfl⟩ := List.mem_map.1 hx
  exact hfb y (List.mem_of_mem_take hy)
 intro q
 induction q with
 | zero =>
  intro k i hi hl hk
  obtain ⟨k, rfl⟩ : ∃ z, k = z + 1 := ⟨k - 1, by omega⟩
  simp only [Qao.l0]
  rw [if_neg (by omega)]
  exact Qa2 (by simp; omega) (by simp; omega) (hall i) hm0 hm1 (by omega)
 | succ q ih =>
  intro k i hi hl hk
  obtain ⟨k, rfl⟩ : ∃ z, k = z + 2 := ⟨k - 2, by omega⟩
  have ih := ih k (i + 1) (by omega)
  have hlen : ((p.take i).map fb).length = i := by simp; omega
  have hb := Qa3 ((p.take i).map fb) 100 (by omega) (fun x hx => by have := hall i x hx; omega) i
  rw [List.take_of_length_le (by omega)] at hb
  have go : i < p.length → Qao.j1 (k + 1) p m ((p.take i).map fb) ((p.take i).map fb).sum (i : Int) true = some true := fun h => by
   have hx := hp p[i] (List.getElem_mem h)
   have hf := hfb p[i] (List.getElem_mem h)
   have e : wrap64 (1 + Int.tmod (wrap64 (rd p (i : Int))) 100) = fb p[i] := by
    rw [YT h, w64 (x := p[i]) (by omega), Int.tmod_eq_emod_of_nonneg (by omega)]
    exact w64 (by unfold fb at hf; omega)
   have e1 : ((p.take i).map fb) ++ [fb p[i]] = (p.take (i + 1)).map fb := by
    rw [List.take_add_one, List.getElem?_eq_getElem h, List.map_append]; rfl
   have e2 : wrap64 (((p.take i).map fb).sum + fb p[i]) = ((p.take (i + 1)).map fb).sum := by
    rw [w64 (by omega), ← e1, List.sum_append_int]; simp
   simp only [Qao.j1]
   rw [if_pos trivial, if_pos (by omega), if_pos (by omega), if_pos (by omega), e, e1, e2, w64 (by omega)]
   exact ih (by omega) (by omega)
  simp only [Qao.l0]
  rw [if_pos (by omega)]
  by_cases hz : (i : Int) = 0
  ·rw [if_pos hz]; exact go (by omega)
  ·rw [if_neg hz]
   by_cases h : i < p.length
   ·rw [show decide ((i : Int) < (p.length : Int)) = true from decide_eq_true (by omega)]; exact go h
   ·rw [show decide ((i : Int) < (p.length : Int)) = false from decide_eq_false (by omega)]
    exact Qa2 (by simp; omega) (by simp; omega) (hall i) hm0 hm1 (by omega)
theorem Qbb {p : List Int} {m : Int} (hp : ∀ x ∈ p, 0 ≤ x ∧ x ≤ 255) (hm0 : 0 ≤ m) (hm1 : m ≤ 65535) : Qao.f 1000 p m = some true := by
 unfold Qao.f
 by_cases h0 : 1 ≤ p.length
 ·exact fair0 hp hm0 hm1 h0 6 1000 0 (by omega) (by omega) (by omega)
 ·have : p = [] := by cases p with
   | nil => rfl
   | cons x p => simp at h0
  subst this
  have h := Qa2 (ps := [1]) (p := []) (m := m) (i := 1) (k := 997) (by simp) (by simp) (by intro x hx; simp at hx; omega) hm0 hm1 (by omega)
  rw [show (1000 : Nat) = 999 + 1 from rfl]
  simp only [Qao.l0]
  rw [if_pos (by omega), if_pos trivial, show (999 : Nat) = 998 + 1 from rfl]
  simp only [Qao.j1]
  rw [if_pos trivial, if_neg (by simp), if_pos (by simp), w64 (x := 0 + 1) (by omega), show (998 : Nat) = 997 + 1 from rfl]
  simp only [Qao.l0]
  rw [if_pos (by omega), if_neg (by omega)]
  exact h
theorem Qbp {x : Int} (h : IsK .u16 x) : 0 ≤ x ∧ x ≤ 65535 := by
 unfold IsK at h
 simp [Lit.wf, IntKind.min, IntKind.max, IntKind.signed, IntKind.bits] at h
 omega
theorem Qbi {p : List Int} {m : Int} (hp : ∀ x ∈ p, IsK .u8 x) (hm : IsK .u16 m) : ∃ k, Qao.f k p m = some true := ⟨1000, Qbb (fun x hx => byte_of (hp x hx)) (Qbp hm).1 (Qbp hm).2⟩
end Go.Proofs.Ytjaapkkpmegkfaa.P
