/- Part 5 of what the law's proof needs beyond its base: words, walks of functions and plain facts. -/
import Derived.Test.YtjaapkkpmegkfaaGreatG04
set_option linter.unusedVariables false
set_option linter.unusedSimpArgs false
namespace Go.Proofs.YtjaapkkpmegkfaaGreat.P
open Go.RowKit Go.Shelf Go.Proofs.YtjaapkkpmegkfaaGreatW.PrintWords Go.Proofs.YtjaapkkpmegkfaaGreatW.PrintLast Go.Proofs.YtjaapkkpmegkfaaGreatW.PrintMore
theorem Qb6 (l : List Int) (h : l.length ≤ 100) : Qav.f l = some l := by
 unfold Qav.f; simp only [Option.bind_some, List.length_nil, List.nil_append]; rw [if_pos (by omega)]
def mixN (l : List S100) (p : List Int) : List Int := (List.range l.length).map fun i : Nat => byN p i % ((Qf l (i : Int)).f3 + 1)
theorem Qcw {l : List S100} {p : List Int} (ok : ∀ s ∈ l, okS s = true) : fit l (mixN l p) = true := by
 refine Qbf.2 ⟨by simp [mixN], fun i h => ?_⟩; have hl : i < l.length := by simpa [mixN] using h
 have h3 := Qch (ok l[i] (List.getElem_mem hl)); rw [← Qa8 hl] at h3; have e : (mixN l p)[i] = byN p i % ((Qf l (i : Int)).f3 + 1) := by simp [mixN]
 rw [e]; have h1 := Int.emod_nonneg (byN p i) (show (Qf l (i : Int)).f3 + 1 ≠ 0 by omega); have h2 := Int.emod_lt_of_pos (byN p i) (show 0 < (Qf l (i : Int)).f3 + 1 by omega); omega
theorem Qct {l : List S100} {p : List Int} (ok : ∀ s ∈ l, okS s = true) (h4 : l.length ≤ 4) (hp : ∀ x ∈ p, byte x) : ∀ (q k i : Nat), i + q = l.length → q < k →
  Qar.l0 k l p ((List.range i).map fun i : Nat => byN p i % ((Qf l (i : Int)).f3 + 1)) (i : Int) = some (mixN l p) := by
 intro q
 induction q with
 | zero =>
  intro k i hi hk; obtain ⟨k, rfl⟩ : ∃ z, k = z + 1 := ⟨k - 1, by omega⟩
  simp only [Qar.l0]; rw [if_neg (by omega), show i = l.length by omega]; rfl
 | succ q ih =>
  intro k i hi hk; obtain ⟨k, rfl⟩ : ∃ z, k = z + 1 := ⟨k - 1, by omega⟩
  have hl : i < l.length := by omega
  have h3 := Qch (ok l[i] (List.getElem_mem hl)); rw [← Qa8 hl] at h3; have hb := Qbg hp i; simp only [Qar.l0]; rw [if_pos (by omega), Qb1 hp i, w64 (x := (Qf l (i : Int)).f3 + 1) (by omega), w64 (x := (i : Int) + 1) (by omega)]; simp only [Option.bind_some]; rw [if_pos (by omega), if_neg (by omega), if_pos (by simp; omega), Int.tmod_eq_emod_of_nonneg hb.1]; have := ih k (i + 1) (by omega) (by omega); rw [List.range_succ, List.map_append] at this; exact this
theorem Qcv {l : List S100} {p : List Int} (ok : ∀ s ∈ l, okS s = true) (h4 : l.length ≤ 4) (hp : ∀ x ∈ p, byte x) {k : Nat} (hk : 10 < k) : Qar.f k l p = some (mixN l p) := by
 unfold Qar.f; exact Qct ok h4 hp l.length k 0 (Nat.zero_add _) (by omega)
theorem cost_at (l : List S100) (m : List Int) (h : Mx l m) (hl : m.length = l.length) : ∀ (q k i : Nat) (s t : Int), i + q = m.length → q < k → 0 ≤ s → s ≤ 12 * 500 * (i : Int) → 0 ≤ t → t ≤ 12 * 50 * (i : Int) →
  Qau.l0 k l m s t (i : Int) = some (s + tot Qa5 (l.drop i) (m.drop i), t + tot Qa0 (l.drop i) (m.drop i)) := by
 have h4 := h.l4; intro q
 induction q with
 | zero =>
  intro k i s t hi hk _ _ _ _; obtain ⟨k, rfl⟩ : ∃ z, k = z + 1 := ⟨k - 1, by omega⟩
  simp only [Qau.l0]; rw [if_neg (by omega), List.drop_of_length_le (l := m) (by omega)]
  simp [tot]
 | succ q ih =>
  intro k i s t hi hk hs0 hs1 ht0 ht1; obtain ⟨k, rfl⟩ : ∃ z, k = z + 1 := ⟨k - 1, by omega⟩
  have h1 : i < m.length := by omega
  have h2 : i < l.length := by omega
  have hf := Qc1 (h.ok l[i] (List.getElem_mem h2)); have hg := Qbz (h.ok l[i] (List.getElem_mem h2)); have hx := h.m12 m[i] (List.getElem_mem h1); have hp := Qa6 hx.1 hx.2 hf.1 hf.2; have hq := Qa6 hx.1 hx.2 hg.1 hg.2; simp only [Qau.l0]; rw [if_pos (by omega), if_pos (by omega), if_pos (by omega), Qa8 h2, YT h1, Qbc h2 h1, Qbc h2 h1]; have e : l[i].f1 = Qa5 l[i] := rfl; have e' : l[i].f2 = Qa0 l[i] := rfl; rw [e, e', w64 (x := m[i] * Qa5 l[i]) (by omega), w64 (x := s + m[i] * Qa5 l[i]) (by omega), w64 (x := m[i] * Qa0 l[i]) (by omega), w64 (x := t + m[i] * Qa0 l[i]) (by omega), w64 (by omega), show ((i : Int) + 1) = ((i + 1 : Nat) : Int) by omega, ih k (i + 1) _ _ (by omega) (by omega) (by omega) (by omega) (by omega) (by omega), Int.add_assoc, Int.add_assoc]
theorem cost_eq {l : List S100} {m : List Int} (h : Mx l m) (hl : m.length = l.length) {k : Nat} (hk : m.length < k) : Qau.f k l m = some (tot Qa5 l m, tot Qa0 l m) := by
 unfold Qau.f; have := cost_at l m h hl m.length k 0 0 0 (Nat.zero_add _) hk (by omega) (by omega) (by omega) (by omega)
 simpa using this
end Go.Proofs.YtjaapkkpmegkfaaGreat.P
namespace Go.Proofs.YtjaapkkpmegkfaaGreat.P
open Go.RowKit Go.Proofs.YtjaapkkpmegkfaaGreatW.PrintWords Go.Proofs.YtjaapkkpmegkfaaGreatW.PrintLast Go.Proofs.YtjaapkkpmegkfaaGreatW.PrintMore
set_option maxRecDepth 100000 in
theorem Qd.eval : Qd.f 60 = some true := by kernel_rfl
theorem Qd.at {k : Nat} (hk : 60 ≤ k) : Qd.f k = some true := Qbi (g := Qd.f) Qd.mono hk Qd.eval
theorem Qd.yes {k : Nat} {r : Bool} (h : Qd.f k = some r) : r = true := by
 have h1 := Qbi (g := Qd.f) Qd.mono (Nat.le_max_left k 60) h; have h2 := Qbi (g := Qd.f) Qd.mono (Nat.le_max_right k 60) Qd.eval; exact Option.some.inj (h1.symm.trans h2)
theorem Qd.calls (k : Nat) (r : Bool) (w : World) (h : Qd.f k = some r) : Calls Tryz.prog 15 #[] w fun e w' => e = .returned (.bool r) ∧ Below w.heap.size w w' :=
 Qd.calls_true k r w (Qd.yes h) h
end Go.Proofs.YtjaapkkpmegkfaaGreat.P
