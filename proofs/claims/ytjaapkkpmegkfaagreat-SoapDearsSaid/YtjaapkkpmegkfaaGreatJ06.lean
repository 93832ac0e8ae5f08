/- Part 6 of what the law's proof needs beyond its base: words, walks of functions and plain facts. -/
import Derived.Test.YtjaapkkpmegkfaaGreatJ05
set_option linter.unusedVariables false
set_option linter.unusedSimpArgs false
namespace Go.Proofs.YtjaapkkpmegkfaaGreat.P
open Go.RowKit Go.Shelf Go.Proofs.YtjaapkkpmegkfaaGreatW.PrintWords Go.Proofs.YtjaapkkpmegkfaaGreatW.PrintLast Go.Proofs.YtjaapkkpmegkfaaGreatW.PrintMore
theorem Qb5 {β : Type} {g : Nat → List β} {z : β} : ∀ {n : Nat}, z ∈ catL g n → ∃ p, p < n ∧ z ∈ g p
 | 0, h => by cases h
 | n + 1, h => by
  unfold catL at h
  rcases List.mem_append.1 h with h | h
  ·obtain ⟨p, h1, h2⟩ := Qb5 h
   exact ⟨p, by omega, h2⟩
  ·exact ⟨n, by omega, h⟩
theorem Qbd {l : List S100} {m : List Int} : fit l m = true ↔ m.length = l.length ∧ ∀ i (h : i < m.length), 0 ≤ m[i] ∧ m[i] ≤ (Qf l (i : Int)).f3 := by
 unfold fit; rw [Bool.and_eq_true, decide_eq_true_iff, List.all_eq_true]
 constructor
 ·rintro ⟨h1, h2⟩
  refine ⟨h1, fun i h => ?_⟩; have := h2 ((l.zip m)[i]'(by simp; omega)) (List.getElem_mem _); rw [List.getElem_zip, decide_eq_true_iff] at this; rw [Qa2 (by omega)]; exact this
 ·rintro ⟨h1, h2⟩
  refine ⟨h1, fun x hx => ?_⟩; obtain ⟨i, hi, rfl⟩ := List.getElem_of_mem hx; rw [List.getElem_zip, decide_eq_true_iff]; have := h2 i (by simp at hi; omega); rw [Qa2 (by simp at hi; omega)] at this; exact this
theorem Qcs (l : List S100) : ∀ (q : Nat) (m : List Int), m.length + q + 1 = l.length → (∀ i (h : i < m.length), 0 ≤ m[i] ∧ m[i] ≤ (Qf l (i : Int)).f3) → ∀ z ∈ allA l q m, fit l z = true := by
 have hsn : ∀ (m : List Int) (p : Nat), m.length < l.length → (∀ i (h : i < m.length), 0 ≤ m[i] ∧ m[i] ≤ (Qf l (i : Int)).f3) → p < ((Qf l m.length).f3 + 1).toNat → ∀ i (h : i < (m ++ [(p : Int)]).length), 0 ≤ (m ++ [(p : Int)])[i] ∧ (m ++ [(p : Int)])[i] ≤ (Qf l (i : Int)).f3 := by
  intro m p hl hm hp i h; simp only [List.length_append, List.length_cons, List.length_nil] at h; by_cases hi : i < m.length
  ·rw [List.getElem_append_left hi]; exact hm i hi
  ·have : i = m.length := by omega
   subst this; rw [List.getElem_append_right (by omega)]; simp only [Nat.sub_self, List.getElem_cons_zero]; omega
 intro q
 induction q with
 | zero =>
  intro m hl hm z hz; unfold allA at hz; obtain ⟨p, h1, h2⟩ := Qb5 hz; rw [List.mem_singleton.1 h2]; exact Qbd.2 ⟨by simp; omega, hsn m p (by omega) hm h1⟩
 | succ q ih =>
  intro m hl hm z hz; unfold allA at hz; obtain ⟨p, h1, h2⟩ := Qb5 hz; exact ih _ (by simp; omega) (hsn m p (by omega) hm h1) z h2
theorem Qbq (l : List S100) (b d e : Int) : ∀ (ms : List (List Int)) (x : List Int × Bool), (ms.foldl (upd l b d e) x) = x ∨ ((ms.foldl (upd l b d e) x).2 = true ∧ (ms.foldl (upd l b d e) x).1 ∈ ms)
 | [], _ => .inl rfl
 | m :: ms, x => by
  rw [List.foldl_cons]
  rcases Qbq l b d e ms (upd l b d e x m) with h | ⟨h1, h2⟩
  ·rw [h]
   unfold upd
   split
   ·exact .inr ⟨rfl, List.mem_cons_self ..⟩
   ·exact .inl rfl
  ·exact .inr ⟨h1, List.mem_cons_of_mem _ h2⟩
theorem Qcn {l : List S100} {b d e : Int} (hl : l.length ≠ 0) (h : (best l b d e).2 = true) : fit l (best l b d e).1 = true := by
 unfold best at h ⊢
 rcases Qbq l b d e (allA l (l.length - 1) []) ([], false) with g | ⟨_, g⟩
 ·rw [g] at h; cases h
 ·exact Qcs l _ _ (by simp; omega) (by simp) _ g
theorem Qc4 (p : Int → Bool) (P : Int → Option Bool) (hP : ∀ x, 0 ≤ x → x < 501 → P x = some (p x)) : ∀ (z k : Nat) (x y : Int), 0 ≤ x → x ≤ y → y ≤ 501 → (y - x).toNat ≤ z → z < k →
  ∃ r, J6 P k x y = some r ∧ x ≤ r ∧ r ≤ y ∧ (x < r → p (r - 1) = false) ∧ (r < y → p r = true) := by
 intro z
 induction z with
 | zero =>
  intro k x y h0 h1 h2 h3 h4; obtain ⟨k, rfl⟩ : ∃ z, k = z + 1 := ⟨k - 1, by omega⟩
  refine ⟨x, ?_, by omega, by omega, fun h => by omega, fun h => by omega⟩; simp only [J6]; rw [if_neg (by omega)]
 | succ z ih =>
  intro k x y h0 h1 h2 h3 h4; obtain ⟨k, rfl⟩ : ∃ z, k = z + 1 := ⟨k - 1, by omega⟩
  simp only [J6]; by_cases hxy : x < y
  ·rw [if_pos hxy, w64 (x := x + y) (by omega)]
   have e : IntKind.u64.wrap (x + y) = x + y := by show (x + y) % 18446744073709551616 = _; omega
   rw [e, w64 (x := (x + y) / 2) (by omega), w64 (x := (x + y) / 2 + 1) (by omega)]; generalize hm : (x + y) / 2 = m; have hm1 : x ≤ m ∧ m < y := by omega
   rw [hP m (by omega) (by omega)]; simp only [Option.bind_some]
   cases hc : p m with
   | true =>
    rw [if_pos rfl]; obtain ⟨r, g1, g2, g3, g4, g5⟩ := ih k x m h0 (by omega) (by omega) (by omega) (by omega); refine ⟨r, g1, g2, by omega, g4, fun _ => ?_⟩; by_cases hr : r < m
    ·exact g5 hr
    ·rw [show r = m by omega]; exact hc
   | false =>
    rw [if_neg (by simp)]; obtain ⟨r, g1, g2, g3, g4, g5⟩ := ih k (m + 1) y (by omega) (by omega) (by omega) (by omega) (by omega); refine ⟨r, g1, by omega, g3, fun _ => ?_, g5⟩; by_cases hr : m + 1 < r
    ·exact g4 hr
    ·rw [show r - 1 = m by omega]; exact hc
  ·rw [if_neg hxy]
   exact ⟨x, rfl, by omega, by omega, fun h => by omega, fun h => by omega⟩
def wo (l : List S100) (n : Int) : List S100 := l.set n.toNat { (Qf l n) with f3 := 0 }
def pr (l : List S100) (n p : Int) : List S100 := l.set n.toNat { (Qf l n) with f1 := p }
theorem Qcx {l : List S100} (hl : chk l = 0) {s : S100} (hs : okS s = true) (n : Nat) : chk (l.set n s) = 0 := by
 obtain ⟨h1, h2, h3⟩ := chk0 hl; unfold chk; rw [List.length_set, if_neg (by omega), if_neg (by omega), if_pos]; rw [List.all_eq_true]; intro x hx
 rcases List.mem_or_eq_of_mem_set hx with h | h
 ·exact h3 x h
 ·rw [h]; exact hs
theorem Qdu {l : List S100} (hl : chk l = 0) {n : Int} (h0 : 0 ≤ n) (h1 : n < l.length) : okS (Qf l n) = true := by
 obtain ⟨m, rfl⟩ := Int.eq_ofNat_of_zero_le h0; rw [Qa2 (by omega)]; exact (chk0 hl).2.2 _ (List.getElem_mem _)
theorem Qdr {l : List S100} (hl : chk l = 0) {n : Int} (h0 : 0 ≤ n) (h1 : n < l.length) : chk (wo l n) = 0 := by
 refine Qcx hl ?_ _; have := Qdu hl h0 h1; unfold okS at this ⊢; rw [decide_eq_true_iff] at this ⊢; simp only; omega
theorem Qco {l : List S100} (hl : chk l = 0) {n p : Int} (h0 : 0 ≤ n) (h1 : n < l.length) (hp : 0 ≤ p ∧ p ≤ 500) : chk (pr l n p) = 0 := by
 refine Qcx hl ?_ _; have := Qdu hl h0 h1; unfold okS at this ⊢; rw [decide_eq_true_iff] at this ⊢; simp only; omega
def Qbh (l : List S100) (b d e n p : Int) : Bool :=
 (best (pr l n p) b d e).2 && (!(best (wo l n) b d e).2 || decide (tot Qav (pr l n p) (best (pr l n p) b d e).1 < tot Qav (wo l n) (best (wo l n) b d e).1))
theorem Qd2 {l : List S100} {a b c d e n : Int} (hl : chk l = 0) (hc : okC a b c d e = true) (h0 : 0 ≤ n) (h1 : n < l.length) {k : Nat} (hk : 2000 < k) {p : Int} (hp : 0 ≤ p ∧ p ≤ 500) :
  QZ.f k p a b c d e l n (best (wo l n) b d e).2 a b c d e (wo l n) (best (wo l n) b d e).1 = some (Qbh l b d e n p) := by
 have h4 := (chk0 hl).2.1; have hlw := Qdr hl h0 h1; have hlp := Qco hl h0 h1 hp; obtain ⟨g1, g2⟩ := Qbo hlp hc hk; obtain ⟨_, g3⟩ := Qbo hlw hc hk; have hlen : (wo l n).length = l.length := by unfold wo; simp
 have hlen2 : (pr l n p).length = l.length := by unfold pr; simp
 unfold QZ.f QQ.f; rw [if_pos ⟨h0, h1, by omega⟩]; simp only [Option.bind_some]; have ep : l.set n.toNat { (Qf l n) with f1 := p } = pr l n p := rfl; rw [ep, g1]; simp only [Option.bind_some]; unfold Qbh; by_cases hb : (best (pr l n p) b d e).2 = true
 ·have hm := g2 hb
  rw [if_pos hb, hb, Bool.true_and]; by_cases hw : (best (wo l n) b d e).2 = true
  ·have hm2 := g3 hw
   rw [if_pos hw, hw, Qbn hm.1 _ _ _ _ _ (by omega), Qbn hm2.1 _ _ _ _ _ (by omega)]
   simp
  ·rw [if_neg hw]
   have : (best (wo l n) b d e).2 = false := by simpa using hw
   rw [this]; rfl
 ·rw [if_neg hb]
  have : (best (pr l n p) b d e).2 = false := by simpa using hb
  rw [this]; rfl
theorem dear_eq {l : List S100} {a b c d e n : Int} (hl : chk l = 0) (hc : okC a b c d e = true) (h0 : 0 ≤ n) (h1 : n < l.length) {k : Nat} (hk : 2000 < k) :
  ∃ r, 0 ≤ r ∧ r ≤ 501 ∧ (0 < r → Qbh l b d e n (r - 1) = true) ∧ (r < 501 → Qbh l b d e n r = false) ∧ Q7.f k l a b c d e n = some (if r = 0 then (0, 9) else (r - 1, 0)) := by
 have h4 := (chk0 hl).2.1; have hlw := Qdr hl h0 h1
 obtain ⟨r, g1, g2, g3, g4, g5⟩ := Qc4 (fun x => !Qbh l b d e n x) (fun x => (QZ.f k x a b c d e l n (best (wo l n) b d e).2 a b c d e (wo l n) (best (wo l n) b d e).1).bind fun b => some (!b)) (fun x hx0 hx1 => by
  rw [Qd2 hl hc h0 h1 hk ⟨hx0, by omega⟩]; rfl) 501 k 0 501 (by omega) (by omega) (by omega) (by omega) (by omega)
 refine ⟨r, g2, g3, fun h => by simpa using g4 h, fun h => by simpa using g5 h, ?_⟩; have hopn : opn l a b c d e = 0 := by unfold opn; rw [if_pos hl, if_pos hc]
 unfold Q7.f; rw [Qca]; simp only [Option.bind_some]; rw [if_pos hopn, w64 (x := (l.length : Int) - 1) (by omega), Y1]; simp only [Option.bind_some]; rw [if_pos (by simp; omega)]; unfold Q2.f; rw [if_pos ⟨h0, h1, by omega⟩]; simp only [Option.bind_some]; have e1 : l.set n.toNat { (Qf l n) with f3 := 0 } = wo l n := rfl; rw [e1, (Qbo hlw hc hk).1]; simp only [Option.bind_some]; unfold Q7.tail; rw [g1]; simp only [Option.bind_some]; by_cases hr : r = 0
 ·rw [if_pos hr, if_pos hr]
 ·rw [if_neg hr, if_neg hr, w64 (by omega)]
def Qbc (l : List S100) (b d e : Int) (z : List Int) : Prop := lo l b d z ≥ 0 ∧ tot Qa1 l z ≤ e
theorem Qbt {β : Type} {g : Nat → List β} {z : β} {p : Nat} : ∀ {n : Nat}, p < n → z ∈ g p → z ∈ catL g n
 | 0, h, _ => by omega
 | n + 1, h, hz => by
  unfold catL; by_cases e : p = n
  ·subst e; exact List.mem_append_right _ hz
  ·exact List.mem_append_left _ (Qbt (by omega) hz)
theorem Qcl (l : List S100) : ∀ (q : Nat) (m s : List Int), m.length + q + 1 = l.length → s.length = q + 1 → (∀ i (h : i < s.length), 0 ≤ s[i] ∧ s[i] ≤ (Qf l ((m.length + i : Nat) : Int)).f3) → m ++ s ∈ allA l q m := by
 intro q
 induction q with
 | zero =>
  intro m s hl hs hb
  match s, hs with
  | [x], _ =>
   have h := hb 0 (by simp); simp only [List.getElem_cons_zero, Nat.add_zero] at h; unfold allA; refine Qbt (p := x.toNat) (by omega) ?_; rw [show ((x.toNat : Nat) : Int) = x by omega]; exact List.mem_singleton.2 rfl
 | succ q ih =>
  intro m s hl hs hb
  match s, hs with
  | x :: s, hs =>
   have h := hb 0 (by simp); simp only [List.getElem_cons_zero, Nat.add_zero] at h; unfold allA; refine Qbt (p := x.toNat) (by omega) ?_; rw [show ((x.toNat : Nat) : Int) = x by omega]
   have := ih (m ++ [x]) s (by simp; omega) (by simpa using hs) (fun i hi => by
    have := hb (i + 1) (by simp; omega); simp only [List.getElem_cons_succ] at this; rw [List.length_append, show m.length + [x].length + i = m.length + (i + 1) by simp; omega]; exact this)
   rw [List.append_assoc] at this; exact this
theorem Qb0 (l : List S100) (b d e : Int) : ∀ (ms : List (List Int)) (x : List Int × Bool), (x.2 = true → Qbc l b d e x.1) →
  ((ms.foldl (upd l b d e) x).2 = true → Qbc l b d e (ms.foldl (upd l b d e) x).1) ∧ (x.2 = true → (ms.foldl (upd l b d e) x).2 = true ∧ tot Qav l (ms.foldl (upd l b d e) x).1 ≤ tot Qav l x.1) ∧
  ∀ z ∈ ms, Qbc l b d e z → (ms.foldl (upd l b d e) x).2 = true ∧ tot Qav l (ms.foldl (upd l b d e) x).1 ≤ tot Qav l z
 | [], x, hx => ⟨hx, fun h => ⟨h, Int.le_refl _⟩, fun z hz => by cases hz⟩
 | m :: ms, x, hx => by
  have hu : (upd l b d e x m).2 = true → Qbc l b d e (upd l b d e x m).1 := by
   unfold upd
   split
   ·rename_i h; exact fun _ => ⟨h.1, h.2.1⟩
   ·exact hx
  obtain ⟨i1, i2, i3⟩ := Qb0 l b d e ms (upd l b d e x m) hu
  have hx2 : x.2 = true → (upd l b d e x m).2 = true ∧ tot Qav l (upd l b d e x m).1 ≤ tot Qav l x.1 := by
   intro h; unfold upd
   split
   ·rename_i g
    refine ⟨rfl, ?_⟩
    rcases g.2.2 with g | g
    ·rw [g] at h; cases h
    ·simp only; omega
   ·exact ⟨h, Int.le_refl _⟩
  have hm2 : Qbc l b d e m → (upd l b d e x m).2 = true ∧ tot Qav l (upd l b d e x m).1 ≤ tot Qav l m := by
   intro h; unfold upd
   split
   ·exact ⟨rfl, Int.le_refl _⟩
   ·rename_i g
    cases hq : x.2 with
    | false => exact absurd ⟨h.1, h.2, .inl hq⟩ g
    | true =>
     refine ⟨rfl, ?_⟩; by_cases hlt : tot Qav l m < tot Qav l x.1
     ·exact absurd ⟨h.1, h.2, .inr hlt⟩ g
     ·omega
  rw [List.foldl_cons]; refine ⟨i1, fun h => ?_, fun z hz hg => ?_⟩
  ·have h1 := hx2 h
   have h2 := i2 h1.1; exact ⟨h2.1, Int.le_trans h2.2 h1.2⟩
  ·rcases List.mem_cons.1 hz with rfl | hz
   ·have h1 := hm2 hg
    have h2 := i2 h1.1; exact ⟨h2.1, Int.le_trans h2.2 h1.2⟩
   ·exact i3 z hz hg
theorem Qbs {l : List S100} {b d e : Int} (h : (best l b d e).2 = true) : Qbc l b d e (best l b d e).1 :=
 (Qb0 l b d e _ ([], false) (by simp)).1 h
theorem Qbz {l : List S100} {b d e : Int} (hl : l.length ≠ 0) {z : List Int} (hf : fit l z = true) (hg : Qbc l b d e z) : (best l b d e).2 = true ∧ tot Qav l (best l b d e).1 ≤ tot Qav l z := by
 obtain ⟨h1, h2⟩ := Qbd.1 hf; refine (Qb0 l b d e _ ([], false) (by simp)).2.2 z ?_ hg; have := Qcl l (l.length - 1) [] z (by simp; omega) (by omega) (fun i hi => by simpa using h2 i hi)
 simpa using this
theorem Qbl (f : S100 → Int) : ∀ (l : List S100) (m : List Int) (n : Nat) (s : S100) (h : n < l.length) (hm : n < m.length), tot f (l.set n s) m = tot f l m + m[n] * (f s - f l[n])
 | [], m, n, s, h, hm => by simp at h
 | x :: l, [], n, s, h, hm => by simp at hm
 | x :: l, y :: m, 0, s, h, hm => by
  unfold tot; simp only [List.set_cons_zero, List.getElem_cons_zero, List.zip_cons_cons, List.map_cons, List.sum_cons, Int.mul_sub]; omega
 | x :: l, y :: m, n + 1, s, h, hm => by
  have ih := Qbl f l m n s (by simpa using h) (by simpa using hm); unfold tot at ih ⊢; simp only [List.set_cons_succ, List.getElem_cons_succ, List.zip_cons_cons, List.map_cons, List.sum_cons]; rw [ih]; omega
theorem Qcc {l : List S100} {n i : Nat} {s : S100} (h : n < l.length) : Qf (l.set n s) (i : Int) = if n = i then s else Qf l (i : Int) := by
 unfold Qf; rw [Int.toNat_natCast, List.getD_eq_getElem?_getD, List.getD_eq_getElem?_getD, List.getElem?_set]; by_cases e : n = i
 ·subst e; simp [h]
 ·simp [e]
theorem Qcv {l : List S100} {m : List Int} {n : Nat} {p : Int} (h1 : n < l.length) (hf : fit (pr l n p) m = true) (hz : m.getD n 0 = 0) :
  fit (wo l n) m = true ∧ (∀ b d, lo (wo l n) b d m = lo (pr l n p) b d m) ∧ tot Qa1 (wo l n) m = tot Qa1 (pr l n p) m ∧ tot Qav (wo l n) m = tot Qav (pr l n p) m := by
 obtain ⟨g1, g2⟩ := Qbd.1 hf; have hlp : (pr l n p).length = l.length := by unfold pr; simp
 have hlw : (wo l n).length = l.length := by unfold wo; simp
 have hm : n < m.length := by omega
 have hz' : m[n] = 0 := by rw [List.getD_eq_getElem?_getD, List.getElem?_eq_getElem hm] at hz; exact hz
 have ht : ∀ (f : S100 → Int) (s : S100), tot f (l.set n s) m = tot f l m := fun f s => by rw [Qbl f l m n s h1 hm, hz']; omega
 have e1 : ∀ f : S100 → Int, tot f (wo l n) m = tot f l m := fun f => by unfold wo; rw [Int.toNat_natCast]; exact ht f _
 have e2 : ∀ f : S100 → Int, tot f (pr l n p) m = tot f l m := fun f => by unfold pr; rw [Int.toNat_natCast]; exact ht f _
 refine ⟨Qbd.2 ⟨by omega, fun i hi => ?_⟩, fun b d => by unfold lo; rw [e1, e2], by rw [e1, e2], by rw [e1, e2]⟩; have h := g2 i hi; unfold pr at h; unfold wo; rw [Int.toNat_natCast, Qcc h1] at h ⊢; by_cases e : n = i
 ·subst e
  rw [if_pos rfl, hz']; exact ⟨Int.le_refl _, Int.le_refl _⟩
 ·rw [if_neg e] at h ⊢
  exact h
theorem Qcz {l : List S100} {b d e p : Int} {n : Nat} (h1 : n < l.length) (hw : Qbh l b d e n p = true) : fit (pr l n p) (best (pr l n p) b d e).1 = true ∧ (best (pr l n p) b d e).1.getD n 0 ≠ 0 := by
 unfold Qbh at hw; rw [Bool.and_eq_true] at hw; obtain ⟨w1, w2⟩ := hw; have hlp : (pr l n p).length = l.length := by unfold pr; simp
 have hlw : (wo l n).length = l.length := by unfold wo; simp
 have hf := Qcn (l := pr l n p) (by omega) w1; refine ⟨hf, fun hz => ?_⟩; obtain ⟨k1, k2, k3, k4⟩ := Qcv h1 hf hz; have hg := Qbs w1; have hmin := Qbz (l := wo l n) (b := b) (d := d) (e := e) (by omega) k1 ⟨by rw [k2]; exact hg.1, by rw [k3]; exact hg.2⟩; rw [k4] at hmin; rw [hmin.1] at w2; simp only [Bool.not_true, Bool.false_or, decide_eq_true_iff] at w2; omega
structure Pf (l : List S100) (m : List Int) : Prop where
 mx : Mx l m
 le : ∀ i (h : i < m.length), m[i] ≤ (Qf l (i : Int)).f3
theorem Pf.snoc {l : List S100} {m : List Int} (h : Pf l m) (hq : m.length < l.length) {x : Int} (h0 : 0 ≤ x) (h1 : x ≤ (Qf l (m.length : Int)).f3) (h12 : x ≤ 12) : Pf l (m ++ [x]) :=
 ⟨h.mx.snoc hq h0 h12, fun i hi => by
  rw [List.getElem_append]
  split
  ·exact h.le i _
  ·rename_i g
   have e : i = m.length := by simp at hi; omega
   subst e
   simpa using h1⟩
theorem Pf.fit {l : List S100} {m : List Int} (h : Pf l m) (hl : m.length = l.length) : fit l m = true :=
 Qbd.2 ⟨hl, fun i hi => ⟨(h.mx.m12 m[i] (List.getElem_mem hi)).1, h.le i hi⟩⟩
theorem Qdh {β R : Type} {l : List S100} (hl : l.length ≤ 4) (ok : ∀ s ∈ l, okS s = true) (L : Nat → β → List Int → Bool → Option R) (up : β → List Int → β) (I : β → Prop)
  (hI : ∀ x m, I x → Pf l m → m.length = l.length → I (up x m))
  (hL : ∀ k x m, 10 < k → I x → Pf l m → m.length = l.length → L (k + 1) x m true = (Qar.f k l m).bind fun bt => L k (up x m) bt.2 bt.1) : ∀ (r : Nat) (P : List Int) (x : β) (k : Nat), P.length + r = l.length → Pf l P → I x → 13 ^ r + 20 < k →
  ∃ k', k ≤ k' + 13 ^ r ∧ L k x (P ++ List.replicate r 0) true = (Qar.f k' l (P ++ mxs l P.length)).bind (fun bt => L k' ((allB l r P).foldl up x) bt.2 bt.1) ∧ I ((allB l r P).foldl up x) := by
 intro r
 induction r with
 | zero =>
  intro P x k h hP hx hk; obtain ⟨k, rfl⟩ : ∃ z, k = z + 1 := ⟨k - 1, by omega⟩
  have e : mxs l P.length = [] := by unfold mxs; rw [List.drop_of_length_le (by omega)]; rfl
  refine ⟨k, by simp, ?_, hI x P hx hP (by omega)⟩; rw [e, List.replicate_zero, List.append_nil]; exact hL k x P (by omega) hx hP (by omega)
 | succ r ih =>
  intro P x k h hP hx hk; have hq : P.length < l.length := by omega
  have hs := Qbj (ok l[P.length] (List.getElem_mem hq)); have e13 : 13 ^ (r + 1) = 13 * 13 ^ r := by rw [Nat.pow_succ]; omega
  rw [e13] at hk ⊢; generalize hcc : 13 ^ r = cc at *
  have fwd : ∀ j : Nat, (j : Int) ≤ l[P.length].f3 → ∃ kj, k ≤ kj + j * cc ∧ L k x (P ++ List.replicate (r + 1) 0) true = L kj ((catL (fun p => allB l r (P ++ [(p : Int)])) j).foldl up x) (P ++ (j : Int) :: List.replicate r 0) true ∧
    I ((catL (fun p => allB l r (P ++ [(p : Int)])) j).foldl up x) := by
   intro j
   induction j with
   | zero => exact fun _ => ⟨k, by omega, rfl, hx⟩
   | succ j ihj =>
    intro hj; obtain ⟨kj, g1, g2, g3⟩ := ihj (by omega); have hj12 : j * cc ≤ 11 * cc := Nat.mul_le_mul_right _ (by omega); obtain ⟨k', f1, f2, f3⟩ := ih (P ++ [(j : Int)]) _ kj (by simp; omega) (hP.snoc hq (by omega) (by rw [Qa2 hq]; omega) (by omega)) g3 (by omega); refine ⟨k', ?_, ?_, ?_⟩
    ·rw [Nat.add_mul]; omega
    ·rw [List.append_assoc] at f2
     have f2' := f2; rw [show [(j : Int)] ++ List.replicate r 0 = (j : Int) :: List.replicate r 0 from rfl] at f2'; rw [g2, f2']; have e1 : (P ++ [(j : Int)]).length = P.length + 1 := by simp
     rw [e1, List.append_assoc]; have := next_eq l hl ok r P (j : Int) (by omega) (by omega) (by rw [Qa2 hq]; omega) (k := k') (by omega); rw [show [(j : Int)] ++ mxs l (P.length + 1) = (j : Int) :: mxs l (P.length + 1) from rfl, this]; simp only [Option.bind_some]; rw [Qbp, List.foldl_append]; rfl
    ·rw [Qbp, List.foldl_append]
     exact f3
  obtain ⟨f, hf⟩ : ∃ f : Nat, l[P.length].f3 = (f : Int) := ⟨l[P.length].f3.toNat, by omega⟩
  obtain ⟨kj, g1, g2, g3⟩ := fwd f (by omega); have hj12 : f * cc ≤ 12 * cc := Nat.mul_le_mul_right _ (by omega); obtain ⟨k', f1, f2, f3⟩ := ih (P ++ [(f : Int)]) _ kj (by simp; omega) (hP.snoc hq (by omega) (by rw [Qa2 hq]; omega) (by omega)) g3 (by omega)
  have e2 : (allB l (r + 1) P).foldl up x = (allB l r (P ++ [(f : Int)])).foldl up ((catL (fun p => allB l r (P ++ [(p : Int)])) f).foldl up x) := by
   rw [Qdd, Qa2 hq, hf, show ((f : Int) + 1).toNat = f + 1 by omega, Qbp, List.foldl_append]
  refine ⟨k', by omega, ?_, ?_⟩
  ·rw [g2, e2, Qct hq, hf]
   rw [List.append_assoc, show (P ++ [(f : Int)]).length = P.length + 1 by simp, List.append_assoc] at f2; exact f2
  ·rw [e2]; exact f3
theorem Qdn {O : List Int} {i j : Nat} {v : Int} (h : i < O.length) : rd (O.set i v) (j : Int) = if i = j then v else rd O (j : Int) := by
 unfold rd; rw [Int.toNat_natCast, List.getD_eq_getElem?_getD, List.getD_eq_getElem?_getD, List.getElem?_set]; by_cases e : i = j
 ·subst e; simp [h]
 ·simp [e]
def dup (l : List S100) (n : Nat) (b d e : Int) (O m : List Int) : List Int :=
 if lo l b d m ≥ 0 ∧ tot Qa1 l m ≤ e ∧ (rd O (rd m (n : Int)) < 0 ∨ tot Qav (pr l n 0) m < rd O (rd m (n : Int))) then O.set (rd m (n : Int)).toNat (tot Qav (pr l n 0) m) else O
theorem Qb9 (l : List S100) (n : Nat) (b d e : Int) (O m : List Int) : (dup l n b d e O m).length = O.length := by
 unfold dup; split <;> simp
theorem Qed (l : List S100) (n : Nat) (b d e : Int) (O m : List Int) (hm : 0 ≤ rd m (n : Int) ∧ rd m (n : Int) < O.length) (hp : 0 ≤ tot Qav (pr l n 0) m) {j : Nat} (hj : j < O.length) :
  (rd (dup l n b d e O m) (j : Int) = rd O (j : Int) ∨ (Qbc l b d e m ∧ rd m (n : Int) = j ∧ rd (dup l n b d e O m) (j : Int) = tot Qav (pr l n 0) m)) ∧
  (0 ≤ rd O (j : Int) → 0 ≤ rd (dup l n b d e O m) (j : Int) ∧ rd (dup l n b d e O m) (j : Int) ≤ rd O (j : Int)) ∧
  (Qbc l b d e m → rd m (n : Int) = j → 0 ≤ rd (dup l n b d e O m) (j : Int) ∧ rd (dup l n b d e O m) (j : Int) ≤ tot Qav (pr l n 0) m) := by
 obtain ⟨q, hq⟩ : ∃ q : Nat, rd m (n : Int) = (q : Int) := ⟨(rd m (n : Int)).toNat, by omega⟩
 unfold dup; rw [hq, Int.toNat_natCast]; rw [hq] at hm
 split
 ·rename_i h
  rw [Qdn (by omega)]; by_cases e1 : q = j
  ·subst e1
   rw [if_pos rfl]; refine ⟨.inr ⟨⟨h.1, h.2.1⟩, rfl, rfl⟩, fun g => ⟨hp, ?_⟩, fun _ _ => ⟨hp, Int.le_refl _⟩⟩
   rcases h.2.2 with g2 | g2 <;> omega
  ·rw [if_neg e1]
   exact ⟨.inl rfl, fun g => ⟨g, Int.le_refl _⟩, fun _ g => absurd (by omega) e1⟩
 ·rename_i h
  refine ⟨.inl rfl, fun g => ⟨g, Int.le_refl _⟩, fun g1 g2 => ?_⟩; have e1 : q = j := by omega
  subst e1; by_cases g3 : rd O (q : Int) < 0
  ·exact absurd ⟨g1.1, g1.2, .inl g3⟩ h
  ·by_cases g4 : tot Qav (pr l n 0) m < rd O (q : Int)
   ·exact absurd ⟨g1.1, g1.2, .inr g4⟩ h
   ·omega
theorem Qcp (l : List S100) (n : Nat) (b d e : Int) : ∀ (ms : List (List Int)) (O : List Int), (∀ m ∈ ms, 0 ≤ rd m (n : Int) ∧ rd m (n : Int) < O.length) → (∀ m ∈ ms, 0 ≤ tot Qav (pr l n 0) m) → ∀ j : Nat, j < O.length →
  (rd (ms.foldl (dup l n b d e) O) (j : Int) = rd O (j : Int) ∨ ∃ m ∈ ms, Qbc l b d e m ∧ rd m (n : Int) = j ∧ rd (ms.foldl (dup l n b d e) O) (j : Int) = tot Qav (pr l n 0) m) ∧
  (0 ≤ rd O (j : Int) → 0 ≤ rd (ms.foldl (dup l n b d e) O) (j : Int) ∧ rd (ms.foldl (dup l n b d e) O) (j : Int) ≤ rd O (j : Int)) ∧
  (∀ m ∈ ms, Qbc l b d e m → rd m (n : Int) = j → 0 ≤ rd (ms.foldl (dup l n b d e) O) (j : Int) ∧ rd (ms.foldl (dup l n b d e) O) (j : Int) ≤ tot Qav (pr l n 0) m)
 | [], O, _, _, j, hj => ⟨.inl rfl, fun g => ⟨g, Int.le_refl _⟩, fun m hm => by cases hm⟩
 | m :: ms, O, h1, h2, j, hj => by
  have hO := Qb9 l n b d e O m; obtain ⟨a1, a2, a3⟩ := Qed l n b d e O m (h1 m (by simp)) (h2 m (by simp)) hj; obtain ⟨b1, b2, b3⟩ := Qcp l n b d e ms (dup l n b d e O m) (fun x hx => by rw [hO]; exact h1 x (by simp [hx])) (fun x hx => h2 x (by simp [hx])) j (by omega); rw [List.foldl_cons]; refine ⟨?_, fun g => ?_, fun x hx g1 g2 => ?_⟩
  ·rcases b1 with b1 | ⟨x, g1, g2⟩
   ·rcases a1 with a1 | ⟨g1, g2, g3⟩
    ·exact .inl (b1.trans a1)
    ·exact .inr ⟨m, by simp, g1, g2, b1.trans g3⟩
   ·exact .inr ⟨x, by simp [g1], g2⟩
  ·have := a2 g
   have := b2 this.1; omega
  ·rcases List.mem_cons.1 hx with rfl | hx
   ·have := a3 g1 g2
    have := b2 this.1; omega
   ·exact b3 x hx g1 g2
theorem Qbk {l : List S100} (hl : l.length ≠ 0) {z : List Int} : z ∈ allB l l.length [] ↔ fit l z = true := by
 have e5 : allA l (l.length - 1) [] = allB l l.length [] := by rw [Qc8, show l.length - 1 + 1 = l.length by omega]
 rw [← e5]
 constructor
 ·exact Qcs l (l.length - 1) [] (by simp; omega) (by simp) z
 ·intro h
  obtain ⟨h1, h2⟩ := Qbd.1 h; have := Qcl l (l.length - 1) [] z (by simp; omega) (by omega) (fun i hi => by simpa using h2 i hi)
  simpa using this
theorem Qbv {l : List S100} {n : Nat} (h1 : n < l.length) {p : Int} {m : List Int} : fit (pr l n p) m = fit l m := by
 have hlp : (pr l n p).length = l.length := by unfold pr; simp
 have e : ∀ i : Nat, (Qf (pr l n p) (i : Int)).f3 = (Qf l (i : Int)).f3 := by
  intro i; unfold pr; rw [Int.toNat_natCast, Qcc h1]
  split
  ·rename_i g; subst g; rfl
  ·rfl
 rw [Bool.eq_iff_iff, Qbd, Qbd, hlp]; simp only [e]
theorem Qb6 {l : List S100} {n : Nat} (h1 : n < l.length) {p : Int} {m : List Int} (hm : n < m.length) (f : S100 → Int) (hf : ∀ s : S100, ∀ q, f { s with f1 := q } = f s) : tot f (pr l n p) m = tot f l m := by
 unfold pr; rw [Int.toNat_natCast, Qbl f l m n _ h1 hm, Qa2 h1, hf]; simp
theorem Qcu {l : List S100} {n : Nat} (h1 : n < l.length) {p : Int} {m : List Int} (hm : n < m.length) : tot Qav (pr l n p) m = tot Qav (pr l n 0) m + rd m (n : Int) * p := by
 unfold pr; rw [Int.toNat_natCast, Qbl Qav l m n _ h1 hm, Qbl Qav l m n _ h1 hm, Qa2 h1, YT hm]; show _ + m[n] * (p - Qav l[n]) = _ + m[n] * (0 - Qav l[n]) + m[n] * p; rw [Int.mul_sub, Int.mul_sub]; omega
theorem Qdk {l : List S100} (ok : ∀ s ∈ l, okS s = true) {n : Nat} (h1 : n < l.length) {m : List Int} : fit (wo l n) m = true ↔ fit l m = true ∧ rd m (n : Int) = 0 := by
 have hlw : (wo l n).length = l.length := by unfold wo; simp
 have e : ∀ i : Nat, (Qf (wo l n) (i : Int)).f3 = if n = i then 0 else (Qf l (i : Int)).f3 := by
  intro i; unfold wo; rw [Int.toNat_natCast, Qcc h1]
  split <;> rfl
 rw [Qbd, Qbd, hlw]
 constructor
 ·rintro ⟨g1, g2⟩
  have hz := g2 n (by omega); rw [e, if_pos rfl] at hz; refine ⟨⟨g1, fun i hi => ?_⟩, by rw [YT (by omega)]; omega⟩; have := g2 i hi; rw [e] at this; by_cases q : n = i
  ·subst q
   rw [if_pos rfl] at this; have := Qbj (ok l[n] (List.getElem_mem h1)); rw [Qa2 h1]; omega
  ·rw [if_neg q] at this
   exact this
 ·rintro ⟨⟨g1, g2⟩, g3⟩
  refine ⟨g1, fun i hi => ?_⟩; rw [e]; by_cases q : n = i
  ·subst q
   rw [if_pos rfl]; rw [YT hi] at g3; omega
  ·rw [if_neg q]
   exact g2 i hi
def oth (l : List S100) (n : Nat) (b d e : Int) : List Int := (allB l l.length []).foldl (dup l n b d e) (List.replicate ((Qf l (n : Int)).f3 + 1).toNat (-1))
def isW (O : List Int) (i : Nat) (p : Int) : Prop := ∃ j : Nat, i ≤ j ∧ j < O.length ∧ 0 ≤ rd O (j : Int) ∧ (rd O 0 < 0 ∨ rd O (j : Int) + (j : Int) * p < rd O 0)
theorem Qds {n j : Nat} {v : Int} (h : j < n) : rd (List.replicate n v) (j : Int) = v := by
 rw [YT (by simpa using h)]; simp
structure Oth (l : List S100) (n : Nat) (b d e : Int) (O : List Int) : Prop where
 len : O.length = ((Qf l (n : Int)).f3 + 1).toNat
 bd : ∀ j : Nat, j < O.length → -1 ≤ rd O (j : Int) ∧ rd O (j : Int) ≤ 100000
 some : ∀ j : Nat, j < O.length → 0 ≤ rd O (j : Int) → ∃ m, fit l m = true ∧ Qbc l b d e m ∧ rd m (n : Int) = j ∧ rd O (j : Int) = tot Qav (pr l n 0) m
 least : ∀ m, fit l m = true → Qbc l b d e m → ∃ j : Nat, rd m (n : Int) = j ∧ j < O.length ∧ 0 ≤ rd O (j : Int) ∧ rd O (j : Int) ≤ tot Qav (pr l n 0) m
theorem Qbr {l : List S100} {m : List Int} (h : fit l m = true) {n : Nat} (h1 : n < l.length) : 0 ≤ rd m (n : Int) ∧ rd m (n : Int) ≤ (Qf l (n : Int)).f3 ∧ n < m.length := by
 obtain ⟨g1, g2⟩ := Qbd.1 h; have h2 : n < m.length := by omega
 have := g2 n h2; rw [YT h2]; exact ⟨this.1, this.2, h2⟩
theorem Qdq {l : List S100} (hl : chk l = 0) {n : Nat} (h1 : n < l.length) {m : List Int} (h : fit l m = true) : 0 ≤ tot Qav (pr l n 0) m ∧ tot Qav (pr l n 0) m ≤ 100000 := by
 obtain ⟨_, h4, h3⟩ := chk0 (Qco hl (n := (n : Int)) (p := 0) (by omega) (by omega) (by omega)); exact Qd7 (Qdl h4 h3 (by rw [Qbv h1]; exact h))
theorem oth_ok {l : List S100} (hl : chk l = 0) {n : Nat} (h1 : n < l.length) (b d e : Int) : Oth l n b d e (oth l n b d e) := by
 obtain ⟨l1, l4, ok⟩ := chk0 hl; have h3 := Qbj (ok l[n] (List.getElem_mem h1)); rw [← Qa2 h1] at h3
 have hlen : (oth l n b d e).length = ((Qf l (n : Int)).f3 + 1).toNat := by
  unfold oth; generalize allB l l.length [] = ms
  have : ∀ (ms : List (List Int)) (O : List Int), (ms.foldl (dup l n b d e) O).length = O.length := by
   intro ms
   induction ms with
   | nil => intro O; rfl
   | cons m ms ih => intro O; rw [List.foldl_cons, ih, Qb9]
  rw [this]; simp
 have hms : ∀ m ∈ allB l l.length [], 0 ≤ rd m (n : Int) ∧ rd m (n : Int) < (List.replicate ((Qf l (n : Int)).f3 + 1).toNat (-1 : Int)).length := by
  intro m hm; have := Qbr ((Qbk (by omega)).1 hm) h1; rw [List.length_replicate]; omega
 have hps : ∀ m ∈ allB l l.length [], 0 ≤ tot Qav (pr l n 0) m := fun m hm => (Qdq hl h1 ((Qbk (by omega)).1 hm)).1
 have hf := Qcp l n b d e _ _ hms hps; have hO : (allB l l.length []).foldl (dup l n b d e) (List.replicate ((Qf l (n : Int)).f3 + 1).toNat (-1)) = oth l n b d e := rfl; rw [hO] at hf; rw [List.length_replicate] at hf; refine ⟨hlen, fun j hj => ?_, fun j hj h0 => ?_, fun m hm hg => ?_⟩
 ·rcases (hf j (by omega)).1 with g | ⟨m, g1, g2, g3, g4⟩
  ·rw [Qds (by omega)] at g; omega
  ·have := Qdq hl h1 ((Qbk (by omega)).1 g1); omega
 ·rcases (hf j (by omega)).1 with g | ⟨m, g1, g2, g3, g4⟩
  ·rw [Qds (by omega)] at g; omega
  ·exact ⟨m, (Qbk (by omega)).1 g1, g2, g3, g4⟩
 ·have hr := Qbr hm h1
  obtain ⟨j, hj⟩ : ∃ j : Nat, rd m (n : Int) = (j : Int) := ⟨(rd m (n : Int)).toNat, by omega⟩
  have := (hf j (by omega)).2.2 m ((Qbk (by omega)).2 hm) hg hj; exact ⟨j, hj, by omega, this⟩
theorem Qcd {l : List S100} (hl : chk l = 0) {n : Nat} (h1 : n < l.length) {b d e p : Int} {O : List Int} (h : Oth l n b d e O) : Qbh l b d e n p = true ↔ isW O 1 p := by
 obtain ⟨l1, l4, ok⟩ := chk0 hl; have hlp : (pr l n p).length = l.length := by unfold pr; simp
 have hlw : (wo l n).length = l.length := by unfold wo; simp
 have hO0 : 0 < O.length := by
  have h3 := Qbj (ok l[n] (List.getElem_mem h1)); rw [← Qa2 h1] at h3; rw [h.len]; omega
 have gpr : ∀ m, n < m.length → (Qbc (pr l n p) b d e m ↔ Qbc l b d e m) := fun m hm => by
  unfold Qbc lo; rw [Qb6 h1 hm Qa5 (fun _ _ => rfl), Qb6 h1 hm Qa1 (fun _ _ => rfl)]
 have hwo : ∀ m, fit l m = true → rd m (n : Int) = 0 → (Qbc (wo l n) b d e m ↔ Qbc l b d e m) ∧ tot Qav (wo l n) m = tot Qav (pr l n 0) m := fun m hf hz => by
  have hm := (Qbr hf h1).2.2; obtain ⟨k1, k2, k3, k4⟩ := Qcv (p := 0) h1 (by rw [Qbv h1]; exact hf) (show m.getD n 0 = 0 from hz); refine ⟨?_, k4⟩; unfold Qbc; rw [k2, k3]; unfold lo; rw [Qb6 h1 hm Qa5 (fun _ _ => rfl), Qb6 h1 hm Qa1 (fun _ _ => rfl)]
 constructor
 ·intro hw
  obtain ⟨s1, s2⟩ := Qcz h1 hw; unfold Qbh at hw; rw [Bool.and_eq_true] at hw; obtain ⟨w1, w2⟩ := hw; have hm := (Qbd.1 s1).1; have s1' := s1; rw [Qbv h1] at s1'; have hg := (gpr _ (by omega)).1 (Qbs w1); obtain ⟨j, j1, j2, j3, j4⟩ := h.least _ s1' hg; have j0 : j ≠ 0 := fun e0 => s2 (by subst e0; exact j1)
  refine ⟨j, by omega, j2, j3, ?_⟩; by_cases h0 : rd O 0 < 0
  ·exact .inl h0
  ·right
   obtain ⟨m0, a1, a2, a3, a4⟩ := h.some 0 hO0 (by simpa using h0); have hmin := Qbz (l := wo l n) (b := b) (d := d) (e := e) (by omega) ((Qdk ok h1).2 ⟨a1, a3⟩) ((hwo m0 a1 a3).1.2 a2); rw [hmin.1] at w2; simp only [Bool.not_true, Bool.false_or, decide_eq_true_iff] at w2; rw [(hwo m0 a1 a3).2] at hmin; rw [Qcu h1 (by omega), j1] at w2; have a4' : rd O 0 = tot Qav (pr l n 0) m0 := a4; have := hmin.2; omega
 ·rintro ⟨j, j1, j2, j3, j4⟩
  obtain ⟨m, a1, a2, a3, a4⟩ := h.some j j2 j3; have hm := (Qbr a1 h1).2.2; have hmin := Qbz (l := pr l n p) (b := b) (d := d) (e := e) (by omega) (by rw [Qbv h1]; exact a1) ((gpr m hm).2 a2); rw [Qcu h1 hm, a3] at hmin; unfold Qbh; rw [hmin.1, Bool.true_and]; by_cases hb : (best (wo l n) b d e).2 = true
  ·rw [hb]
   have hf := Qcn (l := wo l n) (by omega) hb; have hg := Qbs hb; obtain ⟨f1, f2⟩ := (Qdk ok h1).1 hf; obtain ⟨i, i1, i2, i3, i4⟩ := h.least _ f1 ((hwo _ f1 f2).1.1 hg); have i0 : i = 0 := by omega
   subst i0; have i4' : rd O 0 ≤ tot Qav (pr l n 0) (best (wo l n) b d e).1 := i4; have i3' : 0 ≤ rd O 0 := i3; rw [← (hwo _ f1 f2).2] at i4'; simp only [Bool.not_true, Bool.false_or, decide_eq_true_iff]; omega
  ·have : (best (wo l n) b d e).2 = false := by simpa using hb
   rw [this]; rfl
theorem Qdx {O : List Int} {i : Nat} {p q : Int} (h : isW O i p) (hq : q ≤ p) : isW O i q := by
 obtain ⟨j, j1, j2, j3, j4⟩ := h; refine ⟨j, j1, j2, j3, ?_⟩
 rcases j4 with g | g
 ·exact .inl g
 ·right
  have : (j : Int) * q ≤ (j : Int) * p := Int.mul_le_mul_of_nonneg_left hq (by omega); omega
theorem Qdw (O : List Int) (h13 : O.length ≤ 13) (bd : ∀ j : Nat, j < O.length → -1 ≤ rd O (j : Int) ∧ rd O (j : Int) ≤ 100000) {p : Int} (hp : 0 ≤ p ∧ p ≤ 500) : ∀ (q k i : Nat), i + q = O.length → q < k →
  (isW O i p ∧ Qao.l3 k O p (i : Int) = some p) ∨ (¬ isW O i p ∧ ∃ k', k ≤ k' + q + 1 ∧ Qao.l3 k O p (i : Int) = Qao.l2 k' O (p - 1)) := by
 intro q
 induction q with
 | zero =>
  intro k i hi hk; obtain ⟨k, rfl⟩ : ∃ z, k = z + 1 := ⟨k - 1, by omega⟩
  refine .inr ⟨?_, k, by omega, ?_⟩
  ·rintro ⟨j, j1, j2, _⟩; omega
  ·simp only [Qao.l3]
   rw [if_neg (by omega), w64 (by omega)]
 | succ q ih =>
  intro k i hi hk; obtain ⟨k, rfl⟩ : ∃ z, k = z + 1 := ⟨k - 1, by omega⟩
  have hb := bd i (by omega); have hb0 := bd 0 (by omega); have hb0' : -1 ≤ rd O 0 ∧ rd O 0 ≤ 100000 := hb0; have hip := Qbe (a := (i : Int)) (A := 13) (c := p) (C := 500) (by omega) (by omega) hp.1 hp.2
  have hnext : ¬ (0 ≤ rd O (i : Int) ∧ (rd O 0 < 0 ∨ rd O (i : Int) + (i : Int) * p < rd O 0)) →
    (isW O i p ∧ Qao.l3 k O p (wrap64 ((i : Int) + 1)) = some p) ∨ (¬ isW O i p ∧ ∃ k', k + 1 ≤ k' + (q + 1) + 1 ∧ Qao.l3 k O p (wrap64 ((i : Int) + 1)) = Qao.l2 k' O (p - 1)) := by
   intro hn; rw [w64 (by omega), show ((i : Int) + 1) = ((i + 1 : Nat) : Int) by omega]
   rcases ih k (i + 1) (by omega) (by omega) with ⟨⟨j, j1, j2⟩, g⟩ | ⟨g1, k', g2, g3⟩
   ·exact .inl ⟨⟨j, by omega, j2⟩, g⟩
   ·refine .inr ⟨?_, k', by omega, g3⟩
    rintro ⟨j, j1, j2, j3⟩; by_cases e : j = i
    ·subst e; exact hn j3
    ·exact g1 ⟨j, by omega, j2, j3⟩
  simp only [Qao.l3]; rw [if_pos (by omega), if_pos (by omega), w64 (x := (i : Int) * p) (by omega), w64 (x := rd O (i : Int) + (i : Int) * p) (by omega)]; by_cases c1 : rd O (i : Int) ≥ 0
  ·rw [if_pos c1, if_pos (by omega)]
   by_cases c2 : rd O 0 < 0
   ·rw [if_pos c2]
    exact .inl ⟨⟨i, Nat.le_refl _, by omega, c1, .inl c2⟩, rfl⟩
   ·rw [if_neg c2]
    by_cases c3 : rd O (i : Int) + (i : Int) * p < rd O 0
    ·rw [if_pos c3]
     exact .inl ⟨⟨i, Nat.le_refl _, by omega, c1, .inr c3⟩, rfl⟩
    ·rw [if_neg c3]
     exact hnext (fun h => by rcases h.2 with g | g; exact c2 g; exact c3 g)
  ·rw [if_neg c1]
   exact hnext (fun h => c1 h.1)
theorem Qd0 (O : List Int) (h13 : O.length ≤ 13) (h1 : 1 ≤ O.length) (bd : ∀ j : Nat, j < O.length → -1 ≤ rd O (j : Int) ∧ rd O (j : Int) ≤ 100000) {r : Int} (hr : 0 ≤ r ∧ r ≤ 501) (hy : 0 < r → isW O 1 (r - 1)) (hn : r < 501 → ¬ isW O 1 r) : ∀ (t k : Nat), r ≤ t → t ≤ 501 → 20 * t + 20 < k →
  Qao.l2 k O ((t : Int) - 1) = some (r - 1) := by
 intro t
 induction t with
 | zero =>
  intro k h2 h3 hk; obtain ⟨k, rfl⟩ : ∃ z, k = z + 1 := ⟨k - 1, by omega⟩
  simp only [Qao.l2]; rw [if_neg (by omega), show r - 1 = -1 by omega]
 | succ t ih =>
  intro k h2 h3 hk; obtain ⟨k, rfl⟩ : ∃ z, k = z + 1 := ⟨k - 1, by omega⟩
  simp only [Qao.l2]; rw [if_pos (by omega), show (((t + 1 : Nat) : Int) - 1) = (t : Int) by omega]
  rcases Qdw O h13 bd (p := (t : Int)) (by omega) (O.length - 1) k 1 (by omega) (by omega) with ⟨g1, g2⟩ | ⟨g1, k', g2, g3⟩
  ·refine g2.trans ?_
   by_cases e : r = (t : Int) + 1
   ·rw [e]; congr 1; omega
   ·exact absurd (Qdx g1 (by omega)) (hn (by omega))
  ·refine g3.trans ?_
   have hrt : r ≤ t := by
    by_cases e : r = (t : Int) + 1
    ·exact absurd (by have := hy (by omega); rw [e] at this; simpa using this) g1
    ·omega
   exact ih k' hrt (by omega) (by omega)
theorem Qd3 (l free : List S100) (a b c d e n : Int) (h4 : l.length ≤ 4) (len : Nat) (h13 : len ≤ 13) : ∀ (q k i : Nat) (O : List Int), i + q = len → O.length = len → (∀ j : Nat, j < i → rd O (j : Int) = -1) → q < k →
  ∃ k' O', k ≤ k' + q + 1 ∧ O' = List.replicate len (-1) ∧ Qao.l0 k l n free O (i : Int) a b c d e = Qao.l1 k' l n free O' (List.replicate l.length 0) true a b c d e := by
 intro q
 induction q with
 | zero =>
  intro k i O hi hO hall hk; obtain ⟨k, rfl⟩ : ∃ z, k = z + 1 := ⟨k - 1, by omega⟩
  refine ⟨k, O, by omega, ?_, ?_⟩
  ·refine List.ext_getElem (by simpa using hO) fun j h1 h2 => ?_
   have := hall j (by omega); rw [YT h1] at this; rw [this]; simp
  ·simp only [Qao.l0]
   rw [if_neg (by omega), if_pos (by omega), if_pos (by omega), Int.toNat_natCast]
 | succ q ih =>
  intro k i O hi hO hall hk; obtain ⟨k, rfl⟩ : ∃ z, k = z + 1 := ⟨k - 1, by omega⟩
  obtain ⟨k', O', g1, g2, g3⟩ := ih k (i + 1) (O.set i (-1)) (by omega) (by simpa using hO) (fun j hj => by
   rw [Qdn (by omega)]
   split
   ·rfl
   ·exact hall j (by omega)) (by omega)
  refine ⟨k', O', by omega, g2, ?_⟩; simp only [Qao.l0]; rw [if_pos (by omega), if_pos (by omega), w64 (by omega), Int.toNat_natCast]; exact g3
theorem Qdz {l : List S100} {a b c d e : Int} (hl : chk l = 0) (hc : okC a b c d e = true) {n : Nat} (h1 : n < l.length) {r : Int} (hr : 0 ≤ r ∧ r ≤ 501) (hy : 0 < r → Qbh l b d e n (r - 1) = true) (hn : r < 501 → Qbh l b d e n r = false) {k : Nat} (hk : 50000 < k) :
  Qao.f k l a b c d e n = some (r - 1) := by
 obtain ⟨l1, l4, ok⟩ := chk0 hl; have h3 := Qbj (ok l[n] (List.getElem_mem h1)); rw [← Qa2 h1] at h3; have hO := oth_ok hl h1 b d e; have hlp := Qco hl (n := (n : Int)) (p := 0) (by omega) (by omega) (by omega); obtain ⟨_, p4, pok⟩ := chk0 hlp; have hpl : (pr l n 0).length = l.length := by unfold pr; simp
 have hp : 13 ^ l.length ≤ 13 ^ 4 := Nat.pow_le_pow_right (by omega) l4; have e4 : 13 ^ 4 = 28561 := by decide
 unfold Qao.f; simp only [Option.bind_some, List.length_nil, List.nil_append]; rw [if_pos (by omega), if_pos (by omega), if_pos (by omega), if_pos (by omega), w64 (x := (Qf l (n : Int)).f3 + 1) (by omega), if_pos (by omega), if_pos (by omega)]; have ef : l.set ((n : Int)).toNat (⟨(⟨(Qf l n).f0.f0, (Qf l n).f0.f1⟩ : S24), 0, (Qf l n).f2, (Qf l n).f3⟩ : S100) = pr l n 0 := rfl; rw [ef]; obtain ⟨k', O', g1, g2, g3⟩ := Qd3 l (pr l n 0) a b c d e n l4 ((Qf l (n : Int)).f3 + 1).toNat (by omega) _ k 0 (List.replicate ((Qf l (n : Int)).f3 + 1).toNat 0) (Nat.zero_add _) (by simp) (fun j hj => by omega) (by omega); refine g3.trans ?_; subst g2
 have hblk := Qdh l4 ok (fun k O m more => Qao.l1 k l n (pr l n 0) O m more a b c d e) (dup l n b d e) (fun O => O.length = ((Qf l (n : Int)).f3 + 1).toNat) (fun O m hI _ _ => by rw [Qb9]; exact hI)
  (fun k O m hk hI hP hml => by
   have hf := hP.fit hml; have hr := Qbr hf h1; have hM := hP.mx; have hMp : Mx (pr l n 0) m := Qdl p4 pok (by rw [Qbv h1]; exact hf); show Qao.l1 (k + 1) l n (pr l n 0) O m true a b c d e = _; simp only [Qao.l1]; rw [if_pos trivial, if_pos (by omega), if_pos (by omega), Qc9 hMp (by omega) (by omega), Qee hM hml hc (by omega)]; simp only [Option.bind_some]; unfold dup; by_cases c1 : lo l b d m ≥ 0
   ·rw [if_pos c1, Qc6 hM hml (by omega)]
    simp only [Option.bind_some]; by_cases c2 : tot Qa1 l m ≤ e
    ·rw [if_pos c2, if_pos (by omega), if_pos (by omega)]
     by_cases c3 : rd O (rd m (n : Int)) < 0
     ·rw [if_pos c3, if_pos ⟨c1, c2, .inl c3⟩]
     ·rw [if_neg c3]
      by_cases c4 : tot Qav (pr l n 0) m < rd O (rd m (n : Int))
      ·rw [if_pos c4, if_pos ⟨c1, c2, .inr c4⟩]
      ·rw [if_neg c4, if_neg (fun h => by rcases h.2.2 with g | g; exact c3 g; exact c4 g)]
    ·rw [if_neg c2, if_neg (fun h => c2 h.2.1)]
   ·rw [if_neg c1, if_neg (fun h => c1 h.1)])
  l.length [] (List.replicate ((Qf l (n : Int)).f3 + 1).toNat (-1)) k' (by simp) ⟨⟨ok, by simp, l4, by simp⟩, fun i hi => by simp at hi⟩ (by simp) (by omega)
 obtain ⟨k2, b1, b2, b3⟩ := hblk; refine b2.trans ?_; rw [show [] ++ mxs l ([] : List Int).length = mxs l 0 from rfl, Qdy l l4 ok (by omega)]; simp only [Option.bind_some]; obtain ⟨k2, rfl⟩ : ∃ z, k2 = z + 1 := ⟨k2 - 1, by omega⟩
 simp only [Qao.l1]; rw [if_neg (by simp)]; have hlen := hO.len; exact Qd0 (oth l n b d e) (by omega) (by omega) hO.bd hr (fun h => (Qcd hl h1 hO).1 (hy h)) (fun h g => by rw [(Qcd hl h1 hO).2 g] at hn; exact absurd (hn h) (by simp)) 501 k2 (by omega) (by omega) (by omega)
end Go.Proofs.YtjaapkkpmegkfaaGreat.P
