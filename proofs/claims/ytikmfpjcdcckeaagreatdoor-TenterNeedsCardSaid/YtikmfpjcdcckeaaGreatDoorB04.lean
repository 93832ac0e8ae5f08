/- Part 4 of what the law's proof needs: words, walks of functions and plain facts. -/
import Derived.Shelf.SlicesQ.Load
import Derived.Shelf.Abstract
import Derived.Lib.Hide
import Derived.Lib.BufferMore
import Derived.Lib.LazyBuf
import Derived.Lib.SliceRun
import Derived.Test.YtikmfpjcdcckeaaGreatDoorB01
import Derived.Test.YtikmfpjcdcckeaaGreatDoorB02
import Derived.Test.YtikmfpjcdcckeaaGreatDoorB03
set_option linter.unusedVariables false
set_option linter.unusedSimpArgs false
namespace Go.Proofs.YtikmfpjcdcckeaaGreatDoor.P
open Go.RowKit Go.Proofs.YtikmfpjcdcckeaaGreatDoorW.PrintWords Go.Proofs.YtikmfpjcdcckeaaGreatDoorW.PrintLast Go.Proofs.YtikmfpjcdcckeaaGreatDoorW.PrintMore
theorem anyO_pure {α : Type} (q : α → Option Bool) (p : α → Bool) (h : ∀ x, q x = some (p x)) : ∀ l, anyO q l = some (l.any p)
  | [] => rfl
  | x :: r => by
    unfold anyO
    rw [h x, anyO_pure q p h r]
    cases hp : p x <;> simp [hp]
theorem w64_of {n : Int} (h0 : -9223372036854775808 ≤ n) (h1 : n < 9223372036854775808) : wrap64 n = n := by unfold wrap64; omega
def isIn (a b n : Int) : Bool := decide (a ≤ n) && decide (n ≤ b)
theorem within1_eq (a b x : Int) : tenter_within_1.f x a b = some (!isIn a b x) := by
  unfold tenter_within_1.f isIn
  by_cases h : x < a
  · rw [if_pos h]; simp [show ¬ a ≤ x by omega]
  · rw [if_neg h]
    by_cases h2 : x ≤ b
    · simp [show a ≤ x by omega, h2]
    · simp [h2]; omega
theorem within_eq (a b : Int) (l : List Int) : tenter_within.f a b l = some (l.all (isIn a b)) := by
  unfold tenter_within.f any_at_tenter_within_1.f
  rw [anyO_pure _ (fun x => !isIn a b x) (fun x => within1_eq a b x)]
  simp [List.any_eq_not_all_not]
def spanOk (lo hi a b : Int) : Bool := isIn a b lo && isIn a b hi && decide (lo ≤ hi)
theorem isSpan_eq (lo hi a b : Int) : tenter_isSpan.f lo hi a b = some (spanOk lo hi a b) := by
  unfold tenter_isSpan.f spanOk
  rw [within_eq]
  simp only [Option.bind_some, List.all_cons, List.all_nil, Bool.and_true]
  cases isIn a b lo && isIn a b hi <;> simp
def clothOk (c : S43) : Bool := spanOk c.f0.f0 c.f0.f1 1 2000 && spanOk c.f1.f0 c.f1.f1 0 500
theorem Check1_eq (c : S43) : tenter_Check_1.f c.f0.f0 c.f0.f1 c.f1.f0 c.f1.f1 = some (!clothOk c) := by
  unfold tenter_Check_1.f clothOk
  rw [isSpan_eq, isSpan_eq]
  simp only [Option.bind_some]
  cases spanOk c.f0.f0 c.f0.f1 1 2000 <;> simp
def chk (l0 : List S43) (l1 : List Int) (g s : Int) : Int :=
  if (l0.length : Int) > 7 then 5 else if isIn 1 3 (l1.length : Int) = false then 4 else
  if (l0.all clothOk && l1.all (isIn 1 2000) && isIn 0 50 g && isIn 0 200 s) = true then 0 else 2
theorem tCheck_eq (l0 : List S43) (l1 : List Int) (g s : Int) : tenter_Check.f l0 l1 g s = some (chk l0 l1 g s) := by
  unfold tenter_Check.f chk
  by_cases h : (l0.length : Int) > 7
  · rw [if_pos h, if_pos h]
  rw [if_neg h, if_neg h, within_eq, within_eq, within_eq, within_eq]
  unfold any_at_tenter_Check_1.f
  rw [anyO_pure _ (fun x => !clothOk x) (fun x => Check1_eq x)]
  simp only [Option.bind_some, List.all_cons, List.all_nil, Bool.and_true]
  cases isIn 1 3 (l1.length : Int)
  · simp
  have ha : (l0.any fun x => !clothOk x) = !l0.all clothOk := by simp [List.any_eq_not_all_not]
  rw [ha]
  cases l0.all clothOk <;> cases l1.all (isIn 1 2000) <;> cases isIn 0 50 g <;> cases isIn 0 200 s <;> simp
theorem rIn_eq (a b n : Int) : walkmillref05_In.f n a b = some (isIn a b n) := by
  unfold walkmillref05_In.f isIn
  by_cases h : n ≥ a
  · rw [if_pos h]; simp [show a ≤ n from h]
  · rw [if_neg h]; simp [show ¬ a ≤ n from h]
theorem rSpan_eq (lo hi a b : Int) (ha : a ≤ b) : walkmillref05_Span.f lo hi a b = some (spanOk lo hi a b) := by
  unfold walkmillref05_Span.f spanOk
  rw [rIn_eq]
  simp only [Option.bind_some]
  unfold isIn
  by_cases h1 : a ≤ lo <;> by_cases h2 : lo ≤ hi <;> by_cases h3 : hi ≤ b <;> simp [h1, h2, h3] <;> omega
theorem rd43_at (l : List S43) (i : Nat) (h : i < l.length) : rd_T43 l (i : Int) = l[i] := by
  unfold rd_T43; simp [List.getD_eq_getElem?_getD, List.getElem?_eq_getElem h]
theorem rd_at (l : List Int) (i : Nat) (h : i < l.length) : rd l (i : Int) = l[i] := by
  unfold rd; simp [List.getD_eq_getElem?_getD, List.getElem?_eq_getElem h]
theorem rd36_at (l : List S36) (i : Nat) (h : i < l.length) : rd_T36 l (i : Int) = l[i] := by
  unfold rd_T36; simp [List.getD_eq_getElem?_getD, List.getElem?_eq_getElem h]
theorem nx (i : Nat) (h : i < 1000000) : wrap64 ((i : Int) + 1) = ((i + 1 : Nat) : Int) := by rw [w64_of (by omega) (by omega)]; simp
theorem rCheck_l1 (l0 : List S43) (l1 : List Int) (g s : Int) (hn : l1.length ≤ 1000) : ∀ d (i : Nat) k b, l1.length - i = d → i ≤ l1.length → d < k →
    walkmillref05_Check.l1 k b i l0 l1 g s = some (if (b && (l1.drop i).all (isIn 1 2000)) = true then 0 else 2)
  | 0, i, k, b, hd, hi, hk => by
    obtain ⟨k, rfl⟩ : ∃ m, k = m + 1 := ⟨k - 1, by omega⟩
    unfold walkmillref05_Check.l1
    rw [if_neg (by omega), List.drop_of_length_le (by omega)]
    cases b <;> simp
  | d + 1, i, k, b, hd, hi, hk => by
    obtain ⟨k, rfl⟩ : ∃ m, k = m + 1 := ⟨k - 1, by omega⟩
    unfold walkmillref05_Check.l1
    have hlt : i < l1.length := by omega
    rw [if_pos (by omega), if_pos (show (0 : Int) ≤ i by omega), rd_at l1 i hlt, rIn_eq, nx i (by omega), List.drop_eq_getElem_cons hlt]
    simp only [Option.bind_some, List.all_cons]
    rw [rCheck_l1 l0 l1 g s hn d (i + 1) k _ (by omega) (by omega) (by omega), rCheck_l1 l0 l1 g s hn d (i + 1) k _ (by omega) (by omega) (by omega)]
    cases b <;> simp
theorem rCheck_l0 (l0 : List S43) (l1 : List Int) (g s : Int) (hm : l0.length ≤ 1000) (hn : l1.length ≤ 1000) : ∀ d (i : Nat) k b, l0.length - i = d → i ≤ l0.length → d + l1.length + 1 < k →
    walkmillref05_Check.l0 k b i l0 l1 g s = some (if (b && (l0.drop i).all clothOk && l1.all (isIn 1 2000)) = true then 0 else 2)
  | 0, i, k, b, hd, hi, hk => by
    obtain ⟨k, rfl⟩ : ∃ m, k = m + 1 := ⟨k - 1, by omega⟩
    unfold walkmillref05_Check.l0
    rw [if_neg (by omega), List.drop_of_length_le (by omega)]
    have := rCheck_l1 l0 l1 g s hn l1.length 0 k b (by omega) (by omega) (by omega)
    simp only [Int.ofNat_zero, List.drop_zero] at this
    rw [show walkmillref05_Check.l1 k b 0 l0 l1 g s = _ from this]; simp
  | d + 1, i, k, b, hd, hi, hk => by
    obtain ⟨k, rfl⟩ : ∃ m, k = m + 1 := ⟨k - 1, by omega⟩
    unfold walkmillref05_Check.l0
    have hlt : i < l0.length := by omega
    rw [if_pos (by omega), if_pos (show (0 : Int) ≤ i by omega), rd43_at l0 i hlt, rSpan_eq _ _ _ _ (by omega), rSpan_eq _ _ _ _ (by omega), nx i (by omega), List.drop_eq_getElem_cons hlt]
    simp only [Option.bind_some]
    have ih := fun b => rCheck_l0 l0 l1 g s hm hn d (i + 1) k b (by omega) (by omega) (by omega)
    rw [ih, ih]
    have hc : clothOk l0[i] = (spanOk l0[i].f0.f0 l0[i].f0.f1 1 2000 && spanOk l0[i].f1.f0 l0[i].f1.f1 0 500) := rfl
    simp only [List.all_cons, hc]
    cases b <;> cases hs : spanOk l0[i].f0.f0 l0[i].f0.f1 1 2000 <;> simp
theorem rCheck_eq (k : Nat) (l0 : List S43) (l1 : List Int) (g s : Int) (hm : l0.length ≤ 1000) (hn : l1.length ≤ 1000) (hk : l0.length + l1.length + 2 < k) :
    walkmillref05_Check.f k l0 l1 g s = some (chk l0 l1 g s) := by
  unfold walkmillref05_Check.f chk
  by_cases h : (l0.length : Int) > 7
  · rw [if_pos h, if_pos h]
  rw [if_neg h, if_neg h, rIn_eq, rIn_eq, rIn_eq]
  simp only [Option.bind_some]
  obtain ⟨k, rfl⟩ : ∃ m, k = m + 1 := ⟨k - 1, by omega⟩
  have hl : ∀ b, walkmillref05_Check.j0 (k + 1) b l0 l1 g s = some (if (b && l0.all clothOk && l1.all (isIn 1 2000)) = true then 0 else 2) := fun b => by
    unfold walkmillref05_Check.j0
    have := rCheck_l0 l0 l1 g s hm hn l0.length 0 k b (by omega) (by omega) (by omega)
    simpa using this
  rw [hl, hl]
  cases isIn 1 3 (l1.length : Int)
  · simp
  cases l0.all clothOk <;> cases l1.all (isIn 1 2000) <;> cases isIn 0 50 g <;> cases isIn 0 200 s <;> simp
theorem rInts_l (l : List Int) (hn : l.length ≤ 1000) : ∀ d (i : Nat) k, l.length - i = d → i ≤ l.length → d < k → walkmillref05_Ints.l0 k l l i = some true
  | 0, i, k, hd, hi, hk => by
    obtain ⟨k, rfl⟩ : ∃ m, k = m + 1 := ⟨k - 1, by omega⟩
    unfold walkmillref05_Ints.l0
    rw [if_neg (by omega)]
  | d + 1, i, k, hd, hi, hk => by
    obtain ⟨k, rfl⟩ : ∃ m, k = m + 1 := ⟨k - 1, by omega⟩
    unfold walkmillref05_Ints.l0
    rw [if_pos (by omega), if_pos (by omega), if_pos (by omega), if_pos rfl, nx i (by omega)]
    exact rInts_l l hn d (i + 1) k (by omega) (by omega) (by omega)
theorem rInts_same (k : Nat) (l : List Int) (hn : l.length ≤ 1000) (hk : l.length < k) : walkmillref05_Ints.f k l l = some true := by
  unfold walkmillref05_Ints.f
  rw [if_pos rfl]
  exact rInts_l l hn l.length 0 k (by omega) (by omega) hk
theorem rSame_l (l0 : List S43) (l1 : List Int) (g s : Int) (hn : l0.length ≤ 1000) : ∀ d (i : Nat) k, l0.length - i = d → i ≤ l0.length → d < k → walkmillref05_Same.l0 k i l0 l1 g s l0 l1 g s = some true
  | 0, i, k, hd, hi, hk => by
    obtain ⟨k, rfl⟩ : ∃ m, k = m + 1 := ⟨k - 1, by omega⟩
    unfold walkmillref05_Same.l0
    rw [if_neg (by omega)]
  | d + 1, i, k, hd, hi, hk => by
    obtain ⟨k, rfl⟩ : ∃ m, k = m + 1 := ⟨k - 1, by omega⟩
    unfold walkmillref05_Same.l0
    rw [if_pos (by omega), if_pos (by omega), if_pos (by omega), if_neg (by simp), nx i (by omega)]
    exact rSame_l l0 l1 g s hn d (i + 1) k (by omega) (by omega) (by omega)
theorem rSame_eq (k : Nat) (l0 : List S43) (l1 : List Int) (g s : Int) (hm : l0.length ≤ 1000) (hn : l1.length ≤ 1000) (hk : l0.length + l1.length + 2 < k) : walkmillref05_Same.f k l0 l1 g s l0 l1 g s = some true := by
  unfold walkmillref05_Same.f
  rw [rInts_same k l1 hn (by omega)]
  simp only [Option.bind_some]
  simp only [if_true, show (s != s) = false by simp]
  obtain ⟨k, rfl⟩ : ∃ m, k = m + 1 := ⟨k - 1, by omega⟩
  show (if false = true then some false else walkmillref05_Same.l0 k 0 l0 l1 g s l0 l1 g s) = some true
  rw [if_neg (by simp)]
  exact rSame_l l0 l1 g s hm l0.length 0 k (by omega) (by omega) (by omega)
theorem rCopy_eq (l0 : List S43) (l1 : List Int) (g s : Int) (hm : l0.length ≤ 1000) (hn : l1.length ≤ 1000) : walkmillref05_Copy.f l0 l1 g s = some (l0, l1, g, s) := by
  unfold walkmillref05_Copy.f
  simp only [Option.bind_some, List.nil_append, List.length_nil, Nat.zero_add]
  rw [if_pos (by omega), if_pos (by omega)]
theorem isIn_iff {a b n : Int} : isIn a b n = true ↔ a ≤ n ∧ n ≤ b := by unfold isIn; simp
theorem chk_ok {l0 : List S43} {l1 : List Int} {g s : Int} (h : chk l0 l1 g s = 0) : l0.length ≤ 7 ∧ 1 ≤ l1.length ∧ l1.length ≤ 3 ∧ (∀ c ∈ l0, clothOk c = true) ∧ (∀ x ∈ l1, 1 ≤ x ∧ x ≤ 2000) ∧ 0 ≤ g ∧ g ≤ 50 ∧ 0 ≤ s ∧ s ≤ 200 := by
  unfold chk at h
  split at h
  · cases h
  split at h
  · cases h
  split at h
  · rename_i h1 h2 h3
    simp only [Bool.and_eq_true, List.all_eq_true] at h3
    obtain ⟨⟨⟨h4, h5⟩, h6⟩, h7⟩ := h3
    have h8 : isIn 1 3 (l1.length : Int) = true := by simpa using h2
    have := isIn_iff.1 h8; have := isIn_iff.1 h6; have := isIn_iff.1 h7
    exact ⟨by omega, by omega, by omega, h4, fun x hx => isIn_iff.1 (h5 x hx), by omega, by omega, by omega, by omega⟩
  · cases h
theorem newForecast1_eq (x : S36) : tenter_newForecast_1.f x.f0 x.f1 = some (!spanOk x.f0 x.f1 0 100) := by
  unfold tenter_newForecast_1.f
  rw [isSpan_eq]; rfl
def wx (l0 : List S43) (l1 : List Int) (g s : Int) (w : List S36) (h : Int) : Int :=
  if chk l0 l1 g s = 0 then if isIn 1 24 (w.length : Int) = true then if (w.all (fun x => spanOk x.f0 x.f1 0 100) && isIn 0 (w.length : Int) h) = true then 0 else 3 else 8 else chk l0 l1 g s
theorem newForecast_eq (l0 : List S43) (l1 : List Int) (g s : Int) (w : List S36) (h : Int) : tenter_newForecast.f l0 l1 g s w h = some (l0, l1, g, s, w, wx l0 l1 g s w h) := by
  unfold tenter_newForecast.f wx
  rw [tCheck_eq]
  simp only [Option.bind_some]
  by_cases hc : chk l0 l1 g s = 0
  · rw [if_pos hc, if_pos hc, within_eq]
    simp only [Option.bind_some, List.all_cons, List.all_nil, Bool.and_true]
    by_cases h1 : isIn 1 24 (w.length : Int) = true
    · rw [if_pos h1, if_pos h1]
      unfold any_at_tenter_newForecast_1.f
      rw [anyO_pure _ (fun x : S36 => !spanOk x.f0 x.f1 0 100) newForecast1_eq, within_eq]
      simp only [Option.bind_some, List.all_cons, List.all_nil, Bool.and_true]
      have ha : (w.any fun x => !spanOk x.f0 x.f1 0 100) = !w.all (fun x => spanOk x.f0 x.f1 0 100) := by simp [List.any_eq_not_all_not]
      rw [ha]
      cases w.all (fun x => spanOk x.f0 x.f1 0 100) <;> cases isIn 0 (w.length : Int) h <;> rfl
    · rw [if_neg h1, if_neg h1]
  · rw [if_neg hc, if_neg hc]
theorem rWeather_l (w : List S36) (h : Int) (hw : w.length ≤ 1000) : ∀ (d i k : Nat), i + d = w.length → d < k →
    walkmillref05_Weather.l0 k w h i = some (if ((w.drop i).all (fun x => spanOk x.f0 x.f1 0 100) && isIn 0 (w.length : Int) h) = true then 0 else 3)
  | 0, i, k, hd, hk => by
    obtain ⟨k, rfl⟩ : ∃ m, k = m + 1 := ⟨k - 1, by omega⟩
    rw [walkmillref05_Weather.l0, if_neg (by omega), rIn_eq, List.drop_of_length_le (by omega)]
    simp only [Option.bind_some, List.all_nil, Bool.true_and]
    cases isIn 0 (w.length : Int) h <;> rfl
  | d + 1, i, k, hd, hk => by
    obtain ⟨k, rfl⟩ : ∃ m, k = m + 1 := ⟨k - 1, by omega⟩
    have hlt : i < w.length := by omega
    rw [walkmillref05_Weather.l0, if_pos (by omega), if_pos (show (0 : Int) ≤ i by omega), rd36_at w i hlt, rSpan_eq _ _ _ _ (by omega), nx i (by omega), List.drop_eq_getElem_cons hlt]
    simp only [Option.bind_some]
    have ih := rWeather_l w h hw d (i + 1) k (by omega) (by omega)
    by_cases hs : spanOk w[i].f0 w[i].f1 0 100 = true
    · have e : (w[i] :: w.drop (i + 1)).all (fun x => spanOk x.f0 x.f1 0 100) = (w.drop (i + 1)).all (fun x => spanOk x.f0 x.f1 0 100) := by rw [List.all_cons, hs, Bool.true_and]
      rw [if_pos hs, ih]
      by_cases hh : ((w.drop (i + 1)).all (fun x => spanOk x.f0 x.f1 0 100) && isIn 0 (w.length : Int) h) = true
      · rw [if_pos hh, if_pos (by rw [e]; exact hh)]
      · rw [if_neg hh, if_neg (by rw [e]; exact hh)]
    · rw [if_neg hs, if_neg (by rw [List.all_cons, show spanOk w[i].f0 w[i].f1 0 100 = false by simpa using hs]; simp)]
theorem rWeather_eq (k : Nat) (l0 : List S43) (l1 : List Int) (g s : Int) (w : List S36) (h : Int) (hm : l0.length ≤ 1000) (hn : l1.length ≤ 1000) (hw : w.length ≤ 1000) (hk : l0.length + l1.length + w.length + 2 < k) :
    walkmillref05_Weather.f k l0 l1 g s w h = some (wx l0 l1 g s w h) := by
  unfold walkmillref05_Weather.f wx
  rw [rCheck_eq k l0 l1 g s hm hn (by omega)]
  simp only [Option.bind_some]
  by_cases hc : chk l0 l1 g s = 0
  · rw [if_pos hc, if_pos hc, rIn_eq]
    simp only [Option.bind_some]
    by_cases h1 : isIn 1 24 (w.length : Int) = true
    · rw [if_pos h1, if_pos h1]
      have := rWeather_l w h hw w.length 0 k (by omega) (by omega)
      rw [show ((0 : Nat) : Int) = 0 from rfl, List.drop_zero] at this
      exact this
    · rw [if_neg h1, if_neg h1]
  · rw [if_neg hc, if_neg hc]
def dr (e : S36 → Int) : List S36 → Int → Int → Int
  | [], x, p => if x ≤ 0 then p else p + 1
  | y :: r, x, p => if x ≤ 0 then p else dr e r (x - e y) (p + 1)
theorem wx_ok {l0 : List S43} {l1 : List Int} {g s : Int} {w : List S36} {h : Int} (hh : wx l0 l1 g s w h = 0) : chk l0 l1 g s = 0 ∧ 1 ≤ w.length ∧ w.length ≤ 24 ∧ (∀ x ∈ w, 0 ≤ x.f0 ∧ x.f0 ≤ x.f1 ∧ x.f1 ≤ 100) ∧ 0 ≤ h ∧ h ≤ (w.length : Int) := by
  unfold wx at hh
  split at hh
  · split at hh
    · split at hh
      · rename_i h1 h2 h3
        simp only [Bool.and_eq_true, List.all_eq_true, isIn_iff] at h3 h2
        refine ⟨h1, by omega, by omega, fun x hx => ?_, h3.2.1, h3.2.2⟩
        have := h3.1 x hx
        unfold spanOk at this
        simp only [Bool.and_eq_true, isIn_iff, decide_eq_true_eq] at this
        omega
      · cases hh
    · cases hh
  · exact absurd hh (by assumption)
theorem cloth_water {c : S43} (h : clothOk c = true) : 0 ≤ c.f1.f0 ∧ c.f1.f0 ≤ c.f1.f1 ∧ c.f1.f1 ≤ 500 := by
  unfold clothOk spanOk at h
  simp only [Bool.and_eq_true, isIn_iff, decide_eq_true_eq] at h
  omega
theorem rDried_l (w : List S36) (b : Bool) (hw : w.length ≤ 1000) (hb : ∀ x ∈ w, 0 ≤ x.f0 ∧ x.f0 ≤ 100 ∧ 0 ≤ x.f1 ∧ x.f1 ≤ 100) : ∀ (d i k : Nat) (x : Int), i + d = w.length → d + 1 < k → -100 ≤ x → x ≤ 500 →
    walkmillref05_Dried.l0 k w x b i = some (dr (if b = true then S36.f1 else S36.f0) (w.drop i) x i)
  | 0, i, k, x, hd, hk, hx, hx2 => by
    obtain ⟨k, rfl⟩ : ∃ m, k = m + 2 := ⟨k - 2, by omega⟩
    rw [show k + 2 = (k + 1) + 1 by omega, walkmillref05_Dried.l0, if_pos (by omega), List.drop_of_length_le (by omega), dr]
    by_cases h : x ≤ 0
    · rw [if_pos h, if_pos h]
    · rw [if_neg h, if_neg h, if_neg (by omega), nx i (by omega), walkmillref05_Dried.l0, if_neg (by omega), w64_of (by omega) (by omega)]
      congr 1; omega
  | d + 1, i, k, x, hd, hk, hx, hx2 => by
    obtain ⟨k, rfl⟩ : ∃ m, k = m + 1 := ⟨k - 1, by omega⟩
    have hlt : i < w.length := by omega
    have hbi := hb w[i] (List.getElem_mem _)
    rw [walkmillref05_Dried.l0, if_pos (by omega), List.drop_eq_getElem_cons hlt, dr]
    by_cases h : x ≤ 0
    · rw [if_pos h, if_pos h]
    · rw [if_neg h, if_neg h, if_pos (by omega), if_pos (show (0 : Int) ≤ i by omega), if_pos (show (0 : Int) ≤ i by omega), rd36_at w i hlt, nx i (by omega), w64_of (n := x - w[i].f1) (by omega) (by omega), w64_of (n := x - w[i].f0) (by omega) (by omega)]
      cases b with
      | true => rw [if_pos rfl, rDried_l w true hw hb d (i + 1) k _ (by omega) (by omega) (by omega) (by omega)]; simp
      | false => rw [if_neg (by simp), rDried_l w false hw hb d (i + 1) k _ (by omega) (by omega) (by omega) (by omega)]; simp
theorem tDriedH_l (l0 : List S43) (l1 : List Int) (g s p : Int) (w y : List S36) (hy : y.length ≤ 1000) (hp : 0 ≤ p) (hpw : p + (y.length : Int) = (w.length : Int)) (hw : w.length ≤ 1000) (hb : ∀ x ∈ y, 0 ≤ x.f0 ∧ x.f0 ≤ 100 ∧ 0 ≤ x.f1 ∧ x.f1 ≤ 100) : ∀ (d i k : Nat) (x : Int), i + d = y.length → d < k → -100 ≤ x → x ≤ 500 →
    tenter_forecast_dried_at_tenter_high.l0 k p x y (y.length : Int) i l0 l1 g s w = some (dr S36.f1 (y.drop i) x (p + i))
  | 0, i, k, x, hd, hk, hx, hx2 => by
    obtain ⟨k, rfl⟩ : ∃ m, k = m + 1 := ⟨k - 1, by omega⟩
    rw [tenter_forecast_dried_at_tenter_high.l0, if_neg (by omega), List.drop_of_length_le (by omega), dr]
    have e : p + (i : Int) = (w.length : Int) := by omega
    rw [e, w64_of (by omega) (by omega)]
    split <;> rfl
  | d + 1, i, k, x, hd, hk, hx, hx2 => by
    obtain ⟨k, rfl⟩ : ∃ m, k = m + 1 := ⟨k - 1, by omega⟩
    have hlt : i < y.length := by omega
    have hbi := hb y[i] (List.getElem_mem _)
    rw [tenter_forecast_dried_at_tenter_high.l0, if_pos (by omega), if_pos (show (0 : Int) ≤ i by omega), if_pos (by omega), List.drop_eq_getElem_cons hlt, dr]
    by_cases h : x ≤ 0
    · rw [if_pos h, if_pos h, w64_of (by omega) (by omega)]
    · rw [if_neg h, if_neg h]
      unfold tenter_high.f
      simp only [Option.bind_some]
      rw [rd36_at y i hlt, nx i (by omega), w64_of (n := x - y[i].f1) (by omega) (by omega), tDriedH_l l0 l1 g s p w y hy hp hpw hw hb d (i + 1) k _ (by omega) (by omega) (by omega) (by omega)]
      congr 2; omega
theorem tDriedL_l (l0 : List S43) (l1 : List Int) (g s p : Int) (w y : List S36) (hy : y.length ≤ 1000) (hp : 0 ≤ p) (hpw : p + (y.length : Int) = (w.length : Int)) (hw : w.length ≤ 1000) (hb : ∀ x ∈ y, 0 ≤ x.f0 ∧ x.f0 ≤ 100 ∧ 0 ≤ x.f1 ∧ x.f1 ≤ 100) : ∀ (d i k : Nat) (x : Int), i + d = y.length → d < k → -100 ≤ x → x ≤ 500 →
    tenter_forecast_dried_at_tenter_low.l0 k p x y (y.length : Int) i l0 l1 g s w = some (dr S36.f0 (y.drop i) x (p + i))
  | 0, i, k, x, hd, hk, hx, hx2 => by
    obtain ⟨k, rfl⟩ : ∃ m, k = m + 1 := ⟨k - 1, by omega⟩
    rw [tenter_forecast_dried_at_tenter_low.l0, if_neg (by omega), List.drop_of_length_le (by omega), dr]
    have e : p + (i : Int) = (w.length : Int) := by omega
    rw [e, w64_of (by omega) (by omega)]
    split <;> rfl
  | d + 1, i, k, x, hd, hk, hx, hx2 => by
    obtain ⟨k, rfl⟩ : ∃ m, k = m + 1 := ⟨k - 1, by omega⟩
    have hlt : i < y.length := by omega
    have hbi := hb y[i] (List.getElem_mem _)
    rw [tenter_forecast_dried_at_tenter_low.l0, if_pos (by omega), if_pos (show (0 : Int) ≤ i by omega), if_pos (by omega), List.drop_eq_getElem_cons hlt, dr]
    by_cases h : x ≤ 0
    · rw [if_pos h, if_pos h, w64_of (by omega) (by omega)]
    · rw [if_neg h, if_neg h]
      unfold tenter_low.f
      simp only [Option.bind_some]
      rw [rd36_at y i hlt, nx i (by omega), w64_of (n := x - y[i].f0) (by omega) (by omega), tDriedL_l l0 l1 g s p w y hy hp hpw hw hb d (i + 1) k _ (by omega) (by omega) (by omega) (by omega)]
      congr 2; omega
def dryOf (w : List S36) (p : Int) (c : S43) : S36 := ⟨dr S36.f1 (w.drop p.toNat) c.f1.f0 p, dr S36.f0 (w.drop p.toNat) c.f1.f1 p⟩
theorem tDry_at (k : Nat) (l0 : List S43) (l1 : List Int) (g s p : Int) (w : List S36) {h0 : Int} (hh : wx l0 l1 g s w h0 = 0) (hp : 0 ≤ p) (hpw : p ≤ (w.length : Int)) (i : Nat) (hi : i < l0.length) (hk : 30 < k) :
    tenter_forecast_dry.f k l0 l1 g s w i p = some ((dryOf w p l0[i]).f0, (dryOf w p l0[i]).f1) := by
  obtain ⟨hc, h1, h2, h3, h4, h5⟩ := wx_ok hh
  have hw := cloth_water ((chk_ok hc).2.2.2.1 l0[i] (List.getElem_mem _))
  have hb : ∀ x ∈ w.drop p.toNat, 0 ≤ x.f0 ∧ x.f0 ≤ 100 ∧ 0 ≤ x.f1 ∧ x.f1 ≤ 100 := fun x hx => by have := h3 x (List.mem_of_mem_drop hx); omega
  have hl : (w.drop p.toNat).length = w.length - p.toNat := by simp
  have hpl : p + ((w.drop p.toNat).length : Int) = (w.length : Int) := by rw [hl]; omega
  unfold tenter_forecast_dry.f tenter_forecast_dried_at_tenter_high.f tenter_forecast_dried_at_tenter_low.f
  rw [if_pos (by omega), if_pos (by omega), rd43_at l0 i hi, if_pos hp, if_pos hpw, if_pos hp, if_pos hpw]
  have eh := tDriedH_l l0 l1 g s p w (w.drop p.toNat) (by omega) hp hpl (by omega) hb _ 0 k l0[i].f1.f0 (Nat.zero_add _) (by omega) (by omega) (by omega)
  have el := tDriedL_l l0 l1 g s p w (w.drop p.toNat) (by omega) hp hpl (by omega) hb _ 0 k l0[i].f1.f1 (Nat.zero_add _) (by omega) (by omega) (by omega)
  rw [show ((0 : Nat) : Int) = 0 from rfl, List.drop_zero, Int.add_zero] at eh el
  simp only [Option.bind_some]
  rw [eh, el]; rfl
theorem rDry_at (k : Nat) (l0 : List S43) (l1 : List Int) (g s p : Int) (w : List S36) {h0 : Int} (hh : wx l0 l1 g s w h0 = 0) (hp : 0 ≤ p) (hpw : p ≤ (w.length : Int)) (i : Nat) (hi : i < l0.length) (hk : 30 < k) :
    walkmillref05_Dry.f k l0 l1 g s w i p = some ((dryOf w p l0[i]).f0, (dryOf w p l0[i]).f1) := by
  obtain ⟨hc, h1, h2, h3, h4, h5⟩ := wx_ok hh
  have hw := cloth_water ((chk_ok hc).2.2.2.1 l0[i] (List.getElem_mem _))
  have hb : ∀ x ∈ w, 0 ≤ x.f0 ∧ x.f0 ≤ 100 ∧ 0 ≤ x.f1 ∧ x.f1 ≤ 100 := fun x hx => by have := h3 x hx; omega
  obtain ⟨j, rfl⟩ : ∃ j : Nat, p = j := ⟨p.toNat, by omega⟩
  unfold walkmillref05_Dry.f walkmillref05_Dried.f
  rw [if_pos (by omega), if_pos (by omega), rd43_at l0 i hi, rDried_l w true (by omega) hb (w.length - j) j k _ (by omega) (by omega) (by omega) (by omega), rDried_l w false (by omega) hb (w.length - j) j k _ (by omega) (by omega) (by omega) (by omega)]
  simp [dryOf]
theorem rSpans_l (l : List S36) (hn : l.length ≤ 1000) : ∀ d (i : Nat) k, i + d = l.length → d < k → walkmillref05_Spans.l0 k l l i = some true
  | 0, i, k, hd, hk => by
    obtain ⟨k, rfl⟩ : ∃ m, k = m + 1 := ⟨k - 1, by omega⟩
    rw [walkmillref05_Spans.l0, if_neg (by omega)]
  | d + 1, i, k, hd, hk => by
    obtain ⟨k, rfl⟩ : ∃ m, k = m + 1 := ⟨k - 1, by omega⟩
    rw [walkmillref05_Spans.l0, if_pos (by omega), if_pos (by omega), if_pos (by omega), if_neg (by simp), nx i (by omega)]
    exact rSpans_l l hn d (i + 1) k (by omega) (by omega)
theorem rSpans_same (k : Nat) (l : List S36) (hn : l.length ≤ 1000) (hk : l.length < k) : walkmillref05_Spans.f k l l = some true := by
  unfold walkmillref05_Spans.f
  rw [if_pos rfl]
  exact rSpans_l l hn l.length 0 k (by omega) hk
def lateO (w : List S36) : Nat → Int → Int
  | 0, x => if x > 0 then -1 else 0
  | h + 1, x => if x ≤ 0 then ((h + 1 : Nat) : Int) else lateO w h (x - (w.getD h z36).f0)
theorem tLate_l (l0 : List S43) (l1 : List Int) (g s : Int) (w : List S36) (hw : w.length ≤ 1000) (hb : ∀ x ∈ w, 0 ≤ x.f0 ∧ x.f0 ≤ 100) : ∀ (h k : Nat) (x : Int), h ≤ w.length → 2 * h + 2 < k → -100 ≤ x → x ≤ 500 →
    tenter_forecast_late.l0 k x h l0 l1 g s w = some (lateO w h x)
  | 0, k, x, hh, hk, hx, hx2 => by
    obtain ⟨k, rfl⟩ : ∃ m, k = m + 2 := ⟨k - 2, by omega⟩
    rw [show k + 2 = (k + 1) + 1 by omega, tenter_forecast_late.l0]
    have e : ∀ b, b = true → tenter_forecast_late.j1 (k + 1) x ((0 : Nat) : Int) b l0 l1 g s w = some (lateO w 0 x) := fun b hb => by
      rw [tenter_forecast_late.j1, if_pos hb, lateO]
      split <;> rfl
    split
    · exact e _ rfl
    · exact e _ (by simp)
  | h + 1, k, x, hh, hk, hx, hx2 => by
    obtain ⟨k, rfl⟩ : ∃ m, k = m + 2 := ⟨k - 2, by omega⟩
    have hbi := hb w[h] (List.getElem_mem _)
    rw [show k + 2 = (k + 1) + 1 by omega, tenter_forecast_late.l0, lateO]
    by_cases h1 : x ≤ 0
    · rw [if_pos h1, if_pos h1, tenter_forecast_late.j1, if_pos rfl, if_neg (by omega)]
    · have e : wrap64 (((h + 1 : Nat) : Int) - 1) = (h : Int) := by rw [w64_of (by omega) (by omega)]; omega
      have eg : w.getD h z36 = w[h] := by simp [List.getD_eq_getElem?_getD, List.getElem?_eq_getElem (show h < w.length by omega)]
      rw [if_neg h1, if_neg h1, show (((h + 1 : Nat) : Int) == 0) = false by simp; omega, tenter_forecast_late.j1, if_neg (by simp), e, if_pos (by omega), if_pos (by omega), rd36_at w h (by omega), w64_of (n := x - _) (by omega) (by omega), eg]
      exact tLate_l l0 l1 g s w hw hb h k _ (by omega) (by omega) (by omega) (by omega)
def sumE (e : S36 → Int) : List S36 → Int
  | [] => 0
  | y :: r => e y + sumE e r
theorem sumE_nn (e : S36 → Int) : ∀ l : List S36, (∀ y ∈ l, 0 ≤ e y) → 0 ≤ sumE e l
  | [], _ => by simp [sumE]
  | y :: r, h => by
    have := h y (by simp); have := sumE_nn e r (fun z hz => h z (by simp [hz]))
    unfold sumE; omega
theorem dr_ge (e : S36 → Int) : ∀ (r : List S36) (x p : Int), p ≤ dr e r x p
  | [], x, p => by unfold dr; split <;> omega
  | y :: r, x, p => by
    unfold dr; split
    · omega
    · have := dr_ge e r (x - e y) (p + 1); omega
theorem dr_le (e : S36 → Int) : ∀ (r : List S36) (n : Nat) (x p : Int), n ≤ r.length → (∀ y ∈ r, 0 ≤ e y) → (dr e r x p ≤ p + n ↔ x ≤ sumE e (r.take n))
  | [], n, x, p, hn, _ => by
    obtain rfl : n = 0 := by simpa using hn
    unfold dr; simp only [List.take_nil, sumE]
    split <;> simp <;> omega
  | y :: r, 0, x, p, hn, he => by
    unfold dr; simp only [List.take_zero, sumE]
    have := dr_ge e r (x - e y) (p + 1)
    split <;> simp <;> omega
  | y :: r, n + 1, x, p, hn, he => by
    have hy := he y (by simp)
    have hr := sumE_nn e (r.take n) (fun z hz => he z (by simp [List.mem_of_mem_take hz]))
    unfold dr; simp only [List.take_succ_cons, sumE]
    split
    · simp; omega
    · have ih := dr_le e r n (x - e y) (p + 1) (by simpa using hn) (fun z hz => he z (by simp [hz]))
      rw [show p + ((n + 1 : Nat) : Int) = p + 1 + (n : Int) by omega, ih]
      omega
theorem rLate_l (l0 : List S43) (l1 : List Int) (g s : Int) (w : List S36) {h0 : Int} (hh : wx l0 l1 g s w h0 = 0) (i : Nat) (hi : i < l0.length) (rain : Nat) (hr : rain ≤ w.length) : ∀ (h k : Nat), h ≤ rain → h + 40 < k →
    walkmillref05_Late.l0 k w i rain h l0 l1 g s = some (lateO w h (l0[i].f1.f1 - sumE S36.f0 ((w.drop h).take (rain - h)))) := by
  obtain ⟨hc, h1, h2, h3, h4, h5⟩ := wx_ok hh
  have hb : ∀ x ∈ w, 0 ≤ x.f0 := fun x hx => (h3 x hx).1
  have key : ∀ h : Nat, h ≤ rain → ((dryOf w (h : Int) l0[i]).f1 ≤ (rain : Int) ↔ l0[i].f1.f1 - sumE S36.f0 ((w.drop h).take (rain - h)) ≤ 0) := fun h hle => by
    have := dr_le S36.f0 (w.drop h) (rain - h) l0[i].f1.f1 h (by simp; omega) (fun y hy => hb y (List.mem_of_mem_drop hy))
    rw [show (h : Int) + ((rain - h : Nat) : Int) = (rain : Int) by omega] at this
    unfold dryOf
    simp only [Int.toNat_natCast]
    rw [this]; omega
  intro h
  induction h with
  | zero =>
    intro k hle hk
    obtain ⟨k, rfl⟩ : ∃ m, k = m + 2 := ⟨k - 2, by omega⟩
    rw [show k + 2 = (k + 1) + 1 by omega, walkmillref05_Late.l0, if_pos (by omega), rDry_at (k + 1) l0 l1 g s ((0 : Nat) : Int) w hh (by omega) (by omega) i hi (by omega)]
    simp only [Option.bind_some, lateO]
    by_cases hx : (dryOf w ((0 : Nat) : Int) l0[i]).f1 ≤ (rain : Int)
    · rw [if_pos hx, if_neg (by have := (key 0 hle).1 hx; omega)]; rfl
    · rw [if_neg hx, if_pos (by have := mt (key 0 hle).2 hx; omega), show wrap64 (((0 : Nat) : Int) - 1) = -1 by rw [w64_of (by omega) (by omega)]; rfl, walkmillref05_Late.l0, if_neg (by omega)]
  | succ h ih =>
    intro k hle hk
    obtain ⟨k, rfl⟩ : ∃ m, k = m + 1 := ⟨k - 1, by omega⟩
    rw [walkmillref05_Late.l0, if_pos (by omega), rDry_at k l0 l1 g s ((h + 1 : Nat) : Int) w hh (by omega) (by omega) i hi (by omega)]
    simp only [Option.bind_some, lateO]
    by_cases hx : (dryOf w ((h + 1 : Nat) : Int) l0[i]).f1 ≤ (rain : Int)
    · rw [if_pos hx, if_pos ((key (h + 1) hle).1 hx)]
    · rw [if_neg hx, if_neg (mt (key (h + 1) hle).2 hx), show wrap64 (((h + 1 : Nat) : Int) - 1) = (h : Int) by rw [w64_of (by omega) (by omega)]; omega, ih k (by omega) (by omega)]
      have hlt : h < w.length := by omega
      have eg : w.getD h z36 = w[h] := by simp [List.getD_eq_getElem?_getD, List.getElem?_eq_getElem hlt]
      rw [List.drop_eq_getElem_cons hlt, show rain - h = (rain - (h + 1)) + 1 by omega, List.take_succ_cons, sumE, eg]
      congr 2; omega
def lateA (l0 : List S43) (w : List S36) (i rain : Int) : Int := lateO w rain.toNat (rd_T43 l0 i).f1.f1
theorem rLate_eq (k : Nat) (l0 : List S43) (l1 : List Int) (g s : Int) (w : List S36) (i rain : Int) (hh : wx l0 l1 g s w rain = 0) (hi : isIn 0 ((l0.length : Int) - 1) i = true) (hk : 100 < k) :
    walkmillref05_Late.f k l0 l1 g s w i rain = some (lateA l0 w i rain) := by
  have hi' := isIn_iff.1 hi
  obtain ⟨hc, h1, h2, h3, h4, h5⟩ := wx_ok hh
  obtain ⟨r, rfl⟩ : ∃ r : Nat, rain = r := ⟨rain.toNat, by omega⟩
  obtain ⟨j, rfl⟩ : ∃ j : Nat, i = j := ⟨i.toNat, by omega⟩
  unfold walkmillref05_Late.f lateA
  rw [rLate_l l0 l1 g s w hh j (by omega) r (by omega) r k (Nat.le_refl _) (by omega), rd43_at l0 j (by omega)]
  simp [sumE]
def NeedOK (cl : List S43) (w : List S36) (rain m e : Int) : Prop :=
  (e = 0 ∧ ∃ j : Nat, m = (j : Int) ∧ ∃ h : j < cl.length, (dryOf w 0 cl[j]).f1 > rain ∧ ∀ i (h' : i < j), (dryOf w 0 (cl[i]'(Nat.lt_trans h' h))).f1 ≤ rain) ∨
  (e = 6 ∧ m = 0 ∧ ∀ i (h : i < cl.length), (dryOf w 0 cl[i]).f1 ≤ rain)
theorem tNeed_l (l0 : List S43) (l1 : List Int) (g s rain : Int) (w : List S36) {h0 : Int} (hh : wx l0 l1 g s w h0 = 0) : ∀ (d i k : Nat), i + d = l0.length → 30 + d < k → (∀ j (h : j < i) (h2 : j < l0.length), (dryOf w 0 l0[j]).f1 ≤ rain) →
    ∃ m e, tenter_Need.l0 k rain (l0.length : Int) i l0 l1 g s w = some (m, e) ∧ NeedOK l0 w rain m e
  | 0, i, k, hd, hk, hb => by
    obtain ⟨k, rfl⟩ : ∃ m, k = m + 1 := ⟨k - 1, by omega⟩
    exact ⟨0, 6, by rw [tenter_Need.l0, if_neg (by omega)], .inr ⟨rfl, rfl, fun j h => hb j (by omega) h⟩⟩
  | d + 1, i, k, hd, hk, hb => by
    obtain ⟨k, rfl⟩ : ∃ m, k = m + 1 := ⟨k - 1, by omega⟩
    have hlt : i < l0.length := by omega
    have hn := (chk_ok (wx_ok hh).1).1
    rw [tenter_Need.l0, if_pos (by omega), tDry_at k l0 l1 g s 0 w hh (by omega) (by omega) i hlt (by omega)]
    simp only [Option.bind_some]
    by_cases h : (dryOf w 0 l0[i]).f1 > rain
    · exact ⟨i, 0, by rw [if_pos h], .inl ⟨rfl, i, rfl, hlt, h, fun j hj => hb j hj (by omega)⟩⟩
    · rw [if_neg h, nx i (by omega)]
      refine tNeed_l l0 l1 g s rain w hh d (i + 1) k (by omega) (by omega) fun j hj hj2 => ?_
      by_cases e : j = i
      · subst e; omega
      · exact hb j (by omega) hj2
theorem tNeed_eq (k : Nat) (l0 : List S43) (l1 : List Int) (g s rain : Int) (w : List S36) (hh : wx l0 l1 g s w rain = 0) (hk : 50 < k) :
    ∃ m e, tenter_Need.f k l0 l1 g s w rain = some (m, e) ∧ NeedOK l0 w rain m e := by
  have hn := (chk_ok (wx_ok hh).1).1
  obtain ⟨m, e, h1, h2⟩ := tNeed_l l0 l1 g s rain w hh l0.length 0 k (by omega) (by omega) (fun j hj => by omega)
  refine ⟨m, e, ?_, h2⟩
  unfold tenter_Need.f
  rw [newForecast_eq]
  simp only [Option.bind_some]
  rw [if_pos hh]
  exact h1
theorem late_char (w : List S36) (hb : ∀ x ∈ w, 0 ≤ x.f0) (c : S43) (rain : Nat) (hr : rain ≤ w.length) :
    let L := lateO w rain c.f1.f1
    (-1 : Int) ≤ L ∧ L ≤ rain ∧ (0 ≤ L → (dryOf w L c).f1 ≤ (rain : Int)) ∧ (L + 1 ≤ rain → ¬ (dryOf w (L + 1) c).f1 ≤ (rain : Int)) := by
  have key : ∀ h : Nat, h ≤ rain → ((dryOf w (h : Int) c).f1 ≤ (rain : Int) ↔ c.f1.f1 - sumE S36.f0 ((w.drop h).take (rain - h)) ≤ 0) := fun h hle => by
    have := dr_le S36.f0 (w.drop h) (rain - h) c.f1.f1 h (by simp; omega) (fun y hy => hb y (List.mem_of_mem_drop hy))
    rw [show (h : Int) + ((rain - h : Nat) : Int) = (rain : Int) by omega] at this
    unfold dryOf
    simp only [Int.toNat_natCast]
    rw [this]; omega
  have main : ∀ h : Nat, h ≤ rain → (h + 1 ≤ rain → ¬ (dryOf w ((h : Int) + 1) c).f1 ≤ (rain : Int)) →
      -1 ≤ lateO w h (c.f1.f1 - sumE S36.f0 ((w.drop h).take (rain - h))) ∧ lateO w h (c.f1.f1 - sumE S36.f0 ((w.drop h).take (rain - h))) ≤ rain ∧
      (0 ≤ lateO w h (c.f1.f1 - sumE S36.f0 ((w.drop h).take (rain - h))) → (dryOf w (lateO w h (c.f1.f1 - sumE S36.f0 ((w.drop h).take (rain - h)))) c).f1 ≤ (rain : Int)) ∧
      (lateO w h (c.f1.f1 - sumE S36.f0 ((w.drop h).take (rain - h))) + 1 ≤ rain → ¬ (dryOf w (lateO w h (c.f1.f1 - sumE S36.f0 ((w.drop h).take (rain - h))) + 1) c).f1 ≤ (rain : Int)) := by
    intro h
    induction h with
    | zero =>
      intro hle hn
      unfold lateO
      by_cases hx : (dryOf w ((0 : Nat) : Int) c).f1 ≤ (rain : Int)
      · have := (key 0 hle).1 hx
        rw [if_neg (by omega)]
        exact ⟨by omega, by omega, fun _ => hx, fun h1 => hn (by omega)⟩
      · have := mt (key 0 hle).2 hx
        rw [if_pos (by omega)]
        exact ⟨by omega, by omega, fun h1 => by omega, fun _ => hx⟩
    | succ h ih =>
      intro hle hn
      unfold lateO
      by_cases hx : (dryOf w ((h + 1 : Nat) : Int) c).f1 ≤ (rain : Int)
      · rw [if_pos ((key (h + 1) hle).1 hx)]
        exact ⟨by omega, by omega, fun _ => hx, fun h1 => hn (by omega)⟩
      · have hlt : h < w.length := by omega
        have eg : w.getD h z36 = w[h] := by simp [List.getD_eq_getElem?_getD, List.getElem?_eq_getElem hlt]
        have es : c.f1.f1 - sumE S36.f0 ((w.drop (h + 1)).take (rain - (h + 1))) - w[h].f0 = c.f1.f1 - sumE S36.f0 ((w.drop h).take (rain - h)) := by
          rw [List.drop_eq_getElem_cons hlt, show rain - h = (rain - (h + 1)) + 1 by omega, List.take_succ_cons, sumE]; omega
        rw [if_neg (mt (key (h + 1) hle).2 hx), eg, es]
        exact ih (by omega) (fun _ => by rw [show (h : Int) + 1 = ((h + 1 : Nat) : Int) by omega]; exact hx)
  have := main rain (Nat.le_refl _) (fun h => by omega)
  simpa [sumE] using this
end Go.Proofs.YtikmfpjcdcckeaaGreatDoor.P
namespace Go.Proofs.YtikmfpjcdcckeaaGreatDoor.P
open Go.RowKit Go.Proofs.YtikmfpjcdcckeaaGreatDoorW.PrintWords Go.Proofs.YtikmfpjcdcckeaaGreatDoorW.PrintLast Go.Proofs.YtikmfpjcdcckeaaGreatDoorW.PrintMore
attribute [local go_sem] max2_int min2_int max_two min_two max_three min_three max_four min_four
def slices_Clone_int_int.f (l0 : List Int) : Option (List Int) := (some (([] : List Int) : List Int)).bind fun y101 => (if y101.length + l0.length < 17592186044416 then (some (y101 ++ l0)) else (none))
set_option maxHeartbeats 8000000 in
set_option maxRecDepth 100000 in
theorem slices_Clone_int_int.calls (A0 : Option Addr) (c0 : Nat) (l0 : List Int) (r : List Int) (w : World) (hr0 : Kd.C (Kd.int .i64) w A0 l0.length l0) (hc0 : l0.length ≤ c0) (h : slices_Clone_int_int.f l0 = some r) :
    Calls Tryz.prog 83 #[.slice A0 l0.length c0] w fun e w' => ∃ v0_ : Value, e = .returned (v0_) ∧ Kd.R (Kd.int .i64) 3 w' w.heap.size (fun _ => True) v0_ r ∧ Below w.heap.size w w' := by
  cases A0 with
  | none =>
    have hl : l0 = [] := by
      cases l0 with
      | nil => rfl
      | cons x t => obtain ⟨ad, e, _⟩ := hr0.2.2 (by simp); cases e
    subst hl
    obtain rfl : [] = r := by simpa [slices_Clone_int_int.f] using h
    have hnl := fun (w_ : World) => Lib.run_eql_slice_nil_nil (P := Tryz.prog) w_ (t := 23) 0 c0 Tryz.underlying23
    clear h hr0 hc0
    go_enter Tryz.func83, Tryz.ntmps83
    go_wp2
    go_ret
    exact ⟨_, rfl, Kd.R_nil _ _ _ _ _, Below.refl _ _⟩
  | some ad0 =>
    have hnl := fun (w_ : World) (n_ c_ : Nat) => Lib.run_eql_slice_nil (P := Tryz.prog) w_ 23 3 (some ad0) n_ c_ 0 0 Tryz.underlying23
    have HR0 := Aside0.mk hr0
    have HC0 := Aside0.mk hc0
    clear hr0 hc0
    have HB := Aside0.mk (Below.refl w.heap.size w)
    have H : ((some (([] : List Int) : List Int)).bind fun y101 => (if y101.length + l0.length < 17592186044416 then (some (y101 ++ l0)) else (none))) = some r := h
    clear h
    obtain ⟨y101, hy101⟩ : ∃ y_ : List Int, y_ = (([] : List Int)) := ⟨_, rfl⟩
    replace H : (if y101.length + l0.length < 17592186044416 then (some (y101 ++ l0)) else (none)) = some r := by first | (rw [hy101]; with_reducible exact H) | (have H2_ := (Option.bind_some _ _).symm.trans H; rw [hy101]; with_reducible exact H2_) | (have H2_ := (Option.bind_some _ _).symm.trans H; with_reducible exact H2_) | with_reducible exact H | (rw [hy101]; exact H) | exact H
    have Ny101 := Aside0.mk hy101
    clear hy101
    by_cases c2 : y101.length + l0.length < 17592186044416
    · rw [if_pos c2] at H
      have LMc2 := Aside0.mk c2
      clear c2
      obtain ⟨y104, hy104⟩ : ∃ y_ : List Int, y_ = (y101 ++ l0) := ⟨_, rfl⟩
      replace H : (some y104) = some r := by first | (rw [hy104]; with_reducible exact H) | (have H2_ := (Option.bind_some _ _).symm.trans H; rw [hy104]; with_reducible exact H2_) | (have H2_ := (Option.bind_some _ _).symm.trans H; with_reducible exact H2_) | with_reducible exact H | (rw [hy104]; exact H) | exact H
      have Ny104 := Aside0.mk hy104
      clear hy104
      obtain rfl := Option.some.inj H
      go_enter Tryz.func83, Tryz.ntmps83
      go_wp2_with (first | ((with_reducible refine gate_dst (N := 5) rfl ?_); refine Kd.R_lit (Kd.int .i64) _ 3 ?hg (N := 5) ?hd (xs := ([] : List Int)) (inner := []) (ok := fun _ => True) (okp := fun _ => True) ?hr ?hp (fun _ hk => hk) trivial (Below.refl _ _) (Nat.le_refl _) (by simp) ?_; (case hd => rfl); (case hg => rfl); (case hr => first | (go_simp; done) | (go_simp; rfl)); (case hp => exact (Reps.none _ _)); intro v102 w3 ho4 hb hg_ hnew_; clear hg_ hnew_; (first | rw [← Ny101.out] at ho4 | (simp only [Int.reduceToNat] at ho4; rw [← Ny101.out] at ho4)); have n0_ := Aside0.mk (Kd.R_lower ho4 (below_size (by repeat (first | (with_reducible first | exact HB.out | apply below_alloc | apply pw_below_drewN | apply below_drew1) | exact HB.out)))); have n1_ := Aside0.mk (below_step (by repeat (first | (with_reducible first | exact HB.out | apply below_alloc | apply pw_below_drewN | apply below_drew1) | exact HB.out)) hb); clear HB; have HO103 := n0_; have HB := n1_; clear n0_ n1_; clear hb ho4) | ((with_reducible refine gate_builtin (b := .append) (xs := #[.tmp 5, .tmp 6]) rfl ?_); at_builtin; refine Kd.R_append_rows (Kd.int .i64) (w0 := w) w.heap.size rfl (.tmp 5) (.tmp 6) 23 3 (.int .i64 0) 8 rfl Tryz.underlying23 info3 rfl (by decide) (by omega) v102 y101 l0 _ _ _ (fun _ => True) (fun _ => False) rfl rfl ?aO ?aR (fun _ _ h => h) (fun _ h => h.elim) ?aF ?aB ?aS ?aL ?_; (case aR => repeat (first | exact (Kd.C_below HR0.out HB.out) | (with_reducible refine Kd.C_alloc ?_ _) | (with_reducible refine Kd.C_drewN ?_ _) | (with_reducible refine Kd.C_drew ?_))); (case aB => exact (by repeat (first | (with_reducible first | exact HB.out | apply below_alloc | apply pw_below_drewN | apply below_drew1) | exact HB.out))); (case aF => exact (fun _ _ => trivial)); (case aO => exact (by (with_reducible repeat (first | apply Kd.R_alloc | apply Kd.R_drewN | apply Kd.R_drew)); exact HO103.out)); (case aS => exact (below_size (by repeat (first | (with_reducible first | exact HB.out | apply below_alloc | apply pw_below_drewN | apply below_drew1) | exact HB.out)))); (case aL => have := LMc2.out; omega); intro v105 w5 ho hb hg hat; rw [← Ny104.out] at ho; have n0_ := Aside0.mk (hb); have n1_ := Aside0.mk (ho); clear HB; clear HO103; have HB := n0_; have HO106 := n1_; clear n0_ n1_; clear ho hb hg hat))
      go_ret
      exact ⟨_, by first | rfl | (simp [errW_none, errW_some] <;> rfl) | (simp [*, errW_none, errW_some] <;> rfl), by (with_reducible repeat (first | apply Kd.R_alloc | apply Kd.R_drewN | apply Kd.R_drew)); exact HO106.out, by repeat (first | (with_reducible first | exact HB.out | apply below_alloc | apply pw_below_drewN | apply below_drew1) | exact HB.out)⟩
    · rw [if_neg c2] at H
      exact absurd H (by simp)
def tenter_Order_1_1.f (a0 : Int) (a1 : Int) (l2_0 : List Int) : Option (Int) := if 0 ≤ a0 then (if a0 < (l2_0.length : Int) then (if 0 ≤ a1 then (if a1 < (l2_0.length : Int) then (some (wrap64 ((rd l2_0 a0) - (rd l2_0 a1)))) else (none)) else (none)) else (none)) else (none)
set_option maxHeartbeats 8000000 in
set_option maxRecDepth 100000 in
theorem tenter_Order_1_1.calls (a0 : Int) (a1 : Int) (B2 : Nat) (A2_0 : Option Addr) (c2_0 : Nat) (l2_0 : List Int) (r : Int) (w : World) (hb2 : w.heap[B2]? = some (.cells #[.slice A2_0 l2_0.length c2_0] 23 (0, 0))) (hr2_0 : Kd.C (Kd.int .i64) w A2_0 l2_0.length l2_0) (hc2_0 : l2_0.length ≤ c2_0) (h : tenter_Order_1_1.f a0 a1 l2_0 = some r) :
    Calls Tryz.prog 85 #[.int .i64 a0, .int .i64 a1, .pointer (some ⟨B2, 0, none⟩)] w fun e w' => e = .returned (.int .i64 r) ∧ Drawn0 w w' := by
  have HR2_0 := Aside0.mk hr2_0
  have HC2_0 := Aside0.mk hc2_0
  clear hr2_0 hc2_0
  have BK2 := Aside0.mk hb2
  clear hb2
  have H : (if 0 ≤ a0 then (if a0 < (l2_0.length : Int) then (if 0 ≤ a1 then (if a1 < (l2_0.length : Int) then (some (wrap64 ((rd l2_0 a0) - (rd l2_0 a1)))) else (none)) else (none)) else (none)) else (none)) = some r := h
  clear h
  by_cases c4 : 0 ≤ a0
  · rw [if_pos c4] at H
    have c4b0 : decide (0 ≤ a0) = true := decide_eq_true c4
    clear c4
    by_cases c5 : a0 < (l2_0.length : Int)
    · rw [if_pos c5] at H
      have c5b0 : decide (a0 < (l2_0.length : Int)) = true := decide_eq_true c5
      clear c5
      by_cases c6 : 0 ≤ a1
      · rw [if_pos c6] at H
        have c6b0 : decide (0 ≤ a1) = true := decide_eq_true c6
        clear c6
        by_cases c7 : a1 < (l2_0.length : Int)
        · rw [if_pos c7] at H
          have c7b0 : decide (a1 < (l2_0.length : Int)) = true := decide_eq_true c7
          clear c7
          obtain rfl := Option.some.inj H
          have hcz8_0 : w.cell? ⟨B2, 0, none⟩ = some (.slice A2_0 l2_0.length c2_0) := (blk_cell BK2.out 0).trans rfl
          have hfz8_0 := blk_frozen BK2.out 0
          have p101 : 0 ≤ (a0 : Int) := of_decide_eq_true (by first | (with_reducible assumption) | assumption)
          have q101 : a0 < (l2_0.length : Int) := of_decide_eq_true (by first | (with_reducible assumption) | assumption)
          obtain ⟨ad101, e101, hx101_0⟩ := Kd.at_int HR2_0.out a0 p101 q101
          cases e101
          replace p101 := eq_true p101
          replace q101 := eq_true q101
          have p102 : 0 ≤ (a1 : Int) := of_decide_eq_true (by first | (with_reducible assumption) | assumption)
          have q102 : a1 < (l2_0.length : Int) := of_decide_eq_true (by first | (with_reducible assumption) | assumption)
          obtain ⟨ad102, e102, hx102_0⟩ := Kd.at_int HR2_0.out a1 p102 q102
          obtain rfl : ad101 = ad102 := (by injection e102)
          replace p102 := eq_true p102
          replace q102 := eq_true q102
          go_enter Tryz.func85, Tryz.ntmps85
          go_wp2
          repeat (go_quiet (fail); try go_wp2)
          go_ret
          exact ⟨by first | rfl | (simp; done) | (simp [*]; done), by repeat (first | exact Drawn0.refl _ | apply Drawn0.step)⟩
        · rw [if_neg c7] at H
          exact absurd H (by simp)
      · rw [if_neg c6] at H
        exact absurd H (by simp)
    · rw [if_neg c5] at H
      exact absurd H (by simp)
  · rw [if_neg c4] at H
    exact absurd H (by simp)
mutual
def slices_insertionSortCmpFunc_int_at_tenter_Order_1_1.l0 : Nat → List Int → Int → Int → Int → List Int → Option (List Int)
 | 0, _, _, _, _, _ => none
 | k + 1, x0, x1, x2, x8, x69000 => if x8 < x2 then (slices_insertionSortCmpFunc_int_at_tenter_Order_1_1.l1 k x0 x1 x2 x8 x8 x69000) else (some x0)
def slices_insertionSortCmpFunc_int_at_tenter_Order_1_1.l1 : Nat → List Int → Int → Int → Int → Int → List Int → Option (List Int)
 | 0, _, _, _, _, _, _ => none
 | k + 1, x0, x1, x2, x8, x9, x69000 => if x9 > x1 then (if 0 ≤ x9 then (if x9 < (x0.length : Int) then (if 0 ≤ (wrap64 (x9 - 1)) then (if (wrap64 (x9 - 1)) < (x0.length : Int) then ((tenter_Order_1_1.f (rd x0 x9) (rd x0 (wrap64 (x9 - 1))) x69000).bind fun t103 => (if t103 < 0 then (slices_insertionSortCmpFunc_int_at_tenter_Order_1_1.l1 k ((x0.set (x9 : Int).toNat (rd x0 (wrap64 (x9 - 1)))).set ((wrap64 (x9 - 1)) : Int).toNat (rd x0 x9)) x1 x2 x8 (wrap64 (x9 - 1)) x69000) else (slices_insertionSortCmpFunc_int_at_tenter_Order_1_1.l0 k x0 x1 x2 (wrap64 (x8 + 1)) x69000))) else (none)) else (none)) else (none)) else (none)) else (slices_insertionSortCmpFunc_int_at_tenter_Order_1_1.l0 k x0 x1 x2 (wrap64 (x8 + 1)) x69000)
end
def slices_insertionSortCmpFunc_int_at_tenter_Order_1_1.f (k : Nat) (l0 : List Int) (a1 : Int) (a2 : Int) (l68_0 : List Int) : Option (List Int) := slices_insertionSortCmpFunc_int_at_tenter_Order_1_1.l0 k l0 a1 a2 (wrap64 (a1 + 1)) l68_0
theorem slices_insertionSortCmpFunc_int_at_tenter_Order_1_1.mono_l : ∀ k, (∀ y0 y1 y2 y3 y4, LeO (slices_insertionSortCmpFunc_int_at_tenter_Order_1_1.l0 k y0 y1 y2 y3 y4) (slices_insertionSortCmpFunc_int_at_tenter_Order_1_1.l0 (k + 1) y0 y1 y2 y3 y4)) ∧ (∀ y0 y1 y2 y3 y4 y5, LeO (slices_insertionSortCmpFunc_int_at_tenter_Order_1_1.l1 k y0 y1 y2 y3 y4 y5) (slices_insertionSortCmpFunc_int_at_tenter_Order_1_1.l1 (k + 1) y0 y1 y2 y3 y4 y5))
 | 0 => ⟨fun _ _ _ _ _ r h => by simp [slices_insertionSortCmpFunc_int_at_tenter_Order_1_1.l0] at h, fun _ _ _ _ _ _ r h => by simp [slices_insertionSortCmpFunc_int_at_tenter_Order_1_1.l1] at h⟩
 | k + 1 => by
  obtain ⟨ih0, ih1⟩ := slices_insertionSortCmpFunc_int_at_tenter_Order_1_1.mono_l k
  refine ⟨?_, ?_⟩
  ·intro y0 y1 y2 y3 y4
   unfold slices_insertionSortCmpFunc_int_at_tenter_Order_1_1.l0
   repeat' first
   | (with_reducible exact ih0 _ _ _ _ _)
   | (with_reducible exact ih1 _ _ _ _ _ _)
   | (with_reducible exact LeO.refl _)
   | (with_reducible exact LeO.none _)
   | (with_reducible refine LeO.ite ?_ ?_)
   | (with_reducible refine LeO.bind ?_ (fun _ => ?_))
   | exact ih0 _ _ _ _ _
   | exact ih1 _ _ _ _ _ _
   | exact LeO.none _
   | refine LeO.ite ?_ ?_
   | refine LeO.bind ?_ (fun _ => ?_)
  ·intro y0 y1 y2 y3 y4 y5
   unfold slices_insertionSortCmpFunc_int_at_tenter_Order_1_1.l1
   repeat' first
   | (with_reducible exact ih0 _ _ _ _ _)
   | (with_reducible exact ih1 _ _ _ _ _ _)
   | (with_reducible exact LeO.refl _)
   | (with_reducible exact LeO.none _)
   | (with_reducible refine LeO.ite ?_ ?_)
   | (with_reducible refine LeO.bind ?_ (fun _ => ?_))
   | exact ih0 _ _ _ _ _
   | exact ih1 _ _ _ _ _ _
   | exact LeO.none _
   | refine LeO.ite ?_ ?_
   | refine LeO.bind ?_ (fun _ => ?_)
theorem slices_insertionSortCmpFunc_int_at_tenter_Order_1_1.mono : ∀ a0 a1 a2 a3 k, LeO (slices_insertionSortCmpFunc_int_at_tenter_Order_1_1.f k a0 a1 a2 a3) (slices_insertionSortCmpFunc_int_at_tenter_Order_1_1.f (k + 1) a0 a1 a2 a3) := by
 intro a0 a1 a2 a3 k
 obtain ⟨ih0, ih1⟩ := slices_insertionSortCmpFunc_int_at_tenter_Order_1_1.mono_l k
 unfold slices_insertionSortCmpFunc_int_at_tenter_Order_1_1.f
 repeat' first
   | (with_reducible exact ih0 _ _ _ _ _)
   | (with_reducible exact ih1 _ _ _ _ _ _)
   | (with_reducible exact LeO.refl _)
   | (with_reducible exact LeO.none _)
   | (with_reducible refine LeO.ite ?_ ?_)
   | (with_reducible refine LeO.bind ?_ (fun _ => ?_))
   | exact ih0 _ _ _ _ _
   | exact ih1 _ _ _ _ _ _
   | exact LeO.none _
   | refine LeO.ite ?_ ?_
   | refine LeO.bind ?_ (fun _ => ?_)
def slices_insertionSortCmpFunc_int_at_tenter_Order_1_1.T4 : Bool × List (List Nat × List Nat) := (true, [([], []), ([], []), ([0, 1], [0, 1]), ([2], [2]), ([3], [3]), ([3], [3]), ([3], [3]), ([5, 6, 3], [3, 5, 6]), ([7, 3], [3, 7]), ([3], [3]), ([3], [3]), ([10, 3], [3, 10]), ([9, 11, 3], [3, 9, 11]), ([12, 3], [3, 12]), ([4, 8, 13, 3, 3], [3, 4, 8, 13]), ([14, 3], [3, 14]), ([3, 15], [3, 15])])
def slices_insertionSortCmpFunc_int_at_tenter_Order_1_1.B4 : List Nat := [0, 0, 3, 7, 15, 15, 15, 111, 239, 15, 15, 1039, 3599, 7695, 16383, 32767, 65535]
theorem slices_insertionSortCmpFunc_int_at_tenter_Order_1_1.tab4 : rtab .any (opsOf Tryz.f122 4) = slices_insertionSortCmpFunc_int_at_tenter_Order_1_1.T4 := by kernel_rfl
theorem slices_insertionSortCmpFunc_int_at_tenter_Order_1_1.bits4 : waitsOk slices_insertionSortCmpFunc_int_at_tenter_Order_1_1.T4.2 slices_insertionSortCmpFunc_int_at_tenter_Order_1_1.B4 = true := by kernel_rfl
def slices_insertionSortCmpFunc_int_at_tenter_Order_1_1.T6 : Bool × List (List Nat × List Nat) := (true, [([], []), ([], []), ([], []), ([], []), ([3], [3]), ([], []), ([], []), ([6], [6]), ([5, 7], [5, 7]), ([8], [8]), ([], []), ([], []), ([10, 11], [10, 11]), ([12], [12]), ([0, 1, 0, 1, 5, 6, 7, 8, 9, 13], [0, 1]), ([14, 9, 0, 1, 5, 6, 7, 8, 9, 13], [9, 14]), ([2, 4, 0, 1, 2, 3, 4, 5, 6, 7, 8, 9, 10, 11, 12, 13, 14, 15], [2, 4]), ([16, 13, 15, 0, 1, 2, 3, 4, 5, 6, 7, 8, 9, 10, 11, 12, 13, 14, 15], [13, 16])])
def slices_insertionSortCmpFunc_int_at_tenter_Order_1_1.B6 : List Nat := [0, 0, 0, 0, 8, 0, 0, 64, 224, 480, 0, 0, 3072, 7168, 16355, 32739, 65535, 131071]
theorem slices_insertionSortCmpFunc_int_at_tenter_Order_1_1.tab6 : rtab .any (opsOf Tryz.f122 6) = slices_insertionSortCmpFunc_int_at_tenter_Order_1_1.T6 := by kernel_rfl
theorem slices_insertionSortCmpFunc_int_at_tenter_Order_1_1.bits6 : waitsOk slices_insertionSortCmpFunc_int_at_tenter_Order_1_1.T6.2 slices_insertionSortCmpFunc_int_at_tenter_Order_1_1.B6 = true := by kernel_rfl
set_option maxHeartbeats 8000000 in
set_option maxRecDepth 100000 in
theorem slices_insertionSortCmpFunc_int_at_tenter_Order_1_1.calls (k : Nat) (P0_ : Nat → Prop) (u9000_ : Value) (l0 : List Int) (a1 : Int) (a2 : Int) (B68 : Nat) (A68_0 : Option Addr) (c68_0 : Nat) (l68_0 : List Int) (r : List Int) (w0 w : World) (hB : Below w0.heap.size w0 w) (ho0 : Kd.R (Kd.int .i64) 3 w w0.heap.size P0_ u9000_ l0) (hb68 : w.heap[B68]? = some (.cells #[.slice A68_0 l68_0.length c68_0] 23 (0, 0))) (hr68_0 : ∀ W_, Kept w W_ (fun k_ => P0_ k_) → Kd.C (Kd.int .i64) W_ A68_0 l68_0.length l68_0) (hc68_0 : l68_0.length ≤ c68_0) (np0_68 : ¬ P0_ B68) (h : slices_insertionSortCmpFunc_int_at_tenter_Order_1_1.f k l0 a1 a2 l68_0 = some r) :
  Calls Tryz.prog 122 #[u9000_, .int .i64 a1, .int .i64 a2, .func (.func 85) #[] #[.pointer (some ⟨B68, 0, none⟩)]] w fun e w' => e = .returned (.tuple #[]) ∧ Kd.R (Kd.int .i64) 3 w' w0.heap.size (fun k_ => (P0_ k_ ∨ w.heap.size ≤ k_)) u9000_ r ∧ Below w0.heap.size w0 w' ∧ Kept w w' (fun k_ => P0_ k_) := by
 have HO0 := Aside0.mk (show Kd.R (Kd.int .i64) 3 w w0.heap.size (fun k_ => (P0_ k_ ∨ w.heap.size ≤ k_)) u9000_ l0 from Kd.R_mono ho0 (fun k_ hk => (.inl hk)))
 have HR68_0 := Aside0.mk hr68_0
 have HC68_0 := Aside0.mk hc68_0
 clear hr68_0 hc68_0
 have GL68 := Aside0.mk (blk_lt hb68)
 have NP68 := Aside0.mk np0_68
 clear np0_68
 have BK68 := Aside0.mk hb68
 clear hb68
 have HK := Aside0.mk (Kept.refl w (fun k_ => P0_ k_))
 have HW0 := Aside0.mk hB.size
 have HB := Aside0.mk hB
 clear hB
 have H : (slices_insertionSortCmpFunc_int_at_tenter_Order_1_1.l0 k l0 a1 a2 (wrap64 (a1 + 1)) l68_0) = some r := h
 clear h
 have H' := Aside0.mk H
 clear H
 go_enter Tryz.func122, Tryz.ntmps122
 go_wp2
 (try simp only [Act.put, List.setIfInBounds_toArray, List.set_cons_zero, List.set_cons_succ])
 go_loopg [8] k (fun kq v8 w' => ∃ (x0_1 : List Int) (x8_1 : Int), v8 = .int .i64 x8_1 ∧ Aside0 (slices_insertionSortCmpFunc_int_at_tenter_Order_1_1.l0 kq x0_1 a1 a2 x8_1 l68_0 = some r) ∧ Aside0 (kq ≤ k) ∧ Aside0 (Kd.R (Kd.int .i64) 3 w' w0.heap.size (fun k_ => (P0_ k_ ∨ w.heap.size ≤ k_)) u9000_ x0_1) ∧ Aside0 (w'.heap[B68]? = some (.cells #[(.slice A68_0 l68_0.length c68_0)] 23 (0, 0))) ∧ Aside0 (Kept w w' (fun k_ => P0_ k_)) ∧ Aside0 (Below w0.heap.size w0 w'))
 case atStart => exact ⟨(l0), (wrap64 (a1 + 1)), (by first | rfl | (simp; done) | (simp [*]; done)), H', ⟨Nat.le_refl _⟩, ⟨by (with_reducible repeat (first | apply Kd.R_alloc | apply Kd.R_drewN | apply Kd.R_drew)); exact HO0.out⟩, ⟨by (with_reducible repeat (first | refine blk_drewN ?_ _ | refine blk_drew ?_ | refine blk_alloc ?_ _)); exact BK68.out⟩, ⟨by repeat (first | (with_reducible first | exact HK.out | apply Kept.alloc | apply Kept.drewN | apply Kept.drew | refine Kept.setCell ?_ (.inr GW68.out) _) | exact HK.out)⟩, ⟨pE HB⟩⟩
 case round =>
  clear H'
  try clear p2
  obtain ⟨x0_1, x8_1, rfl, HA, HK1, HO_0, BK68, HK, HB⟩ := hrel
  cases gk with
  | zero => exact absurd HA.out (by simp [slices_insertionSortCmpFunc_int_at_tenter_Order_1_1.l0])
  | succ k1 =>
   have H := HA.out
   clear HA
   simp only [slices_insertionSortCmpFunc_int_at_tenter_Order_1_1.l0] at H
   by_cases c5 : x8_1 < a2
   ·rw [if_pos c5] at H
    have c5b0 : decide (x8_1 < a2) = true := decide_eq_true c5
    clear c5
    have H' := Aside0.mk H
    clear H
    go_wp2
    (try simp only [Act.put, List.setIfInBounds_toArray, List.set_cons_zero, List.set_cons_succ])
    go_loopg [9] k1 (fun kq v9 w' => ∃ (x0_2 : List Int) (x9_2 : Int), v9 = .int .i64 x9_2 ∧ Aside0 (slices_insertionSortCmpFunc_int_at_tenter_Order_1_1.l1 kq x0_2 a1 a2 x8_1 x9_2 l68_0 = some r) ∧ Aside0 (kq ≤ k1) ∧ Aside0 (Kd.R (Kd.int .i64) 3 w' w0.heap.size (fun k_ => (P0_ k_ ∨ w.heap.size ≤ k_)) u9000_ x0_2) ∧ Aside0 (w'.heap[B68]? = some (.cells #[(.slice A68_0 l68_0.length c68_0)] 23 (0, 0))) ∧ Aside0 (Kept w w' (fun k_ => P0_ k_)) ∧ Aside0 (Below w0.heap.size w0 w'))
    case atStart => exact ⟨(x0_1), (x8_1), (by first | rfl | (simp; done) | (simp [*]; done)), H', ⟨Nat.le_refl _⟩, ⟨by (with_reducible repeat (first | apply Kd.R_alloc | apply Kd.R_drewN | apply Kd.R_drew)); exact HO_0.out⟩, ⟨by (with_reducible repeat (first | refine blk_drewN ?_ _ | refine blk_drew ?_ | refine blk_alloc ?_ _)); exact BK68.out⟩, ⟨by repeat (first | (with_reducible first | exact HK.out | apply Kept.alloc | apply Kept.drewN | apply Kept.drew | refine Kept.setCell ?_ (.inr GW68.out) _) | exact HK.out)⟩, ⟨pE HB⟩⟩
    case round =>
     clear H'
     try clear p2
     try clear c5
     try clear c5b0
     try clear p2
     obtain ⟨x0_2, x9_2, rfl, HA, HK2, HO_0, BK68, HK, HB⟩ := hrel
     cases gk with
     | zero => exact absurd HA.out (by simp [slices_insertionSortCmpFunc_int_at_tenter_Order_1_1.l1])
     | succ k2 =>
      have H := HA.out
      clear HA
      simp only [slices_insertionSortCmpFunc_int_at_tenter_Order_1_1.l1] at H
      by_cases c6 : x9_2 > a1
      ·rw [if_pos c6] at H
       have c6b0 : decide (a1 < x9_2) = true := decide_eq_true c6
       clear c6
       by_cases c7 : 0 ≤ x9_2
       ·rw [if_pos c7] at H
        have c7b0 : decide (0 ≤ x9_2) = true := decide_eq_true c7
        clear c7
        by_cases c8 : x9_2 < (x0_2.length : Int)
        ·rw [if_pos c8] at H
         have c8b0 : decide (x9_2 < (x0_2.length : Int)) = true := decide_eq_true c8
         clear c8
         obtain ⟨ji9, hji9⟩ : ∃ j_ : Int, (wrap64 (x9_2 - 1)) = j_ := ⟨_, rfl⟩
         replace H : (if 0 ≤ (ji9) then (if (ji9) < (x0_2.length : Int) then ((tenter_Order_1_1.f (rd x0_2 x9_2) (rd x0_2 (ji9)) l68_0).bind fun t103 => (if t103 < 0 then (slices_insertionSortCmpFunc_int_at_tenter_Order_1_1.l1 k2 ((x0_2.set (x9_2 : Int).toNat (rd x0_2 (ji9))).set ((ji9) : Int).toNat (rd x0_2 x9_2)) a1 a2 x8_1 ji9 l68_0) else (slices_insertionSortCmpFunc_int_at_tenter_Order_1_1.l0 k2 x0_2 a1 a2 (wrap64 (x8_1 + 1)) l68_0))) else (none)) else (none)) = some r := by first | (rw [hji9] at H; exact H) | (simp only [hji9] at H ⊢; exact H)
         have hji9w : (IntKind.i64.wrap (x9_2 - 1)) = ji9 := (i64_w _).trans hji9
         by_cases c10 : 0 ≤ (ji9)
         ·rw [if_pos c10] at H
          have c10b0 : decide (0 ≤ (ji9)) = true := decide_eq_true c10
          clear c10
          by_cases c11 : (ji9) < (x0_2.length : Int)
          ·rw [if_pos c11] at H
           have c11b0 : decide ((ji9) < (x0_2.length : Int)) = true := decide_eq_true c11
           clear c11
           obtain ⟨t103, A12, H⟩ := bi H
           by_cases c13 : t103 < 0
           ·rw [if_pos c13] at H
            have c13b0 : decide (t103 < 0) = true := decide_eq_true c13
            clear c13
            obtain ⟨y106, hy106⟩ : ∃ y_ : List Int, y_ = (x0_2.set (x9_2 : Int).toNat (rd x0_2 (ji9))) := ⟨_, rfl⟩
            replace H : (slices_insertionSortCmpFunc_int_at_tenter_Order_1_1.l1 k2 (y106.set ((ji9) : Int).toNat (rd x0_2 x9_2)) a1 a2 x8_1 ji9 l68_0) = some r := yy hy106 H
            have Ny106 := Aside0.mk hy106
            clear hy106
            obtain ⟨y107, hy107⟩ : ∃ y_ : List Int, y_ = (y106.set ((ji9) : Int).toNat (rd x0_2 x9_2)) := ⟨_, rfl⟩
            replace H : (slices_insertionSortCmpFunc_int_at_tenter_Order_1_1.l1 k2 y107 a1 a2 x8_1 ji9 l68_0) = some r := yy hy107 H
            have Ny107 := Aside0.mk hy107
            clear hy107
            have H' := Aside0.mk H
            clear H
            try go_wp2
            replace HO_0 := Aside0.mk (Kd.R_drew HO_0.out)
            replace BK68 := Aside0.mk (blk_drew BK68.out)
            replace HK := Aside0.mk (Kept.drew HK.out)
            replace HB := Aside0.mk (below_drew1 HB.out)
            obtain ⟨Ao17, co17, eo17⟩ := Kd.R_slice HO_0.out
            (first | subst eo17 | (injection eo17 with f1_ f2_ f3_; have f4_ := f1_.symm; have f5_ := f3_.symm; clear f1_ f2_ f3_; subst f4_; subst f5_))
            have p101 : 0 ≤ (x9_2 : Int) := dT
            have q101 : x9_2 < (x0_2.length : Int) := dT
            obtain ⟨ad101, e101, hx101_0⟩ := Kd.at_int (Kd.R_reads' HO_0.out).2.2 x9_2 p101 q101
            cases e101
            replace p101 := eq_true p101
            replace q101 := eq_true q101
            have p102 : 0 ≤ ((ji9) : Int) := dT
            have q102 : (ji9) < (x0_2.length : Int) := dT
            obtain ⟨ad102, e102, hx102_0⟩ := Kd.at_int (Kd.R_reads' HO_0.out).2.2 (ji9) p102 q102
            obtain rfl : ad101 = ad102 := (by injection e102)
            replace p102 := eq_true p102
            replace q102 := eq_true q102
            refine start_ (n := 17) (S := fun w' => w'.cell? (ad101.add (x9_2).toNat) = some (.int .i64 (rd x0_2 x9_2)) ∧ w'.cell? (ad101.add ((ji9)).toNat) = some (.int .i64 (rd x0_2 (ji9)))) (ds := []) #[false, false, false, false, false, false, false, false, false, false, false, false, false, false, false, false, false] (by kernel_rfl) rfl rfl ⟨hx101_0, hx102_0⟩ (fun hHeld => ?_); refine with_tabW slices_insertionSortCmpFunc_int_at_tenter_Order_1_1.tab4 slices_insertionSortCmpFunc_int_at_tenter_Order_1_1.bits4 (fun HT_ HW_ => ?_)
            generalize wr.drew = w16 at HO_0 BK68 HK HB hx101_0 hx102_0 hHeld ⊢
            refine pu 0 18 ?_
            refine pu 1 19 ?_
            refine pu 2 20 ?_
            refine pu 3 21 ?_
            refine pu 4 22 ?_
            refine pu 5 23 ?_
            refine pu 6 24 ?_
            refine pu 7 25 ?_
            refine pu 9 27 ?_
            refine pu 10 28 ?_
            refine pu 11 29 ?_
            refine pu 12 30 ?_
            refine tk 8 26 hHeld ?_
            refine tk 13 31 hHeld ?_
            refine on 14 (fun K hK => ?_)
            refine goesV_ Tryz.func85 (by kernel_rfl) rfl #[.int .i64 (rd x0_2 x9_2), .int .i64 (rd x0_2 (ji9)), .pointer (some ⟨B68, 0, none⟩)] (by rfl) rfl rfl rfl (by (try simp only [List.map_toArray, List.map_cons, List.map_nil]); first | done | (simp only [hji9]; rfl) | rfl | (simp only [List.length_drop, List.length_take]; rfl)) ?_
            with_reducible refine (tenter_Order_1_1.calls (rd x0_2 x9_2) (rd x0_2 (ji9)) B68 A68_0 c68_0 l68_0 t103 _ ?side1 ?side2 ?side3 A12.out).mono ?_
            (case side1 => exact pB BK68.out)
            (case side2 => exact Kd.C_kept_now HR68_0.out (by repeat (first | (with_reducible first | exact HK.out | apply Kept.alloc | apply Kept.drewN | apply Kept.drew | refine Kept.setCell ?_ (.inr GW68.out) _) | exact HK.out)))
            (case side3 => exact HC68_0.out)
            rintro e w' ⟨rfl, ⟨nd, rfl⟩⟩
            refine ⟨_, rfl, ?_⟩
            refine hK.out _ _ ⟨hHeld.1, hHeld.2⟩ (fun hHeld => ?_)
            clear hK K
            refine norm_ (a' := ?_) ?_ ?_
            rotate_left
            ·show Act.put _ (some 32) _ = _
             simp only [Act.put, List.setIfInBounds_toArray, List.set_cons_zero, List.set_cons_succ, i64_w, i32_w]
             rfl
            refine pu 15 33 ?_
            refine pu 16 34 ?_
            refine done_ (done_of HT_.out (by kernel_rfl)) ?_
            try go_wp2
            (try (rw [drewN_self w16]; generalize hq_ : World.drewN w16 _ = w16; have n0_ : Aside0 (Kd.R (Kd.int .i64) 3 w16 w0.heap.size (fun k_ => (P0_ k_ ∨ w.heap.size ≤ k_)) (.slice (some ad101) x0_2.length co17) x0_2) := ⟨by rw [← hq_]; exact (pR HO_0.out)⟩; have n1_ : Aside0 (w16.heap[B68]? = some (.cells #[.slice A68_0 l68_0.length c68_0] 23 (0, 0))) := ⟨by rw [← hq_]; exact (pB BK68.out)⟩; have n2_ : Aside0 (Kept w w16 (fun k_ => P0_ k_)) := ⟨by rw [← hq_]; exact (by repeat (first | (with_reducible first | exact HK.out | apply Kept.alloc | apply Kept.drewN | apply Kept.drew | refine Kept.setCell ?_ (.inr GW68.out) _) | exact HK.out))⟩; have n3_ : Aside0 (Below w0.heap.size w0 w16) := ⟨by rw [← hq_]; exact (pE HB)⟩; clear HO_0 BK68 HK HB hq_; have HO_0 := n0_; have BK68 := n1_; have HK := n2_; have HB := n3_; clear n0_ n1_ n2_ n3_))
            replace HO_0 := Aside0.mk (Kd.R_drew HO_0.out)
            replace BK68 := Aside0.mk (blk_drew BK68.out)
            replace HK := Aside0.mk (Kept.drew HK.out)
            replace HB := Aside0.mk (below_drew1 HB.out)
            have p104 : 0 ≤ ((ji9) : Int) := dT
            have q104 : (ji9) < (x0_2.length : Int) := dT
            obtain ⟨ad104, e104, hx104_0⟩ := Kd.at_int (Kd.R_reads' HO_0.out).2.2 (ji9) p104 q104
            obtain rfl : ad101 = ad104 := (by injection e104)
            replace p104 := eq_true p104
            replace q104 := eq_true q104
            have p105 : 0 ≤ (x9_2 : Int) := dT
            have q105 : x9_2 < (x0_2.length : Int) := dT
            obtain ⟨ad105, e105, hx105_0⟩ := Kd.at_int (Kd.R_reads' HO_0.out).2.2 x9_2 p105 q105
            obtain rfl : ad101 = ad105 := (by injection e105)
            replace p105 := eq_true p105
            replace q105 := eq_true q105
            have p14 : 0 ≤ (x9_2 : Int) := dT
            have q14 : (x9_2 : Int) < ((x0_2.length : Int) : Int) := dT
            obtain ⟨go14, co14, eo14, gb14, gl14, cl14, HG14⟩ := Kd.R_form HO_0.out (by omega)
            (first | cases eo14 | (injection eo14 with ea_ en_ ec_; (first | subst ea_ | (injection ea_ with ea_; subst ea_)); subst ec_; clear en_))
            have GB14 := Aside0.mk gb14
            have GG14 := Aside0.mk HG14
            clear gb14 gl14 HG14
            have HMgo14 := Aside0.mk (show (P0_ go14 ∨ w.heap.size ≤ go14) from (HO_0.out.1 _ rfl))
            (first | simp only [add_plain] at hx101_0 | skip)
            (first | simp only [add_plain] at hx102_0 | skip)
            (first | simp only [add_plain] at hx104_0 | skip)
            (first | simp only [add_plain] at hx105_0 | skip)
            obtain ⟨hx14_0, hf14_0⟩ := Kd.R_celln 0 HO_0.out (x9_2 : Int) p14 q14
            replace p14 := eq_true p14
            replace q14 := eq_true q14
            have HP19 := Kd.R_putn HO_0.out (x9_2 : Int) (rd x0_2 (ji9))
            rw [← Ny106.out] at HP19
            have HQ19 := Aside0.mk HP19
            clear HP19
            have p15 : 0 ≤ ((ji9) : Int) := dT
            have q15 : ((ji9) : Int) < ((x0_2.length : Int) : Int) := dT
            obtain ⟨hx15_0, hf15_0⟩ := Kd.R_celln 0 HQ19.out ((ji9) : Int) p15 q15
            replace p15 := eq_true p15
            replace q15 := eq_true q15
            have HP20 := Kd.R_putn HQ19.out ((ji9) : Int) (rd x0_2 x9_2)
            rw [← Ny107.out] at HP20
            have HQ20 := Aside0.mk HP20
            clear HP20
            refine start_ (n := 18) (S := fun w' => w'.cell? ⟨go14, ((ji9)).toNat, none⟩ = some (.int .i64 (rd x0_2 (ji9))) ∧ w'.cell? ⟨go14, (x9_2).toNat, none⟩ = some (.int .i64 (rd x0_2 x9_2))) (ds := [15, 17]) #[false, false, false, false, false, false, false, false, false, false, false, false, false, false, false, false, false, false] (by kernel_rfl) rfl rfl ⟨hx104_0, hx105_0⟩ (fun hHeld => ?_); refine with_tabW slices_insertionSortCmpFunc_int_at_tenter_Order_1_1.tab6 slices_insertionSortCmpFunc_int_at_tenter_Order_1_1.bits6 (fun HT_ HW_ => ?_)
            generalize w16.drew = w18 at HO_0 BK68 HK HB GG14 HQ19 HQ20 hf14_0 hf15_0 hx101_0 hx102_0 hx104_0 hx105_0 hx14_0 hx15_0 hHeld ⊢
            refine pu 0 37 ?_
            refine pu 1 38 ?_
            refine pu 2 39 ?_
            refine pu 3 40 ?_
            refine pu 4 41 ?_
            refine pu 5 42 ?_
            refine pu 6 43 ?_
            refine pu 7 44 ?_
            refine pu 8 45 ?_
            refine pu 10 47 ?_
            refine pu 11 48 ?_
            refine pu 12 49 ?_
            refine tk 9 46 hHeld ?_
            refine tk 13 50 hHeld ?_
            refine pu 14 51 ?_
            refine last_ (i := 15) (N := none) #[true, true, true, true, true, true, true, true, true, true, true, true, true, true, true, true, false, false] rfl rfl (one_of HT_.out (by kernel_rfl)) (by decide) (fun K hK => ?_)
            refine skip_ (w1 := ?_) (by rfl) rfl ?_ ?_
            rotate_left
            ·go_simp
             rfl
            refine hK.out _ _ ?_
            clear hK K
            refine pu 16 52 ?_
            refine last_ (i := 17) (N := none) #[true, true, true, true, true, true, true, true, true, true, true, true, true, true, true, true, true, true] rfl rfl (one_of HT_.out (by kernel_rfl)) (by decide) (fun K hK => ?_)
            refine skip_ (w1 := ?_) (by rfl) rfl ?_ ?_
            rotate_left
            ·go_simp
             rfl
            refine hK.out _ _ ?_
            clear hK K
            refine done_ (done_of HT_.out (by kernel_rfl)) ?_
            try go_wp2
            go_roundg k2
            case measure => have := HK1.out; have := HK2.out; omega
            case rel => exact ⟨(y107), (ji9), (by first | rfl | (simp; done) | (simp only [← hji9] <;> (first | rfl | simp)) | (simp [*]; done)), H', ⟨by have := HK1.out; have := HK2.out; omega⟩, ⟨by (with_reducible repeat (first | apply Kd.R_alloc | apply Kd.R_drewN | apply Kd.R_drew)); exact HQ20.out⟩, ⟨by refine pB ?_; refine blk_far ?_ (by have h_ := Kd.R_ne HO_0.out BK68.out (by decide); intro e_; exact h_ (by rw [e_]; rfl)) _; refine pB ?_; refine blk_far ?_ (by have h_ := Kd.R_ne HO_0.out BK68.out (by decide); intro e_; exact h_ (by rw [e_]; rfl)) _; (with_reducible repeat (first | refine blk_drewN ?_ _ | refine blk_drew ?_ | refine blk_alloc ?_ _)); exact BK68.out⟩, ⟨by repeat (first | (with_reducible first | exact HK.out | apply Kept.alloc | apply Kept.drewN | apply Kept.drew | refine Kept.setCell ?_ HMgo14.out _ | refine Kept.setCell ?_ HMgo14.out _ | refine Kept.setCell ?_ (.inr GW68.out) _) | exact HK.out)⟩, ⟨pE HB⟩⟩
           ·rw [if_neg c13] at H
            have c13b0 : decide (t103 < 0) = false := decide_eq_false c13
            clear c13
            have H' := Aside0.mk H
            clear H
            try go_wp2
            replace HO_0 := Aside0.mk (Kd.R_drew HO_0.out)
            replace BK68 := Aside0.mk (blk_drew BK68.out)
            replace HK := Aside0.mk (Kept.drew HK.out)
            replace HB := Aside0.mk (below_drew1 HB.out)
            obtain ⟨Ao22, co22, eo22⟩ := Kd.R_slice HO_0.out
            (first | subst eo22 | (injection eo22 with f1_ f2_ f3_; have f4_ := f1_.symm; have f5_ := f3_.symm; clear f1_ f2_ f3_; subst f4_; subst f5_))
            have p101 : 0 ≤ (x9_2 : Int) := dT
            have q101 : x9_2 < (x0_2.length : Int) := dT
            obtain ⟨ad101, e101, hx101_0⟩ := Kd.at_int (Kd.R_reads' HO_0.out).2.2 x9_2 p101 q101
            cases e101
            replace p101 := eq_true p101
            replace q101 := eq_true q101
            have p102 : 0 ≤ ((ji9) : Int) := dT
            have q102 : (ji9) < (x0_2.length : Int) := dT
            obtain ⟨ad102, e102, hx102_0⟩ := Kd.at_int (Kd.R_reads' HO_0.out).2.2 (ji9) p102 q102
            obtain rfl : ad101 = ad102 := (by injection e102)
            replace p102 := eq_true p102
            replace q102 := eq_true q102
            refine start_ (n := 17) (S := fun w' => w'.cell? (ad101.add (x9_2).toNat) = some (.int .i64 (rd x0_2 x9_2)) ∧ w'.cell? (ad101.add ((ji9)).toNat) = some (.int .i64 (rd x0_2 (ji9)))) (ds := []) #[false, false, false, false, false, false, false, false, false, false, false, false, false, false, false, false, false] (by kernel_rfl) rfl rfl ⟨hx101_0, hx102_0⟩ (fun hHeld => ?_); refine with_tabW slices_insertionSortCmpFunc_int_at_tenter_Order_1_1.tab4 slices_insertionSortCmpFunc_int_at_tenter_Order_1_1.bits4 (fun HT_ HW_ => ?_)
            generalize wr.drew = w21 at HO_0 BK68 HK HB hx101_0 hx102_0 hHeld ⊢
            refine pu 0 18 ?_
            refine pu 1 19 ?_
            refine pu 2 20 ?_
            refine pu 3 21 ?_
            refine pu 4 22 ?_
            refine pu 5 23 ?_
            refine pu 6 24 ?_
            refine pu 7 25 ?_
            refine pu 9 27 ?_
            refine pu 10 28 ?_
            refine pu 11 29 ?_
            refine pu 12 30 ?_
            refine tk 8 26 hHeld ?_
            refine tk 13 31 hHeld ?_
            refine on 14 (fun K hK => ?_)
            refine goesV_ Tryz.func85 (by kernel_rfl) rfl #[.int .i64 (rd x0_2 x9_2), .int .i64 (rd x0_2 (ji9)), .pointer (some ⟨B68, 0, none⟩)] (by rfl) rfl rfl rfl (by (try simp only [List.map_toArray, List.map_cons, List.map_nil]); first | done | (simp only [hji9]; rfl) | rfl | (simp only [List.length_drop, List.length_take]; rfl)) ?_
            with_reducible refine (tenter_Order_1_1.calls (rd x0_2 x9_2) (rd x0_2 (ji9)) B68 A68_0 c68_0 l68_0 t103 _ ?side1 ?side2 ?side3 A12.out).mono ?_
            (case side1 => exact pB BK68.out)
            (case side2 => exact Kd.C_kept_now HR68_0.out (by repeat (first | (with_reducible first | exact HK.out | apply Kept.alloc | apply Kept.drewN | apply Kept.drew | refine Kept.setCell ?_ (.inr GW68.out) _) | exact HK.out)))
            (case side3 => exact HC68_0.out)
            rintro e w' ⟨rfl, ⟨nd, rfl⟩⟩
            refine ⟨_, rfl, ?_⟩
            refine hK.out _ _ ⟨hHeld.1, hHeld.2⟩ (fun hHeld => ?_)
            clear hK K
            refine norm_ (a' := ?_) ?_ ?_
            rotate_left
            ·show Act.put _ (some 32) _ = _
             simp only [Act.put, List.setIfInBounds_toArray, List.set_cons_zero, List.set_cons_succ, i64_w, i32_w]
             rfl
            refine pu 15 33 ?_
            refine pu 16 34 ?_
            refine done_ (done_of HT_.out (by kernel_rfl)) ?_
            try go_wp2
            go_roundg k2
            case measure => have := HK1.out; have := HK2.out; omega
            case rel => exact ⟨(x0_2), (wrap64 (x8_1 + 1)), (by first | rfl | (simp; done) | (simp [*]; done)), H', ⟨by have := HK1.out; have := HK2.out; omega⟩, ⟨by (with_reducible repeat (first | apply Kd.R_alloc | apply Kd.R_drewN | apply Kd.R_drew)); exact HO_0.out⟩, ⟨by (with_reducible repeat (first | refine blk_drewN ?_ _ | refine blk_drew ?_ | refine blk_alloc ?_ _)); exact BK68.out⟩, ⟨by repeat (first | (with_reducible first | exact HK.out | apply Kept.alloc | apply Kept.drewN | apply Kept.drew | refine Kept.setCell ?_ (.inr GW68.out) _) | exact HK.out)⟩, ⟨pE HB⟩⟩
          ·rw [if_neg c11] at H
           exact absurd H (by simp)
         ·rw [if_neg c10] at H
          exact absurd H (by simp)
        ·rw [if_neg c8] at H
         exact absurd H (by simp)
       ·rw [if_neg c7] at H
        exact absurd H (by simp)
      ·rw [if_neg c6] at H
       have c6b0 : decide (a1 < x9_2) = false := decide_eq_false c6
       clear c6
       have H' := Aside0.mk H
       clear H
       try go_wp2
       replace HO_0 := Aside0.mk (Kd.R_drew HO_0.out)
       replace BK68 := Aside0.mk (blk_drew BK68.out)
       replace HK := Aside0.mk (Kept.drew HK.out)
       replace HB := Aside0.mk (below_drew1 HB.out)
       refine start_ (n := 17) (S := fun w' => True) (ds := []) #[false, false, false, false, false, false, false, false, false, false, false, false, false, false, false, false, false] (by kernel_rfl) rfl rfl trivial (fun hHeld => ?_); refine with_tabW slices_insertionSortCmpFunc_int_at_tenter_Order_1_1.tab4 slices_insertionSortCmpFunc_int_at_tenter_Order_1_1.bits4 (fun HT_ HW_ => ?_)
       generalize wr.drew = w23 at HO_0 BK68 HK HB hHeld ⊢
       refine pu 0 18 ?_
       refine pu 1 19 ?_
       refine pu 2 20 ?_
       refine pu 3 21 ?_
       refine pd 4 22 ?_
       refine pd 5 23 ?_
       refine pd 6 24 ?_
       refine pd 7 25 ?_
       refine pd 8 26 ?_
       refine pd 9 27 ?_
       refine pd 10 28 ?_
       refine pd 11 29 ?_
       refine pd 12 30 ?_
       refine pd 13 31 ?_
       refine pd 14 32 ?_
       refine pd 15 33 ?_
       refine pu 16 34 ?_
       refine done_ (done_of HT_.out (by kernel_rfl)) ?_
       try go_wp2
       go_roundg k2
       case measure => have := HK1.out; have := HK2.out; omega
       case rel => exact ⟨(x0_2), (wrap64 (x8_1 + 1)), (by first | rfl | (simp; done) | (simp [*]; done)), H', ⟨by have := HK1.out; have := HK2.out; omega⟩, ⟨by (with_reducible repeat (first | apply Kd.R_alloc | apply Kd.R_drewN | apply Kd.R_drew)); exact HO_0.out⟩, ⟨by (with_reducible repeat (first | refine blk_drewN ?_ _ | refine blk_drew ?_ | refine blk_alloc ?_ _)); exact BK68.out⟩, ⟨by repeat (first | (with_reducible first | exact HK.out | apply Kept.alloc | apply Kept.drewN | apply Kept.drew | refine Kept.setCell ?_ (.inr GW68.out) _) | exact HK.out)⟩, ⟨pE HB⟩⟩
   ·rw [if_neg c5] at H
    have c5b0 : decide (x8_1 < a2) = false := decide_eq_false c5
    clear c5
    obtain rfl := Option.some.inj H
    go_wp2
    first | go_end0 | ((try simp only [Exit.inBlock, Exit.then]); refine bodyPost_ret (results_none rfl _ _ _) rfl ?_)
    exact ⟨eT, by (with_reducible repeat (first | apply Kd.R_alloc | apply Kd.R_drewN | apply Kd.R_drew)); exact HO_0.out, pE HB, by repeat (first | (with_reducible first | exact HK.out | apply Kept.alloc | apply Kept.drewN | apply Kept.drew | refine Kept.setCell ?_ (.inr GW68.out) _) | exact HK.out)⟩
def slices_pdqsortCmpFunc_int_at_tenter_Order_1_1.l0 : Nat → List Int → Int → Int → Int → Bool → List Int → Option (List Int)
  | 0, _, _, _, _, _, _ => none
  | k + 1, x0, x1, x2, x3, x10, x75000 => if (wrap64 (x2 - x1)) ≤ 12 then ((slices_insertionSortCmpFunc_int_at_tenter_Order_1_1.f k x0 x1 x2 x75000).bind fun t101 => (some t101)) else (if x3 = 0 then (none) else (if x10 = true then (none) else (none)))
def slices_pdqsortCmpFunc_int_at_tenter_Order_1_1.f (k : Nat) (l0 : List Int) (a1 : Int) (a2 : Int) (a3 : Int) (l74_0 : List Int) : Option (List Int) := slices_pdqsortCmpFunc_int_at_tenter_Order_1_1.l0 k l0 a1 a2 a3 true l74_0
theorem slices_pdqsortCmpFunc_int_at_tenter_Order_1_1.mono_l : ∀ k, (∀ y0 y1 y2 y3 y4 y5, LeO (slices_pdqsortCmpFunc_int_at_tenter_Order_1_1.l0 k y0 y1 y2 y3 y4 y5) (slices_pdqsortCmpFunc_int_at_tenter_Order_1_1.l0 (k + 1) y0 y1 y2 y3 y4 y5))
  | 0 => fun _ _ _ _ _ _ r h => by simp [slices_pdqsortCmpFunc_int_at_tenter_Order_1_1.l0] at h
  | k + 1 => by
    have ih0 := slices_pdqsortCmpFunc_int_at_tenter_Order_1_1.mono_l k
    · intro y0 y1 y2 y3 y4 y5
      unfold slices_pdqsortCmpFunc_int_at_tenter_Order_1_1.l0
      repeat' first
      | (with_reducible exact ih0 _ _ _ _ _ _)
      | (with_reducible exact slices_insertionSortCmpFunc_int_at_tenter_Order_1_1.mono _ _ _ _ _)
      | (with_reducible exact LeO.refl _)
      | (with_reducible exact LeO.none _)
      | (with_reducible refine LeO.ite ?_ ?_)
      | (with_reducible refine LeO.bind ?_ (fun _ => ?_))
      | exact ih0 _ _ _ _ _ _
      | exact slices_insertionSortCmpFunc_int_at_tenter_Order_1_1.mono _ _ _ _ _
      | exact LeO.none _
      | refine LeO.ite ?_ ?_
      | refine LeO.bind ?_ (fun _ => ?_)
theorem slices_pdqsortCmpFunc_int_at_tenter_Order_1_1.mono : ∀ a0 a1 a2 a3 a4 k, LeO (slices_pdqsortCmpFunc_int_at_tenter_Order_1_1.f k a0 a1 a2 a3 a4) (slices_pdqsortCmpFunc_int_at_tenter_Order_1_1.f (k + 1) a0 a1 a2 a3 a4) := by
  intro a0 a1 a2 a3 a4 k
  have ih0 := slices_pdqsortCmpFunc_int_at_tenter_Order_1_1.mono_l k
  unfold slices_pdqsortCmpFunc_int_at_tenter_Order_1_1.f
  repeat' first
      | (with_reducible exact ih0 _ _ _ _ _ _)
      | (with_reducible exact slices_insertionSortCmpFunc_int_at_tenter_Order_1_1.mono _ _ _ _ _)
      | (with_reducible exact LeO.refl _)
      | (with_reducible exact LeO.none _)
      | (with_reducible refine LeO.ite ?_ ?_)
      | (with_reducible refine LeO.bind ?_ (fun _ => ?_))
      | exact ih0 _ _ _ _ _ _
      | exact slices_insertionSortCmpFunc_int_at_tenter_Order_1_1.mono _ _ _ _ _
      | exact LeO.none _
      | refine LeO.ite ?_ ?_
      | refine LeO.bind ?_ (fun _ => ?_)
set_option maxHeartbeats 8000000 in
set_option maxRecDepth 100000 in
theorem slices_pdqsortCmpFunc_int_at_tenter_Order_1_1.calls (k : Nat) (P0_ : Nat → Prop) (u9000_ : Value) (l0 : List Int) (a1 : Int) (a2 : Int) (a3 : Int) (B74 : Nat) (A74_0 : Option Addr) (c74_0 : Nat) (l74_0 : List Int) (r : List Int) (w0 w : World) (hB : Below w0.heap.size w0 w) (ho0 : Kd.R (Kd.int .i64) 3 w w0.heap.size P0_ u9000_ l0) (hb74 : w.heap[B74]? = some (.cells #[.slice A74_0 l74_0.length c74_0] 23 (0, 0))) (hr74_0 : ∀ W_, Kept w W_ (fun k_ => P0_ k_) → Kd.C (Kd.int .i64) W_ A74_0 l74_0.length l74_0) (hc74_0 : l74_0.length ≤ c74_0) (np0_74 : ¬ P0_ B74) (h : slices_pdqsortCmpFunc_int_at_tenter_Order_1_1.f k l0 a1 a2 a3 l74_0 = some r) :
    Calls Tryz.prog 102 #[u9000_, .int .i64 a1, .int .i64 a2, .int .i64 a3, .func (.func 85) #[] #[.pointer (some ⟨B74, 0, none⟩)]] w fun e w' => e = .returned (.tuple #[]) ∧ Kd.R (Kd.int .i64) 3 w' w0.heap.size (fun k_ => (P0_ k_ ∨ w.heap.size ≤ k_)) u9000_ r ∧ Below w0.heap.size w0 w' ∧ Kept w w' (fun k_ => P0_ k_) := by
  have HO0 := Aside0.mk (show Kd.R (Kd.int .i64) 3 w w0.heap.size (fun k_ => (P0_ k_ ∨ w.heap.size ≤ k_)) u9000_ l0 from Kd.R_mono ho0 (fun k_ hk => (.inl hk)))
  have HR74_0 := Aside0.mk hr74_0
  have HC74_0 := Aside0.mk hc74_0
  clear hr74_0 hc74_0
  have GL74 := Aside0.mk (blk_lt hb74)
  have NP74 := Aside0.mk np0_74
  clear np0_74
  have BK74 := Aside0.mk hb74
  clear hb74
  have HK := Aside0.mk (Kept.refl w (fun k_ => P0_ k_))
  have HW0 := Aside0.mk hB.size
  have HB := Aside0.mk hB
  clear hB
  have H : (slices_pdqsortCmpFunc_int_at_tenter_Order_1_1.l0 k l0 a1 a2 a3 true l74_0) = some r := h
  clear h
  have H' := Aside0.mk H
  clear H
  go_enter Tryz.func102, Tryz.ntmps102
  go_wp2
  (try simp only [Act.put, List.setIfInBounds_toArray, List.set_cons_zero, List.set_cons_succ])
  go_loopg [1, 2, 3, 10] k (fun kq v1 v2 v3 v10 w' => ∃ (x0_1 : List Int) (x1_1 : Int) (x2_1 : Int) (x3_1 : Int) (x10_1 : Bool), v1 = .int .i64 x1_1 ∧ v2 = .int .i64 x2_1 ∧ v3 = .int .i64 x3_1 ∧ v10 = .bool x10_1 ∧ Aside0 (slices_pdqsortCmpFunc_int_at_tenter_Order_1_1.l0 kq x0_1 x1_1 x2_1 x3_1 x10_1 l74_0 = some r) ∧ Aside0 (kq ≤ k) ∧ Aside0 (Kd.R (Kd.int .i64) 3 w' w0.heap.size (fun k_ => (P0_ k_ ∨ w.heap.size ≤ k_)) u9000_ x0_1) ∧ Aside0 (w'.heap[B74]? = some (.cells #[(.slice A74_0 l74_0.length c74_0)] 23 (0, 0))) ∧ Aside0 (Kept w w' (fun k_ => P0_ k_)) ∧ Aside0 (Below w0.heap.size w0 w'))
  case atStart => exact ⟨(l0), (a1), (a2), (a3), (true), (by first | rfl | (simp; done) | (simp [*]; done)), (by first | rfl | (simp; done) | (simp [*]; done)), (by first | rfl | (simp; done) | (simp [*]; done)), (by first | rfl | (simp; done) | (simp [*]; done)), H', ⟨Nat.le_refl _⟩, ⟨by (with_reducible repeat (first | apply Kd.R_alloc | apply Kd.R_drewN | apply Kd.R_drew)); exact HO0.out⟩, ⟨by (with_reducible repeat (first | refine blk_drewN ?_ _ | refine blk_drew ?_ | refine blk_alloc ?_ _)); exact BK74.out⟩, ⟨by repeat (first | (with_reducible first | exact HK.out | apply Kept.alloc | apply Kept.drewN | apply Kept.drew | refine Kept.setCell ?_ (.inr GW74.out) _) | exact HK.out)⟩, ⟨by repeat (first | (with_reducible first | exact HB.out | apply below_alloc | apply pw_below_drewN | apply below_drew1 | refine below_set ?_ GE74.out) | exact HB.out)⟩⟩
  case round =>
    clear H'
    try clear p2
    obtain ⟨x0_1, x1_1, x2_1, x3_1, x10_1, rfl, rfl, rfl, rfl, HA, HK1, HO_0, BK74, HK, HB⟩ := hrel
    cases gk with
    | zero => exact absurd HA.out (by simp [slices_pdqsortCmpFunc_int_at_tenter_Order_1_1.l0])
    | succ k1 =>
      have H := HA.out
      clear HA
      simp only [slices_pdqsortCmpFunc_int_at_tenter_Order_1_1.l0] at H
      by_cases c6 : (wrap64 (x2_1 - x1_1)) ≤ 12
      · rw [if_pos c6] at H
        have c6b0 : decide ((wrap64 (x2_1 - x1_1)) ≤ 12) = true := decide_eq_true c6
        clear c6
        replace H := Option.bind_eq_some_iff.mp H
        obtain ⟨t101, A70, H⟩ := H
        replace H : (some t101) = some r := H
        have A7 := Aside0.mk A70
        clear A70
        obtain rfl := Option.some.inj H
        obtain ⟨Ao8, co8, eo8⟩ := Kd.R_slice HO_0.out
        subst eo8
        go_wp2_with (first | ((with_reducible refine gate_callee (f := 122) rfl ?_); refine goesL_ (some 30) rfl rfl Tryz.func122 (by kernel_rfl) rfl #[.slice Ao8 x0_1.length co8, .int .i64 x1_1, .int .i64 x2_1, .func (.func 85) #[] #[.pointer (some ⟨B74, 0, none⟩)]] rfl (by (try simp only [List.map_toArray, List.map_cons, List.map_nil]); first | done | rfl | (simp only [List.length_drop, List.length_take]; rfl)) ?_; (with_reducible refine (slices_insertionSortCmpFunc_int_at_tenter_Order_1_1.calls k1 (fun k_ => some k_ = (.slice Ao8 x0_1.length co8 : Value).ownBlock) (.slice Ao8 x0_1.length co8) x0_1 x1_1 x2_1 B74 A74_0 c74_0 l74_0 t101 w0 _ ?side1 ?side2 ?side3 ?side4 ?side5 ?side6 A7.out).mono ?_); (case side1 => repeat (first | (with_reducible first | exact HB.out | apply below_alloc | apply pw_below_drewN | apply below_drew1 | refine below_set ?_ GE74.out) | exact HB.out)); (case side2 => exact Kd.R_tight rfl HO_0.out); (case side3 => exact by (with_reducible repeat (first | refine blk_drewN ?_ _ | refine blk_drew ?_ | refine blk_alloc ?_ _)); exact BK74.out); (case side4 => exact Kd.C_kept_call HR74_0.out (by repeat (first | (with_reducible first | exact HK.out | apply Kept.alloc | apply Kept.drewN | apply Kept.drew | refine Kept.setCell ?_ (.inr GW74.out) _) | exact HK.out)) (fun k_ hs_ => (fun e_ => (HO_0.out.1 k_ e_.symm)) hs_)); (case side5 => exact HC74_0.out); (case side6 => exact Kd.R_ne HO_0.out BK74.out (by decide)); rintro e w9 ⟨rfl, hy0, hb, hkp⟩; refine ⟨_, rfl, ?_⟩; have n0_ := Aside0.mk (Kd.R_reok rfl hy0 (fun k_ e_ => HO_0.out.1 k_ e_)); have n1_ := Aside0.mk (blk_kept (by (with_reducible repeat (first | refine blk_drewN ?_ _ | refine blk_drew ?_ | refine blk_alloc ?_ _)); exact BK74.out) hkp (fun hs_ => (fun e_ => (Kd.R_ne HO_0.out BK74.out (by decide)) e_) hs_)); have n2_ := Aside0.mk (Kept.then_ (S := (fun k_ => P0_ k_)) (by repeat (first | (with_reducible first | exact HK.out | apply Kept.alloc | apply Kept.drewN | apply Kept.drew | refine Kept.setCell ?_ (.inr GW74.out) _) | exact HK.out)) hkp (fun k_ hs_ => (fun e_ => (HO_0.out.1 k_ e_.symm)) hs_)); have n3_ := Aside0.mk (hb); clear HO_0; clear BK74; clear HK; clear HB; have HO_0 := n0_; have BK74 := n1_; have HK := n2_; have HB := n3_; clear n0_ n1_ n2_ n3_; (try clear hb); (try clear hkp); (try clear hy0)))
        first | go_end0 | ((try simp only [Exit.inBlock, Exit.then]); refine bodyPost_ret (results_none rfl _ _ _) rfl ?_)
        exact ⟨by first | rfl | (simp [errW_none, errW_some] <;> rfl) | (simp [*, errW_none, errW_some] <;> rfl), by (with_reducible repeat (first | apply Kd.R_alloc | apply Kd.R_drewN | apply Kd.R_drew)); exact HO_0.out, by repeat (first | (with_reducible first | exact HB.out | apply below_alloc | apply pw_below_drewN | apply below_drew1 | refine below_set ?_ GE74.out) | exact HB.out), by repeat (first | (with_reducible first | exact HK.out | apply Kept.alloc | apply Kept.drewN | apply Kept.drew | refine Kept.setCell ?_ (.inr GW74.out) _) | exact HK.out)⟩
      · rw [if_neg c6] at H
        have c6b0 : decide ((wrap64 (x2_1 - x1_1)) ≤ 12) = false := decide_eq_false c6
        clear c6
        by_cases c10 : x3_1 = 0
        · rw [if_pos c10] at H
          exact absurd H (by simp)
        · rw [if_neg c10] at H
          have c10b0 : (x3_1 == 0) = false := beq_eq_false_iff_ne.mpr c10
          have c10b1 : (x3_1 != 0) = true := bne_iff_ne.mpr c10
          by_cases c11 : x10_1 = true
          · subst c11
            have H1 : (none) = some r := by rw [if_pos rfl] at H; exact H
            clear H
            have H := H1
            clear H1
            exact absurd H (by simp)
          · replace c11 := Bool.eq_false_iff.mpr c11
            subst c11
            have H1 : (none) = some r := by rw [if_neg (show ¬ (false = true) by decide)] at H; exact H
            clear H
            have H := H1
            clear H1
            exact absurd H (by simp)
def bits_Len64.j0 : Nat → Int → Int → Option (Int)
  | 0, _, _ => none
  | k + 1, x0, x2 => if x0 ≥ 65536 then (if (x0 / 65536) ≥ 256 then (if 0 ≤ (((x0 / 65536) / 256) % 256) then (if (((x0 / 65536) / 256) % 256) < 256 then (some (wrap64 ((wrap64 ((wrap64 (x2 + 16)) + 8)) + (wrap64 (bt (⟨#[0, 1, 2, 2, 3, 3, 3, 3, 4, 4, 4, 4, 4, 4, 4, 4, 5, 5, 5, 5, 5, 5, 5, 5, 5, 5, 5, 5, 5, 5, 5, 5, 6, 6, 6, 6, 6, 6, 6, 6, 6, 6, 6, 6, 6, 6, 6, 6, 6, 6, 6, 6, 6, 6, 6, 6, 6, 6, 6, 6, 6, 6, 6, 6, 7, 7, 7, 7, 7, 7, 7, 7, 7, 7, 7, 7, 7, 7, 7, 7, 7, 7, 7, 7, 7, 7, 7, 7, 7, 7, 7, 7, 7, 7, 7, 7, 7, 7, 7, 7, 7, 7, 7, 7, 7, 7, 7, 7, 7, 7, 7, 7, 7, 7, 7, 7, 7, 7, 7, 7, 7, 7, 7, 7, 7, 7, 7, 7, 8, 8, 8, 8, 8, 8, 8, 8, 8, 8, 8, 8, 8, 8, 8, 8, 8, 8, 8, 8, 8, 8, 8, 8, 8, 8, 8, 8, 8, 8, 8, 8, 8, 8, 8, 8, 8, 8, 8, 8, 8, 8, 8, 8, 8, 8, 8, 8, 8, 8, 8, 8, 8, 8, 8, 8, 8, 8, 8, 8, 8, 8, 8, 8, 8, 8, 8, 8, 8, 8, 8, 8, 8, 8, 8, 8, 8, 8, 8, 8, 8, 8, 8, 8, 8, 8, 8, 8, 8, 8, 8, 8, 8, 8, 8, 8, 8, 8, 8, 8, 8, 8, 8, 8, 8, 8, 8, 8, 8, 8, 8, 8, 8, 8, 8, 8, 8, 8, 8, 8, 8, 8, 8, 8, 8, 8, 8, 8]⟩ : ByteArray) (((x0 / 65536) / 256) % 256)))))) else (none)) else (none)) else (if 0 ≤ ((x0 / 65536) % 256) then (if ((x0 / 65536) % 256) < 256 then (some (wrap64 ((wrap64 (x2 + 16)) + (wrap64 (bt (⟨#[0, 1, 2, 2, 3, 3, 3, 3, 4, 4, 4, 4, 4, 4, 4, 4, 5, 5, 5, 5, 5, 5, 5, 5, 5, 5, 5, 5, 5, 5, 5, 5, 6, 6, 6, 6, 6, 6, 6, 6, 6, 6, 6, 6, 6, 6, 6, 6, 6, 6, 6, 6, 6, 6, 6, 6, 6, 6, 6, 6, 6, 6, 6, 6, 7, 7, 7, 7, 7, 7, 7, 7, 7, 7, 7, 7, 7, 7, 7, 7, 7, 7, 7, 7, 7, 7, 7, 7, 7, 7, 7, 7, 7, 7, 7, 7, 7, 7, 7, 7, 7, 7, 7, 7, 7, 7, 7, 7, 7, 7, 7, 7, 7, 7, 7, 7, 7, 7, 7, 7, 7, 7, 7, 7, 7, 7, 7, 7, 8, 8, 8, 8, 8, 8, 8, 8, 8, 8, 8, 8, 8, 8, 8, 8, 8, 8, 8, 8, 8, 8, 8, 8, 8, 8, 8, 8, 8, 8, 8, 8, 8, 8, 8, 8, 8, 8, 8, 8, 8, 8, 8, 8, 8, 8, 8, 8, 8, 8, 8, 8, 8, 8, 8, 8, 8, 8, 8, 8, 8, 8, 8, 8, 8, 8, 8, 8, 8, 8, 8, 8, 8, 8, 8, 8, 8, 8, 8, 8, 8, 8, 8, 8, 8, 8, 8, 8, 8, 8, 8, 8, 8, 8, 8, 8, 8, 8, 8, 8, 8, 8, 8, 8, 8, 8, 8, 8, 8, 8, 8, 8, 8, 8, 8, 8, 8, 8, 8, 8, 8, 8, 8, 8, 8, 8, 8, 8]⟩ : ByteArray) ((x0 / 65536) % 256)))))) else (none)) else (none))) else (if x0 ≥ 256 then (if 0 ≤ ((x0 / 256) % 256) then (if ((x0 / 256) % 256) < 256 then (some (wrap64 ((wrap64 (x2 + 8)) + (wrap64 (bt (⟨#[0, 1, 2, 2, 3, 3, 3, 3, 4, 4, 4, 4, 4, 4, 4, 4, 5, 5, 5, 5, 5, 5, 5, 5, 5, 5, 5, 5, 5, 5, 5, 5, 6, 6, 6, 6, 6, 6, 6, 6, 6, 6, 6, 6, 6, 6, 6, 6, 6, 6, 6, 6, 6, 6, 6, 6, 6, 6, 6, 6, 6, 6, 6, 6, 7, 7, 7, 7, 7, 7, 7, 7, 7, 7, 7, 7, 7, 7, 7, 7, 7, 7, 7, 7, 7, 7, 7, 7, 7, 7, 7, 7, 7, 7, 7, 7, 7, 7, 7, 7, 7, 7, 7, 7, 7, 7, 7, 7, 7, 7, 7, 7, 7, 7, 7, 7, 7, 7, 7, 7, 7, 7, 7, 7, 7, 7, 7, 7, 8, 8, 8, 8, 8, 8, 8, 8, 8, 8, 8, 8, 8, 8, 8, 8, 8, 8, 8, 8, 8, 8, 8, 8, 8, 8, 8, 8, 8, 8, 8, 8, 8, 8, 8, 8, 8, 8, 8, 8, 8, 8, 8, 8, 8, 8, 8, 8, 8, 8, 8, 8, 8, 8, 8, 8, 8, 8, 8, 8, 8, 8, 8, 8, 8, 8, 8, 8, 8, 8, 8, 8, 8, 8, 8, 8, 8, 8, 8, 8, 8, 8, 8, 8, 8, 8, 8, 8, 8, 8, 8, 8, 8, 8, 8, 8, 8, 8, 8, 8, 8, 8, 8, 8, 8, 8, 8, 8, 8, 8, 8, 8, 8, 8, 8, 8, 8, 8, 8, 8, 8, 8, 8, 8, 8, 8, 8, 8]⟩ : ByteArray) ((x0 / 256) % 256)))))) else (none)) else (none)) else (if 0 ≤ ((x0) % 256) then (if ((x0) % 256) < 256 then (some (wrap64 (x2 + (wrap64 (bt (⟨#[0, 1, 2, 2, 3, 3, 3, 3, 4, 4, 4, 4, 4, 4, 4, 4, 5, 5, 5, 5, 5, 5, 5, 5, 5, 5, 5, 5, 5, 5, 5, 5, 6, 6, 6, 6, 6, 6, 6, 6, 6, 6, 6, 6, 6, 6, 6, 6, 6, 6, 6, 6, 6, 6, 6, 6, 6, 6, 6, 6, 6, 6, 6, 6, 7, 7, 7, 7, 7, 7, 7, 7, 7, 7, 7, 7, 7, 7, 7, 7, 7, 7, 7, 7, 7, 7, 7, 7, 7, 7, 7, 7, 7, 7, 7, 7, 7, 7, 7, 7, 7, 7, 7, 7, 7, 7, 7, 7, 7, 7, 7, 7, 7, 7, 7, 7, 7, 7, 7, 7, 7, 7, 7, 7, 7, 7, 7, 7, 8, 8, 8, 8, 8, 8, 8, 8, 8, 8, 8, 8, 8, 8, 8, 8, 8, 8, 8, 8, 8, 8, 8, 8, 8, 8, 8, 8, 8, 8, 8, 8, 8, 8, 8, 8, 8, 8, 8, 8, 8, 8, 8, 8, 8, 8, 8, 8, 8, 8, 8, 8, 8, 8, 8, 8, 8, 8, 8, 8, 8, 8, 8, 8, 8, 8, 8, 8, 8, 8, 8, 8, 8, 8, 8, 8, 8, 8, 8, 8, 8, 8, 8, 8, 8, 8, 8, 8, 8, 8, 8, 8, 8, 8, 8, 8, 8, 8, 8, 8, 8, 8, 8, 8, 8, 8, 8, 8, 8, 8, 8, 8, 8, 8, 8, 8, 8, 8, 8, 8, 8, 8, 8, 8, 8, 8, 8, 8]⟩ : ByteArray) ((x0) % 256)))))) else (none)) else (none)))
def bits_Len64.f (k : Nat) (a0 : Int) : Option (Int) := if a0 ≥ 4294967296 then (bits_Len64.j0 k (a0 / 4294967296) 32) else (bits_Len64.j0 k a0 0)
theorem bits_Len64.mono_l : ∀ k, (∀ y0 y1, LeO (bits_Len64.j0 k y0 y1) (bits_Len64.j0 (k + 1) y0 y1))
  | 0 => fun _ _ r h => by simp [bits_Len64.j0] at h
  | k + 1 => by
    have ih0 := bits_Len64.mono_l k
    · intro y0 y1
      unfold bits_Len64.j0
      repeat' first
      | (with_reducible exact ih0 _ _)
      | (with_reducible exact LeO.refl _)
      | (with_reducible exact LeO.none _)
      | (with_reducible refine LeO.ite ?_ ?_)
      | (with_reducible refine LeO.bind ?_ (fun _ => ?_))
      | exact ih0 _ _
      | exact LeO.none _
      | refine LeO.ite ?_ ?_
      | refine LeO.bind ?_ (fun _ => ?_)
theorem bits_Len64.mono : ∀ a0 k, LeO (bits_Len64.f k a0) (bits_Len64.f (k + 1) a0) := by
  intro a0 k
  have ih0 := bits_Len64.mono_l k
  unfold bits_Len64.f
  repeat' first
      | (with_reducible exact ih0 _ _)
      | (with_reducible exact LeO.refl _)
      | (with_reducible exact LeO.none _)
      | (with_reducible refine LeO.ite ?_ ?_)
      | (with_reducible refine LeO.bind ?_ (fun _ => ?_))
      | exact ih0 _ _
      | exact LeO.none _
      | refine LeO.ite ?_ ?_
      | refine LeO.bind ?_ (fun _ => ?_)
set_option maxHeartbeats 8000000 in
set_option maxRecDepth 100000 in
theorem bits_Len64.calls (k : Nat) (a0 : Int) (r : Int) (w : World) (h : bits_Len64.f k a0 = some r) :
    Calls Tryz.prog 120 #[.int .u64 a0] w fun e w' => e = .returned (.int .i64 r) ∧ Drawn0 w w' := by
  have H : (if a0 ≥ 4294967296 then (bits_Len64.j0 k (a0 / 4294967296) 32) else (bits_Len64.j0 k a0 0)) = some r := h
  clear h
  have HC2 := Aside0.mk H
  clear H
  go_enter Tryz.func120, Tryz.ntmps120
  go_upto_if 4 with (fail)
  go_cut [0, 2] (fun v0 v2 wc => ∃ (kq : Nat) (x0_1 : Int) (x2_1 : Int), v0 = .int .u64 x0_1 ∧ v2 = .int .i64 x2_1 ∧ Aside0 (bits_Len64.j0 kq x0_1 x2_1 = some r) ∧ Aside0 (kq ≤ k) ∧ Drawn0 w wc)
  case first =>
    have H := HC2.out
    clear HC2
    by_cases c3 : a0 ≥ 4294967296
    · rw [if_pos c3] at H
      have c3b0 : decide (4294967296 ≤ a0) = true := decide_eq_true c3
      clear c3
      (first | rw [c3b0] | (simp only [i64_w, i32_w]; rw [c3b0]) | skip)
      have H' := Aside0.mk H
      clear H
      go_wp2
      go_meet
      case rel => exact ⟨_, (a0 / 4294967296), (32), (by first | rfl | (simp; done) | (simp [*]; done)), (by first | rfl | (simp; done) | (simp [*]; done)), H', ⟨by first | omega | exact Nat.le_refl _⟩, by repeat (first | exact Drawn0.refl _ | apply Drawn0.step)⟩
    · rw [if_neg c3] at H
      have c3b0 : decide (4294967296 ≤ a0) = false := decide_eq_false c3
      clear c3
      (first | rw [c3b0] | (simp only [i64_w, i32_w]; rw [c3b0]) | skip)
      have H' := Aside0.mk H
      clear H
      go_wp2
      go_meet
      case rel => exact ⟨_, (a0), (0), (by first | rfl | (simp; done) | (simp [*]; done)), (by first | rfl | (simp; done) | (simp [*]; done)), H', ⟨by first | omega | exact Nat.le_refl _⟩, by repeat (first | exact Drawn0.refl _ | apply Drawn0.step)⟩
  case rest =>
    clear HC2
    try clear c1
    try clear p2
    try clear c3
    try clear c3b0
    obtain ⟨kq, x0_1, x2_1, rfl, rfl, HA, HJ1, ⟨mc1, rfl⟩⟩ := hcut
    cases kq with
    | zero => exact absurd HA.out (by simp [bits_Len64.j0])
    | succ kj1 =>
      have H := HA.out
      clear HA
      simp only [bits_Len64.j0] at H
      by_cases c4 : x0_1 ≥ 65536
      · rw [if_pos c4] at H
        have c4b0 : decide (65536 ≤ x0_1) = true := decide_eq_true c4
        clear c4
        by_cases c5 : (x0_1 / 65536) ≥ 256
        · rw [if_pos c5] at H
          have c5b0 : decide (256 ≤ (x0_1 / 65536)) = true := decide_eq_true c5
          clear c5
          obtain ⟨ji6, hji6⟩ : ∃ j_ : Int, (((x0_1 / 65536) / 256) % 256) = j_ := ⟨_, rfl⟩
          replace H : (if 0 ≤ (ji6) then (if (ji6) < 256 then (some (wrap64 ((wrap64 ((wrap64 (x2_1 + 16)) + 8)) + (wrap64 (bt (⟨#[0, 1, 2, 2, 3, 3, 3, 3, 4, 4, 4, 4, 4, 4, 4, 4, 5, 5, 5, 5, 5, 5, 5, 5, 5, 5, 5, 5, 5, 5, 5, 5, 6, 6, 6, 6, 6, 6, 6, 6, 6, 6, 6, 6, 6, 6, 6, 6, 6, 6, 6, 6, 6, 6, 6, 6, 6, 6, 6, 6, 6, 6, 6, 6, 7, 7, 7, 7, 7, 7, 7, 7, 7, 7, 7, 7, 7, 7, 7, 7, 7, 7, 7, 7, 7, 7, 7, 7, 7, 7, 7, 7, 7, 7, 7, 7, 7, 7, 7, 7, 7, 7, 7, 7, 7, 7, 7, 7, 7, 7, 7, 7, 7, 7, 7, 7, 7, 7, 7, 7, 7, 7, 7, 7, 7, 7, 7, 7, 8, 8, 8, 8, 8, 8, 8, 8, 8, 8, 8, 8, 8, 8, 8, 8, 8, 8, 8, 8, 8, 8, 8, 8, 8, 8, 8, 8, 8, 8, 8, 8, 8, 8, 8, 8, 8, 8, 8, 8, 8, 8, 8, 8, 8, 8, 8, 8, 8, 8, 8, 8, 8, 8, 8, 8, 8, 8, 8, 8, 8, 8, 8, 8, 8, 8, 8, 8, 8, 8, 8, 8, 8, 8, 8, 8, 8, 8, 8, 8, 8, 8, 8, 8, 8, 8, 8, 8, 8, 8, 8, 8, 8, 8, 8, 8, 8, 8, 8, 8, 8, 8, 8, 8, 8, 8, 8, 8, 8, 8, 8, 8, 8, 8, 8, 8, 8, 8, 8, 8, 8, 8, 8, 8, 8, 8, 8, 8]⟩ : ByteArray) (ji6)))))) else (none)) else (none)) = some r := by first | (rw [hji6] at H; exact H) | (simp only [hji6] at H ⊢; exact H)
          by_cases c7 : 0 ≤ (ji6)
          · rw [if_pos c7] at H
            have c7b0 : decide (0 ≤ (ji6)) = true := decide_eq_true c7
            clear c7
            by_cases c8 : (ji6) < 256
            · rw [if_pos c8] at H
              have c8b0 : decide ((ji6) < 256) = true := decide_eq_true c8
              clear c8
              obtain rfl := Option.some.inj H
              have p9 : 0 ≤ ((ji6) : Int) := of_decide_eq_true (by first | (with_reducible assumption) | assumption)
              have q9 : (ji6) < (256 : Int) := of_decide_eq_true (by first | (with_reducible assumption) | assumption)
              have hx9 := bt_at (⟨#[0, 1, 2, 2, 3, 3, 3, 3, 4, 4, 4, 4, 4, 4, 4, 4, 5, 5, 5, 5, 5, 5, 5, 5, 5, 5, 5, 5, 5, 5, 5, 5, 6, 6, 6, 6, 6, 6, 6, 6, 6, 6, 6, 6, 6, 6, 6, 6, 6, 6, 6, 6, 6, 6, 6, 6, 6, 6, 6, 6, 6, 6, 6, 6, 7, 7, 7, 7, 7, 7, 7, 7, 7, 7, 7, 7, 7, 7, 7, 7, 7, 7, 7, 7, 7, 7, 7, 7, 7, 7, 7, 7, 7, 7, 7, 7, 7, 7, 7, 7, 7, 7, 7, 7, 7, 7, 7, 7, 7, 7, 7, 7, 7, 7, 7, 7, 7, 7, 7, 7, 7, 7, 7, 7, 7, 7, 7, 7, 8, 8, 8, 8, 8, 8, 8, 8, 8, 8, 8, 8, 8, 8, 8, 8, 8, 8, 8, 8, 8, 8, 8, 8, 8, 8, 8, 8, 8, 8, 8, 8, 8, 8, 8, 8, 8, 8, 8, 8, 8, 8, 8, 8, 8, 8, 8, 8, 8, 8, 8, 8, 8, 8, 8, 8, 8, 8, 8, 8, 8, 8, 8, 8, 8, 8, 8, 8, 8, 8, 8, 8, 8, 8, 8, 8, 8, 8, 8, 8, 8, 8, 8, 8, 8, 8, 8, 8, 8, 8, 8, 8, 8, 8, 8, 8, 8, 8, 8, 8, 8, 8, 8, 8, 8, 8, 8, 8, 8, 8, 8, 8, 8, 8, 8, 8, 8, 8, 8, 8, 8, 8, 8, 8, 8, 8, 8, 8]⟩ : ByteArray) (ji6)
              replace p9 := eq_true p9
              replace q9 := eq_true q9
              go_wp2
              go_ret
              exact ⟨by first | rfl | (simp; done) | (simp only [← hji6] <;> (first | rfl | simp)) | (simp [*]; done), by repeat (first | exact Drawn0.refl _ | apply Drawn0.step)⟩
            · rw [if_neg c8] at H
              exact absurd H (by simp)
          · rw [if_neg c7] at H
            exact absurd H (by simp)
        · rw [if_neg c5] at H
          have c5b0 : decide (256 ≤ (x0_1 / 65536)) = false := decide_eq_false c5
          clear c5
          obtain ⟨ji10, hji10⟩ : ∃ j_ : Int, ((x0_1 / 65536) % 256) = j_ := ⟨_, rfl⟩
          replace H : (if 0 ≤ (ji10) then (if (ji10) < 256 then (some (wrap64 ((wrap64 (x2_1 + 16)) + (wrap64 (bt (⟨#[0, 1, 2, 2, 3, 3, 3, 3, 4, 4, 4, 4, 4, 4, 4, 4, 5, 5, 5, 5, 5, 5, 5, 5, 5, 5, 5, 5, 5, 5, 5, 5, 6, 6, 6, 6, 6, 6, 6, 6, 6, 6, 6, 6, 6, 6, 6, 6, 6, 6, 6, 6, 6, 6, 6, 6, 6, 6, 6, 6, 6, 6, 6, 6, 7, 7, 7, 7, 7, 7, 7, 7, 7, 7, 7, 7, 7, 7, 7, 7, 7, 7, 7, 7, 7, 7, 7, 7, 7, 7, 7, 7, 7, 7, 7, 7, 7, 7, 7, 7, 7, 7, 7, 7, 7, 7, 7, 7, 7, 7, 7, 7, 7, 7, 7, 7, 7, 7, 7, 7, 7, 7, 7, 7, 7, 7, 7, 7, 8, 8, 8, 8, 8, 8, 8, 8, 8, 8, 8, 8, 8, 8, 8, 8, 8, 8, 8, 8, 8, 8, 8, 8, 8, 8, 8, 8, 8, 8, 8, 8, 8, 8, 8, 8, 8, 8, 8, 8, 8, 8, 8, 8, 8, 8, 8, 8, 8, 8, 8, 8, 8, 8, 8, 8, 8, 8, 8, 8, 8, 8, 8, 8, 8, 8, 8, 8, 8, 8, 8, 8, 8, 8, 8, 8, 8, 8, 8, 8, 8, 8, 8, 8, 8, 8, 8, 8, 8, 8, 8, 8, 8, 8, 8, 8, 8, 8, 8, 8, 8, 8, 8, 8, 8, 8, 8, 8, 8, 8, 8, 8, 8, 8, 8, 8, 8, 8, 8, 8, 8, 8, 8, 8, 8, 8, 8, 8]⟩ : ByteArray) (ji10)))))) else (none)) else (none)) = some r := by first | (rw [hji10] at H; exact H) | (simp only [hji10] at H ⊢; exact H)
          by_cases c11 : 0 ≤ (ji10)
          · rw [if_pos c11] at H
            have c11b0 : decide (0 ≤ (ji10)) = true := decide_eq_true c11
            clear c11
            by_cases c12 : (ji10) < 256
            · rw [if_pos c12] at H
              have c12b0 : decide ((ji10) < 256) = true := decide_eq_true c12
              clear c12
              obtain rfl := Option.some.inj H
              have p13 : 0 ≤ ((ji10) : Int) := of_decide_eq_true (by first | (with_reducible assumption) | assumption)
              have q13 : (ji10) < (256 : Int) := of_decide_eq_true (by first | (with_reducible assumption) | assumption)
              have hx13 := bt_at (⟨#[0, 1, 2, 2, 3, 3, 3, 3, 4, 4, 4, 4, 4, 4, 4, 4, 5, 5, 5, 5, 5, 5, 5, 5, 5, 5, 5, 5, 5, 5, 5, 5, 6, 6, 6, 6, 6, 6, 6, 6, 6, 6, 6, 6, 6, 6, 6, 6, 6, 6, 6, 6, 6, 6, 6, 6, 6, 6, 6, 6, 6, 6, 6, 6, 7, 7, 7, 7, 7, 7, 7, 7, 7, 7, 7, 7, 7, 7, 7, 7, 7, 7, 7, 7, 7, 7, 7, 7, 7, 7, 7, 7, 7, 7, 7, 7, 7, 7, 7, 7, 7, 7, 7, 7, 7, 7, 7, 7, 7, 7, 7, 7, 7, 7, 7, 7, 7, 7, 7, 7, 7, 7, 7, 7, 7, 7, 7, 7, 8, 8, 8, 8, 8, 8, 8, 8, 8, 8, 8, 8, 8, 8, 8, 8, 8, 8, 8, 8, 8, 8, 8, 8, 8, 8, 8, 8, 8, 8, 8, 8, 8, 8, 8, 8, 8, 8, 8, 8, 8, 8, 8, 8, 8, 8, 8, 8, 8, 8, 8, 8, 8, 8, 8, 8, 8, 8, 8, 8, 8, 8, 8, 8, 8, 8, 8, 8, 8, 8, 8, 8, 8, 8, 8, 8, 8, 8, 8, 8, 8, 8, 8, 8, 8, 8, 8, 8, 8, 8, 8, 8, 8, 8, 8, 8, 8, 8, 8, 8, 8, 8, 8, 8, 8, 8, 8, 8, 8, 8, 8, 8, 8, 8, 8, 8, 8, 8, 8, 8, 8, 8, 8, 8, 8, 8, 8, 8]⟩ : ByteArray) (ji10)
              replace p13 := eq_true p13
              replace q13 := eq_true q13
              go_wp2
              go_ret
              exact ⟨by first | rfl | (simp; done) | (simp only [← hji10] <;> (first | rfl | simp)) | (simp [*]; done), by repeat (first | exact Drawn0.refl _ | apply Drawn0.step)⟩
            · rw [if_neg c12] at H
              exact absurd H (by simp)
          · rw [if_neg c11] at H
            exact absurd H (by simp)
      · rw [if_neg c4] at H
        have c4b0 : decide (65536 ≤ x0_1) = false := decide_eq_false c4
        clear c4
        by_cases c14 : x0_1 ≥ 256
        · rw [if_pos c14] at H
          have c14b0 : decide (256 ≤ x0_1) = true := decide_eq_true c14
          clear c14
          obtain ⟨ji15, hji15⟩ : ∃ j_ : Int, ((x0_1 / 256) % 256) = j_ := ⟨_, rfl⟩
          replace H : (if 0 ≤ (ji15) then (if (ji15) < 256 then (some (wrap64 ((wrap64 (x2_1 + 8)) + (wrap64 (bt (⟨#[0, 1, 2, 2, 3, 3, 3, 3, 4, 4, 4, 4, 4, 4, 4, 4, 5, 5, 5, 5, 5, 5, 5, 5, 5, 5, 5, 5, 5, 5, 5, 5, 6, 6, 6, 6, 6, 6, 6, 6, 6, 6, 6, 6, 6, 6, 6, 6, 6, 6, 6, 6, 6, 6, 6, 6, 6, 6, 6, 6, 6, 6, 6, 6, 7, 7, 7, 7, 7, 7, 7, 7, 7, 7, 7, 7, 7, 7, 7, 7, 7, 7, 7, 7, 7, 7, 7, 7, 7, 7, 7, 7, 7, 7, 7, 7, 7, 7, 7, 7, 7, 7, 7, 7, 7, 7, 7, 7, 7, 7, 7, 7, 7, 7, 7, 7, 7, 7, 7, 7, 7, 7, 7, 7, 7, 7, 7, 7, 8, 8, 8, 8, 8, 8, 8, 8, 8, 8, 8, 8, 8, 8, 8, 8, 8, 8, 8, 8, 8, 8, 8, 8, 8, 8, 8, 8, 8, 8, 8, 8, 8, 8, 8, 8, 8, 8, 8, 8, 8, 8, 8, 8, 8, 8, 8, 8, 8, 8, 8, 8, 8, 8, 8, 8, 8, 8, 8, 8, 8, 8, 8, 8, 8, 8, 8, 8, 8, 8, 8, 8, 8, 8, 8, 8, 8, 8, 8, 8, 8, 8, 8, 8, 8, 8, 8, 8, 8, 8, 8, 8, 8, 8, 8, 8, 8, 8, 8, 8, 8, 8, 8, 8, 8, 8, 8, 8, 8, 8, 8, 8, 8, 8, 8, 8, 8, 8, 8, 8, 8, 8, 8, 8, 8, 8, 8, 8]⟩ : ByteArray) (ji15)))))) else (none)) else (none)) = some r := by first | (rw [hji15] at H; exact H) | (simp only [hji15] at H ⊢; exact H)
          by_cases c16 : 0 ≤ (ji15)
          · rw [if_pos c16] at H
            have c16b0 : decide (0 ≤ (ji15)) = true := decide_eq_true c16
            clear c16
            by_cases c17 : (ji15) < 256
            · rw [if_pos c17] at H
              have c17b0 : decide ((ji15) < 256) = true := decide_eq_true c17
              clear c17
              obtain rfl := Option.some.inj H
              have p18 : 0 ≤ ((ji15) : Int) := of_decide_eq_true (by first | (with_reducible assumption) | assumption)
              have q18 : (ji15) < (256 : Int) := of_decide_eq_true (by first | (with_reducible assumption) | assumption)
              have hx18 := bt_at (⟨#[0, 1, 2, 2, 3, 3, 3, 3, 4, 4, 4, 4, 4, 4, 4, 4, 5, 5, 5, 5, 5, 5, 5, 5, 5, 5, 5, 5, 5, 5, 5, 5, 6, 6, 6, 6, 6, 6, 6, 6, 6, 6, 6, 6, 6, 6, 6, 6, 6, 6, 6, 6, 6, 6, 6, 6, 6, 6, 6, 6, 6, 6, 6, 6, 7, 7, 7, 7, 7, 7, 7, 7, 7, 7, 7, 7, 7, 7, 7, 7, 7, 7, 7, 7, 7, 7, 7, 7, 7, 7, 7, 7, 7, 7, 7, 7, 7, 7, 7, 7, 7, 7, 7, 7, 7, 7, 7, 7, 7, 7, 7, 7, 7, 7, 7, 7, 7, 7, 7, 7, 7, 7, 7, 7, 7, 7, 7, 7, 8, 8, 8, 8, 8, 8, 8, 8, 8, 8, 8, 8, 8, 8, 8, 8, 8, 8, 8, 8, 8, 8, 8, 8, 8, 8, 8, 8, 8, 8, 8, 8, 8, 8, 8, 8, 8, 8, 8, 8, 8, 8, 8, 8, 8, 8, 8, 8, 8, 8, 8, 8, 8, 8, 8, 8, 8, 8, 8, 8, 8, 8, 8, 8, 8, 8, 8, 8, 8, 8, 8, 8, 8, 8, 8, 8, 8, 8, 8, 8, 8, 8, 8, 8, 8, 8, 8, 8, 8, 8, 8, 8, 8, 8, 8, 8, 8, 8, 8, 8, 8, 8, 8, 8, 8, 8, 8, 8, 8, 8, 8, 8, 8, 8, 8, 8, 8, 8, 8, 8, 8, 8, 8, 8, 8, 8, 8, 8]⟩ : ByteArray) (ji15)
              replace p18 := eq_true p18
              replace q18 := eq_true q18
              go_wp2
              go_ret
              exact ⟨by first | rfl | (simp; done) | (simp only [← hji15] <;> (first | rfl | simp)) | (simp [*]; done), by repeat (first | exact Drawn0.refl _ | apply Drawn0.step)⟩
            · rw [if_neg c17] at H
              exact absurd H (by simp)
          · rw [if_neg c16] at H
            exact absurd H (by simp)
        · rw [if_neg c14] at H
          have c14b0 : decide (256 ≤ x0_1) = false := decide_eq_false c14
          clear c14
          obtain ⟨ji19, hji19⟩ : ∃ j_ : Int, ((x0_1) % 256) = j_ := ⟨_, rfl⟩
          replace H : (if 0 ≤ (ji19) then (if (ji19) < 256 then (some (wrap64 (x2_1 + (wrap64 (bt (⟨#[0, 1, 2, 2, 3, 3, 3, 3, 4, 4, 4, 4, 4, 4, 4, 4, 5, 5, 5, 5, 5, 5, 5, 5, 5, 5, 5, 5, 5, 5, 5, 5, 6, 6, 6, 6, 6, 6, 6, 6, 6, 6, 6, 6, 6, 6, 6, 6, 6, 6, 6, 6, 6, 6, 6, 6, 6, 6, 6, 6, 6, 6, 6, 6, 7, 7, 7, 7, 7, 7, 7, 7, 7, 7, 7, 7, 7, 7, 7, 7, 7, 7, 7, 7, 7, 7, 7, 7, 7, 7, 7, 7, 7, 7, 7, 7, 7, 7, 7, 7, 7, 7, 7, 7, 7, 7, 7, 7, 7, 7, 7, 7, 7, 7, 7, 7, 7, 7, 7, 7, 7, 7, 7, 7, 7, 7, 7, 7, 8, 8, 8, 8, 8, 8, 8, 8, 8, 8, 8, 8, 8, 8, 8, 8, 8, 8, 8, 8, 8, 8, 8, 8, 8, 8, 8, 8, 8, 8, 8, 8, 8, 8, 8, 8, 8, 8, 8, 8, 8, 8, 8, 8, 8, 8, 8, 8, 8, 8, 8, 8, 8, 8, 8, 8, 8, 8, 8, 8, 8, 8, 8, 8, 8, 8, 8, 8, 8, 8, 8, 8, 8, 8, 8, 8, 8, 8, 8, 8, 8, 8, 8, 8, 8, 8, 8, 8, 8, 8, 8, 8, 8, 8, 8, 8, 8, 8, 8, 8, 8, 8, 8, 8, 8, 8, 8, 8, 8, 8, 8, 8, 8, 8, 8, 8, 8, 8, 8, 8, 8, 8, 8, 8, 8, 8, 8, 8]⟩ : ByteArray) (ji19)))))) else (none)) else (none)) = some r := by first | (rw [hji19] at H; exact H) | (simp only [hji19] at H ⊢; exact H)
          by_cases c20 : 0 ≤ (ji19)
          · rw [if_pos c20] at H
            have c20b0 : decide (0 ≤ (ji19)) = true := decide_eq_true c20
            clear c20
            by_cases c21 : (ji19) < 256
            · rw [if_pos c21] at H
              have c21b0 : decide ((ji19) < 256) = true := decide_eq_true c21
              clear c21
              obtain rfl := Option.some.inj H
              have p22 : 0 ≤ ((ji19) : Int) := of_decide_eq_true (by first | (with_reducible assumption) | assumption)
              have q22 : (ji19) < (256 : Int) := of_decide_eq_true (by first | (with_reducible assumption) | assumption)
              have hx22 := bt_at (⟨#[0, 1, 2, 2, 3, 3, 3, 3, 4, 4, 4, 4, 4, 4, 4, 4, 5, 5, 5, 5, 5, 5, 5, 5, 5, 5, 5, 5, 5, 5, 5, 5, 6, 6, 6, 6, 6, 6, 6, 6, 6, 6, 6, 6, 6, 6, 6, 6, 6, 6, 6, 6, 6, 6, 6, 6, 6, 6, 6, 6, 6, 6, 6, 6, 7, 7, 7, 7, 7, 7, 7, 7, 7, 7, 7, 7, 7, 7, 7, 7, 7, 7, 7, 7, 7, 7, 7, 7, 7, 7, 7, 7, 7, 7, 7, 7, 7, 7, 7, 7, 7, 7, 7, 7, 7, 7, 7, 7, 7, 7, 7, 7, 7, 7, 7, 7, 7, 7, 7, 7, 7, 7, 7, 7, 7, 7, 7, 7, 8, 8, 8, 8, 8, 8, 8, 8, 8, 8, 8, 8, 8, 8, 8, 8, 8, 8, 8, 8, 8, 8, 8, 8, 8, 8, 8, 8, 8, 8, 8, 8, 8, 8, 8, 8, 8, 8, 8, 8, 8, 8, 8, 8, 8, 8, 8, 8, 8, 8, 8, 8, 8, 8, 8, 8, 8, 8, 8, 8, 8, 8, 8, 8, 8, 8, 8, 8, 8, 8, 8, 8, 8, 8, 8, 8, 8, 8, 8, 8, 8, 8, 8, 8, 8, 8, 8, 8, 8, 8, 8, 8, 8, 8, 8, 8, 8, 8, 8, 8, 8, 8, 8, 8, 8, 8, 8, 8, 8, 8, 8, 8, 8, 8, 8, 8, 8, 8, 8, 8, 8, 8, 8, 8, 8, 8, 8, 8]⟩ : ByteArray) (ji19)
              replace p22 := eq_true p22
              replace q22 := eq_true q22
              go_wp2
              go_ret
              exact ⟨by first | rfl | (simp; done) | (simp only [← hji19] <;> (first | rfl | simp)) | (simp [*]; done), by repeat (first | exact Drawn0.refl _ | apply Drawn0.step)⟩
            · rw [if_neg c21] at H
              exact absurd H (by simp)
          · rw [if_neg c20] at H
            exact absurd H (by simp)
def bits_Len.f (k : Nat) (a0 : Int) : Option (Int) := (bits_Len64.f k a0).bind fun t101 => (some t101)
theorem bits_Len.mono : ∀ a0 k, LeO (bits_Len.f k a0) (bits_Len.f (k + 1) a0) := by
  intro a0 k
  unfold bits_Len.f
  repeat' first
      | (with_reducible exact bits_Len64.mono _ _)
      | (with_reducible exact LeO.refl _)
      | (with_reducible exact LeO.none _)
      | (with_reducible refine LeO.ite ?_ ?_)
      | (with_reducible refine LeO.bind ?_ (fun _ => ?_))
      | exact bits_Len64.mono _ _
      | exact LeO.none _
      | refine LeO.ite ?_ ?_
      | refine LeO.bind ?_ (fun _ => ?_)
set_option maxHeartbeats 8000000 in
set_option maxRecDepth 100000 in
theorem bits_Len.calls (k : Nat) (a0 : Int) (r : Int) (w : World) (h : bits_Len.f k a0 = some r) :
    Calls Tryz.prog 95 #[.int .u64 a0] w fun e w' => e = .returned (.int .i64 r) ∧ Drawn0 w w' := by
  have H : ((bits_Len64.f k a0).bind fun t101 => (some t101)) = some r := h
  clear h
  replace H := Option.bind_eq_some_iff.mp H
  obtain ⟨t101, A20, H⟩ := H
  replace H : (some t101) = some r := H
  have A2 := Aside0.mk A20
  clear A20
  obtain rfl := Option.some.inj H
  go_enter Tryz.func95, Tryz.ntmps95
  go_wp2_with (first | ((with_reducible refine gate_callee (f := 120) rfl ?_); refine goesL_ (some 7) rfl rfl Tryz.func120 (by kernel_rfl) rfl #[.int .u64 a0] rfl (by (try simp only [List.map_toArray, List.map_cons, List.map_nil]); first | done | rfl | (simp only [List.length_drop, List.length_take]; rfl)) ?_; (with_reducible refine (bits_Len64.calls k a0 t101 _ A2.out).mono ?_); rintro e w' ⟨rfl, ⟨nd, rfl⟩⟩; refine ⟨_, rfl, ?_⟩))
  go_ret
  exact ⟨by first | rfl | (simp; done) | (simp [*]; done), by repeat (first | exact Drawn0.refl _ | apply Drawn0.step)⟩
def slices_SortFunc_int_int_at_tenter_Order_1_1.f (k : Nat) (l0 : List Int) (l56_0 : List Int) : Option (List Int) := (bits_Len.f k (IntKind.u64.wrap ((l0.length : Int)))).bind fun t101 => ((slices_pdqsortCmpFunc_int_at_tenter_Order_1_1.f k l0 0 (l0.length : Int) t101 l56_0).bind fun t102 => (some t102))
theorem slices_SortFunc_int_int_at_tenter_Order_1_1.mono : ∀ a0 a1 k, LeO (slices_SortFunc_int_int_at_tenter_Order_1_1.f k a0 a1) (slices_SortFunc_int_int_at_tenter_Order_1_1.f (k + 1) a0 a1) := by
  intro a0 a1 k
  unfold slices_SortFunc_int_int_at_tenter_Order_1_1.f
  repeat' first
      | (with_reducible exact bits_Len.mono _ _)
      | (with_reducible exact slices_pdqsortCmpFunc_int_at_tenter_Order_1_1.mono _ _ _ _ _ _)
      | (with_reducible exact LeO.refl _)
      | (with_reducible exact LeO.none _)
      | (with_reducible refine LeO.ite ?_ ?_)
      | (with_reducible refine LeO.bind ?_ (fun _ => ?_))
      | exact bits_Len.mono _ _
      | exact slices_pdqsortCmpFunc_int_at_tenter_Order_1_1.mono _ _ _ _ _ _
      | exact LeO.none _
      | refine LeO.ite ?_ ?_
      | refine LeO.bind ?_ (fun _ => ?_)
set_option maxHeartbeats 8000000 in
set_option maxRecDepth 100000 in
theorem slices_SortFunc_int_int_at_tenter_Order_1_1.calls (k : Nat) (P0_ : Nat → Prop) (u9000_ : Value) (l0 : List Int) (B56 : Nat) (A56_0 : Option Addr) (c56_0 : Nat) (l56_0 : List Int) (r : List Int) (w0 w : World) (hB : Below w0.heap.size w0 w) (ho0 : Kd.R (Kd.int .i64) 3 w w0.heap.size P0_ u9000_ l0) (hb56 : w.heap[B56]? = some (.cells #[.slice A56_0 l56_0.length c56_0] 23 (0, 0))) (hr56_0 : ∀ W_, Kept w W_ (fun k_ => P0_ k_) → Kd.C (Kd.int .i64) W_ A56_0 l56_0.length l56_0) (hc56_0 : l56_0.length ≤ c56_0) (np0_56 : ¬ P0_ B56) (h : slices_SortFunc_int_int_at_tenter_Order_1_1.f k l0 l56_0 = some r) :
    Calls Tryz.prog 84 #[u9000_, .func (.func 85) #[] #[.pointer (some ⟨B56, 0, none⟩)]] w fun e w' => e = .returned (.tuple #[]) ∧ Kd.R (Kd.int .i64) 3 w' w0.heap.size (fun k_ => (P0_ k_ ∨ w.heap.size ≤ k_)) u9000_ r ∧ Below w0.heap.size w0 w' ∧ Kept w w' (fun k_ => P0_ k_) := by
  have HO0 := Aside0.mk (show Kd.R (Kd.int .i64) 3 w w0.heap.size (fun k_ => (P0_ k_ ∨ w.heap.size ≤ k_)) u9000_ l0 from Kd.R_mono ho0 (fun k_ hk => (.inl hk)))
  have HR56_0 := Aside0.mk hr56_0
  have HC56_0 := Aside0.mk hc56_0
  clear hr56_0 hc56_0
  have GL56 := Aside0.mk (blk_lt hb56)
  have NP56 := Aside0.mk np0_56
  clear np0_56
  have BK56 := Aside0.mk hb56
  clear hb56
  have HK := Aside0.mk (Kept.refl w (fun k_ => P0_ k_))
  have HW0 := Aside0.mk hB.size
  have HB := Aside0.mk hB
  clear hB
  have H : ((bits_Len.f k (IntKind.u64.wrap ((l0.length : Int)))).bind fun t101 => ((slices_pdqsortCmpFunc_int_at_tenter_Order_1_1.f k l0 0 (l0.length : Int) t101 l56_0).bind fun t102 => (some t102))) = some r := h
  clear h
  replace H := Option.bind_eq_some_iff.mp H
  obtain ⟨t101, A30, H⟩ := H
  replace H : ((slices_pdqsortCmpFunc_int_at_tenter_Order_1_1.f k l0 0 (l0.length : Int) t101 l56_0).bind fun t102 => (some t102)) = some r := H
  have A3 := Aside0.mk A30
  clear A30
  replace H := Option.bind_eq_some_iff.mp H
  obtain ⟨t102, A40, H⟩ := H
  replace H : (some t102) = some r := H
  have A4 := Aside0.mk A40
  clear A40
  obtain rfl := Option.some.inj H
  obtain ⟨Ao5, co5, eo5⟩ := Kd.R_slice HO0.out
  subst eo5
  go_enter Tryz.func84, Tryz.ntmps84
  go_wp2_with (first | ((with_reducible refine gate_callee (f := 95) rfl ?_); refine goesL_ (some 11) rfl rfl Tryz.func95 (by kernel_rfl) rfl #[.int .u64 (IntKind.u64.wrap ((l0.length : Int)))] rfl (by (try simp only [List.map_toArray, List.map_cons, List.map_nil]); first | done | rfl | (simp only [List.length_drop, List.length_take]; rfl)) ?_; (with_reducible refine (bits_Len.calls k (IntKind.u64.wrap ((l0.length : Int))) t101 _ A3.out).mono ?_); rintro e w' ⟨rfl, ⟨nd, rfl⟩⟩; refine ⟨_, rfl, ?_⟩) | ((with_reducible refine gate_callee (f := 102) rfl ?_); refine goesL_ (some 13) rfl rfl Tryz.func102 (by kernel_rfl) rfl #[.slice Ao5 l0.length co5, .int .i64 0, .int .i64 (l0.length : Int), .int .i64 t101, .func (.func 85) #[] #[.pointer (some ⟨B56, 0, none⟩)]] rfl (by (try simp only [List.map_toArray, List.map_cons, List.map_nil]); first | done | rfl | (simp only [List.length_drop, List.length_take]; rfl)) ?_; (with_reducible refine (slices_pdqsortCmpFunc_int_at_tenter_Order_1_1.calls k (fun k_ => some k_ = (.slice Ao5 l0.length co5 : Value).ownBlock) (.slice Ao5 l0.length co5) l0 0 (l0.length : Int) t101 B56 A56_0 c56_0 l56_0 t102 w0 _ ?side1 ?side2 ?side3 ?side4 ?side5 ?side6 A4.out).mono ?_); (case side1 => repeat (first | (with_reducible first | exact HB.out | apply below_alloc | apply pw_below_drewN | apply below_drew1 | refine below_set ?_ GE56.out) | exact HB.out)); (case side2 => exact Kd.R_tight rfl HO0.out); (case side3 => exact by (with_reducible repeat (first | refine blk_drewN ?_ _ | refine blk_drew ?_ | refine blk_alloc ?_ _)); exact BK56.out); (case side4 => exact Kd.C_kept_call HR56_0.out (by repeat (first | (with_reducible first | exact HK.out | apply Kept.alloc | apply Kept.drewN | apply Kept.drew | refine Kept.setCell ?_ (.inr GW56.out) _) | exact HK.out)) (fun k_ hs_ => (fun e_ => (HO0.out.1 k_ e_.symm)) hs_)); (case side5 => exact HC56_0.out); (case side6 => exact Kd.R_ne HO0.out BK56.out (by decide)); rintro e w6 ⟨rfl, hy0, hb, hkp⟩; refine ⟨_, rfl, ?_⟩; have n0_ := Aside0.mk (blk_kept (by (with_reducible repeat (first | refine blk_drewN ?_ _ | refine blk_drew ?_ | refine blk_alloc ?_ _)); exact BK56.out) hkp (fun hs_ => (fun e_ => (Kd.R_ne HO0.out BK56.out (by decide)) e_) hs_)); have n1_ := Aside0.mk (Kd.R_reok rfl hy0 (fun k_ e_ => HO0.out.1 k_ e_)); have n2_ := Aside0.mk (Kept.then_ (S := (fun k_ => P0_ k_)) (by repeat (first | (with_reducible first | exact HK.out | apply Kept.alloc | apply Kept.drewN | apply Kept.drew | refine Kept.setCell ?_ (.inr GW56.out) _) | exact HK.out)) hkp (fun k_ hs_ => (fun e_ => (HO0.out.1 k_ e_.symm)) hs_)); have n3_ := Aside0.mk (hb); clear BK56; clear HO0; clear HK; clear HB; have BK56 := n0_; have HO0 := n1_; have HK := n2_; have HB := n3_; clear n0_ n1_ n2_ n3_; (try clear hb); (try clear hkp); (try clear hy0)))
  first | go_end0 | ((try simp only [Exit.inBlock, Exit.then]); refine bodyPost_ret (results_none rfl _ _ _) rfl ?_)
  exact ⟨by first | rfl | (simp [errW_none, errW_some] <;> rfl) | (simp [*, errW_none, errW_some] <;> rfl), by (with_reducible repeat (first | apply Kd.R_alloc | apply Kd.R_drewN | apply Kd.R_drew)); exact HO0.out, by repeat (first | (with_reducible first | exact HB.out | apply below_alloc | apply pw_below_drewN | apply below_drew1 | refine below_set ?_ GE56.out) | exact HB.out), by repeat (first | (with_reducible first | exact HK.out | apply Kept.alloc | apply Kept.drewN | apply Kept.drew | refine Kept.setCell ?_ (.inr GW56.out) _) | exact HK.out)⟩
def tenter_Order_1.l0 : Nat → Int → List Int → Int → Int → List Int → Option (Bool)
  | 0, _, _, _, _, _ => none
  | k + 1, x0, x14, x15, x16, x3000 => if x16 < x15 then (if 0 ≤ x16 then (if x16 < (x14.length : Int) then (if 0 ≤ (rd x14 x16) then (if (rd x14 x16) < (x3000.length : Int) then (if (rd x3000 (rd x14 x16)) < (wrap64 (x0 + x16)) then (some false) else (tenter_Order_1.l0 k x0 x14 x15 (wrap64 (x16 + 1)) x3000)) else (none)) else (none)) else (none)) else (none)) else (some true)
def tenter_Order_1.f (k : Nat) (a0 : Int) (l1 : List Int) (l2_0 : List Int) : Option (Bool) := (slices_Clone_int_int.f l1).bind fun t101 => ((slices_SortFunc_int_int_at_tenter_Order_1_1.f k t101 l2_0).bind fun t104 => (tenter_Order_1.l0 k a0 t104 (t101.length : Int) 0 l2_0))
theorem tenter_Order_1.mono_l : ∀ k, (∀ y0 y1 y2 y3 y4, LeO (tenter_Order_1.l0 k y0 y1 y2 y3 y4) (tenter_Order_1.l0 (k + 1) y0 y1 y2 y3 y4))
  | 0 => fun _ _ _ _ _ r h => by simp [tenter_Order_1.l0] at h
  | k + 1 => by
    have ih0 := tenter_Order_1.mono_l k
    · intro y0 y1 y2 y3 y4
      unfold tenter_Order_1.l0
      repeat' first
      | (with_reducible exact ih0 _ _ _ _ _)
      | (with_reducible exact slices_SortFunc_int_int_at_tenter_Order_1_1.mono _ _ _)
      | (with_reducible exact LeO.refl _)
      | (with_reducible exact LeO.none _)
      | (with_reducible refine LeO.ite ?_ ?_)
      | (with_reducible refine LeO.bind ?_ (fun _ => ?_))
      | exact ih0 _ _ _ _ _
      | exact slices_SortFunc_int_int_at_tenter_Order_1_1.mono _ _ _
      | exact LeO.none _
      | refine LeO.ite ?_ ?_
      | refine LeO.bind ?_ (fun _ => ?_)
theorem tenter_Order_1.mono : ∀ a0 a1 a2 k, LeO (tenter_Order_1.f k a0 a1 a2) (tenter_Order_1.f (k + 1) a0 a1 a2) := by
  intro a0 a1 a2 k
  have ih0 := tenter_Order_1.mono_l k
  unfold tenter_Order_1.f
  repeat' first
      | (with_reducible exact ih0 _ _ _ _ _)
      | (with_reducible exact slices_SortFunc_int_int_at_tenter_Order_1_1.mono _ _ _)
      | (with_reducible exact LeO.refl _)
      | (with_reducible exact LeO.none _)
      | (with_reducible refine LeO.ite ?_ ?_)
      | (with_reducible refine LeO.bind ?_ (fun _ => ?_))
      | exact ih0 _ _ _ _ _
      | exact slices_SortFunc_int_int_at_tenter_Order_1_1.mono _ _ _
      | exact LeO.none _
      | refine LeO.ite ?_ ?_
      | refine LeO.bind ?_ (fun _ => ?_)
set_option maxHeartbeats 8000000 in
set_option maxRecDepth 100000 in
theorem tenter_Order_1.calls (k : Nat) (a0 : Int) (A1 : Option Addr) (c1 : Nat) (l1 : List Int) (B2 : Nat) (A2_0 : Option Addr) (c2_0 : Nat) (l2_0 : List Int) (r : Bool) (w : World) (hr1 : Kd.C (Kd.int .i64) w A1 l1.length l1) (hc1 : l1.length ≤ c1) (hb2 : w.heap[B2]? = some (.cells #[.slice A2_0 l2_0.length c2_0] 23 (0, 0))) (hr2_0 : Kd.C (Kd.int .i64) w A2_0 l2_0.length l2_0) (hc2_0 : l2_0.length ≤ c2_0) (h : tenter_Order_1.f k a0 l1 l2_0 = some r) :
    Calls Tryz.prog 82 #[.int .i64 a0, .slice A1 l1.length c1, .pointer (some ⟨B2, 0, none⟩)] w fun e w' => e = .returned (.bool r) ∧ Below w.heap.size w w' := by
  have HR1 := Aside0.mk hr1
  have HC1 := Aside0.mk hc1
  clear hr1 hc1
  have HR2_0 := Aside0.mk hr2_0
  have HC2_0 := Aside0.mk hc2_0
  clear hr2_0 hc2_0
  have BK2 := Aside0.mk hb2
  clear hb2
  have HB := Aside0.mk (Below.refl w.heap.size w)
  have H : ((slices_Clone_int_int.f l1).bind fun t101 => ((slices_SortFunc_int_int_at_tenter_Order_1_1.f k t101 l2_0).bind fun t104 => (tenter_Order_1.l0 k a0 t104 (t101.length : Int) 0 l2_0))) = some r := h
  clear h
  replace H := Option.bind_eq_some_iff.mp H
  obtain ⟨t101, A40, H⟩ := H
  replace H : ((slices_SortFunc_int_int_at_tenter_Order_1_1.f k t101 l2_0).bind fun t104 => (tenter_Order_1.l0 k a0 t104 (t101.length : Int) 0 l2_0)) = some r := H
  have A4 := Aside0.mk A40
  clear A40
  replace H := Option.bind_eq_some_iff.mp H
  obtain ⟨t104, A50, H⟩ := H
  replace H : (tenter_Order_1.l0 k a0 t104 (t101.length : Int) 0 l2_0) = some r := H
  have A5 := Aside0.mk A50
  clear A50
  have H' := Aside0.mk H
  clear H
  go_enter Tryz.func82, Tryz.ntmps82
  go_wp2_with (first | ((with_reducible refine gate_callee (f := 83) rfl ?_); refine goesL_ (some 10) rfl rfl Tryz.func83 (by kernel_rfl) rfl #[.slice A1 l1.length c1] rfl (by (try simp only [List.map_toArray, List.map_cons, List.map_nil]); first | done | rfl | (simp only [List.length_drop, List.length_take]; rfl)) ?_; (with_reducible refine (slices_Clone_int_int.calls _ _ l1 t101 _ ?side1 ?side2 A4.out).mono ?_); (case side1 => repeat (first | exact HR1.out | (with_reducible refine Kd.C_alloc ?_ _) | (with_reducible refine Kd.C_drewN ?_ _) | (with_reducible refine Kd.C_drew ?_))); (case side2 => exact HC1.out); rintro e w6 ⟨v102, rfl, ho0, hb⟩; refine ⟨_, rfl, ?_⟩; have n0_ := Aside0.mk (Kd.R_lower ho0 (below_size (by repeat (first | (with_reducible first | exact HB.out | apply below_alloc | apply pw_below_drewN | apply below_drew1 | refine below_set ?_ GE2.out) | exact HB.out)))); have n1_ := Aside0.mk (blk_below (g := B2) (o := .cells #[.slice A2_0 l2_0.length c2_0] 23 (0, 0)) (by (with_reducible repeat (first | refine blk_drewN ?_ _ | refine blk_drew ?_ | refine blk_alloc ?_ _)); exact BK2.out) hb); have n2_ := Aside0.mk (below_step (by repeat (first | (with_reducible first | exact HB.out | apply below_alloc | apply pw_below_drewN | apply below_drew1 | refine below_set ?_ GE2.out) | exact HB.out)) hb); clear BK2; clear HB; have HO103 := n0_; have BK2 := n1_; have HB := n2_; clear n0_ n1_ n2_; (try clear hb); (try clear hb2); (try clear hk); (try clear hi); (try clear ho0); obtain ⟨Ao7, co7, eo7⟩ := Kd.R_slice HO103.out; subst eo7) | ((with_reducible refine gate_callee (f := 84) rfl ?_); refine goesL_ (some 13) rfl rfl Tryz.func84 (by kernel_rfl) rfl #[.slice Ao7 t101.length co7, .func (.func 85) #[] #[.pointer (some ⟨B2, 0, none⟩)]] rfl (by (try simp only [List.map_toArray, List.map_cons, List.map_nil]); first | done | rfl | (simp only [List.length_drop, List.length_take]; rfl)) ?_; (with_reducible refine (slices_SortFunc_int_int_at_tenter_Order_1_1.calls k (fun k_ => some k_ = (.slice Ao7 t101.length co7 : Value).ownBlock) (.slice Ao7 t101.length co7) t101 B2 A2_0 c2_0 l2_0 t104 w _ ?side1 ?side2 ?side3 ?side4 ?side5 ?side6 A5.out).mono ?_); (case side1 => repeat (first | (with_reducible first | exact HB.out | apply below_alloc | apply pw_below_drewN | apply below_drew1 | refine below_set ?_ GE2.out) | exact HB.out)); (case side2 => exact Kd.R_tight rfl HO103.out); (case side3 => exact by (with_reducible repeat (first | refine blk_drewN ?_ _ | refine blk_drew ?_ | refine blk_alloc ?_ _)); exact BK2.out); (case side4 => exact Kd.C_kept_came (Kd.heap_int .i64) HR2_0.out (by repeat (first | (with_reducible first | exact HB.out | apply below_alloc | apply pw_below_drewN | apply below_drew1 | refine below_set ?_ GE2.out) | exact HB.out)) (fun k_ hs_ => (fun e_ => Kd.R_base HO103.out k_ e_.symm) hs_)); (case side5 => exact HC2_0.out); (case side6 => exact Kd.R_ne HO103.out BK2.out (by decide)); rintro e w8 ⟨rfl, hy0, hb, hkp⟩; refine ⟨_, rfl, ?_⟩; have n0_ := Aside0.mk (blk_kept (by (with_reducible repeat (first | refine blk_drewN ?_ _ | refine blk_drew ?_ | refine blk_alloc ?_ _)); exact BK2.out) hkp (fun hs_ => (fun e_ => (Kd.R_ne HO103.out BK2.out (by decide)) e_) hs_)); have n1_ := Aside0.mk (Kd.R_reok rfl hy0 (fun k_ e_ => HO103.out.1 k_ e_)); have n2_ := Aside0.mk (hb); clear BK2; clear HO103; clear HB; have BK2 := n0_; have HO103 := n1_; have HB := n2_; clear n0_ n1_ n2_; (try clear hb); (try clear hkp); (try clear hy0)))
  go_loopg [16] k (fun kq v16 w' => ∃ (x16_1 : Int), v16 = .int .i64 x16_1 ∧ Aside0 (tenter_Order_1.l0 kq a0 t104 (t101.length : Int) x16_1 l2_0 = some r) ∧ Aside0 (kq ≤ k) ∧ Aside0 (Kd.R (Kd.int .i64) 3 w' w.heap.size (fun _ => True) (.slice Ao7 t101.length co7) t104) ∧ Aside0 (w'.heap[B2]? = some (.cells #[(.slice A2_0 l2_0.length c2_0)] 23 (0, 0))) ∧ Aside0 (Below w.heap.size w w'))
  case atStart => exact ⟨(0), (by first | rfl | (simp; done) | (simp [*]; done)), H', ⟨Nat.le_refl _⟩, ⟨by (with_reducible repeat (first | apply Kd.R_alloc | apply Kd.R_drewN | apply Kd.R_drew)); exact HO103.out⟩, ⟨by (with_reducible repeat (first | refine blk_drewN ?_ _ | refine blk_drew ?_ | refine blk_alloc ?_ _)); exact BK2.out⟩, ⟨by repeat (first | (with_reducible first | exact HB.out | apply below_alloc | apply pw_below_drewN | apply below_drew1 | refine below_set ?_ GE2.out) | exact HB.out)⟩⟩
  case round =>
    clear H'
    try clear c1
    try clear c2
    try clear p2
    try clear c7
    try clear c8
    obtain ⟨x16_1, rfl, HA, HK1, HO_14, BK2, HB⟩ := hrel
    have hl14_1 := (Kd.R_reads' HO_14.out).1
    rw [hl14_1] at HO_14
    (try simp only [hl14_1])
    (try simp only [hl14_1] at BK2)
    cases gk with
    | zero => exact absurd HA.out (by simp [tenter_Order_1.l0])
    | succ k1 =>
      have H := HA.out
      clear HA
      simp only [tenter_Order_1.l0] at H
      by_cases c9 : x16_1 < (t101.length : Int)
      · rw [if_pos c9] at H
        have c9b0 : decide (x16_1 < (t101.length : Int)) = true := decide_eq_true c9
        clear c9
        by_cases c10 : 0 ≤ x16_1
        · rw [if_pos c10] at H
          have c10b0 : decide (0 ≤ x16_1) = true := decide_eq_true c10
          clear c10
          by_cases c11 : x16_1 < (t104.length : Int)
          · rw [if_pos c11] at H
            have c11b0 : decide (x16_1 < (t104.length : Int)) = true := decide_eq_true c11
            clear c11
            by_cases c12 : 0 ≤ (rd t104 x16_1)
            · rw [if_pos c12] at H
              have c12b0 : decide (0 ≤ (rd t104 x16_1)) = true := decide_eq_true c12
              clear c12
              by_cases c13 : (rd t104 x16_1) < (l2_0.length : Int)
              · rw [if_pos c13] at H
                have c13b0 : decide ((rd t104 x16_1) < (l2_0.length : Int)) = true := decide_eq_true c13
                clear c13
                by_cases c14 : (rd l2_0 (rd t104 x16_1)) < (wrap64 (a0 + x16_1))
                · rw [if_pos c14] at H
                  have c14b0 : decide ((rd l2_0 (rd t104 x16_1)) < (wrap64 (a0 + x16_1))) = true := decide_eq_true c14
                  clear c14
                  obtain rfl := Option.some.inj H
                  have p105 : 0 ≤ (x16_1 : Int) := of_decide_eq_true (by first | (with_reducible assumption) | assumption)
                  have q105 : x16_1 < (t104.length : Int) := of_decide_eq_true (by first | (with_reducible assumption) | assumption)
                  obtain ⟨ad105, e105, hx105_0⟩ := Kd.at_int (Kd.R_reads' HO_14.out).2.2 x16_1 p105 q105
                  cases e105
                  replace p105 := eq_true p105
                  replace q105 := eq_true q105
                  have hcz15_0 : wr.cell? ⟨B2, 0, none⟩ = some (.slice A2_0 l2_0.length c2_0) := (blk_cell BK2.out 0).trans rfl
                  have hfz15_0 := blk_frozen BK2.out 0
                  have p106 : 0 ≤ ((rd t104 x16_1) : Int) := of_decide_eq_true (by first | (with_reducible assumption) | assumption)
                  have q106 : (rd t104 x16_1) < (l2_0.length : Int) := of_decide_eq_true (by first | (with_reducible assumption) | assumption)
                  obtain ⟨ad106, e106, hx106_0⟩ := Kd.at_int HR2_0.out (rd t104 x16_1) p106 q106
                  cases e106
                  replace hx106_0 := (HB.out.cell (World.block_lt_of_cell? w _ hx106_0)).trans hx106_0
                  replace p106 := eq_true p106
                  replace q106 := eq_true q106
                  go_wp2
                  go_ret
                  exact ⟨by first | rfl | (simp [errW_none, errW_some] <;> rfl) | (simp [*, errW_none, errW_some] <;> rfl), by repeat (first | (with_reducible first | exact HB.out | apply below_alloc | apply pw_below_drewN | apply below_drew1 | refine below_set ?_ GE2.out) | exact HB.out)⟩
                · rw [if_neg c14] at H
                  have c14b0 : decide ((rd l2_0 (rd t104 x16_1)) < (wrap64 (a0 + x16_1))) = false := decide_eq_false c14
                  clear c14
                  have H' := Aside0.mk H
                  clear H
                  have p105 : 0 ≤ (x16_1 : Int) := of_decide_eq_true (by first | (with_reducible assumption) | assumption)
                  have q105 : x16_1 < (t104.length : Int) := of_decide_eq_true (by first | (with_reducible assumption) | assumption)
                  obtain ⟨ad105, e105, hx105_0⟩ := Kd.at_int (Kd.R_reads' HO_14.out).2.2 x16_1 p105 q105
                  cases e105
                  replace p105 := eq_true p105
                  replace q105 := eq_true q105
                  have hcz16_0 : wr.cell? ⟨B2, 0, none⟩ = some (.slice A2_0 l2_0.length c2_0) := (blk_cell BK2.out 0).trans rfl
                  have hfz16_0 := blk_frozen BK2.out 0
                  have p106 : 0 ≤ ((rd t104 x16_1) : Int) := of_decide_eq_true (by first | (with_reducible assumption) | assumption)
                  have q106 : (rd t104 x16_1) < (l2_0.length : Int) := of_decide_eq_true (by first | (with_reducible assumption) | assumption)
                  obtain ⟨ad106, e106, hx106_0⟩ := Kd.at_int HR2_0.out (rd t104 x16_1) p106 q106
                  cases e106
                  replace hx106_0 := (HB.out.cell (World.block_lt_of_cell? w _ hx106_0)).trans hx106_0
                  replace p106 := eq_true p106
                  replace q106 := eq_true q106
                  go_wp2
                  (try simp only [← hl14_1])
                  go_roundg k1
                  case measure => have := HK1.out; omega
                  case rel => exact ⟨(wrap64 (x16_1 + 1)), (by first | rfl | (simp; done) | (simp [*]; done)), H', ⟨by have := HK1.out; omega⟩, ⟨by (try simp only [hl14_1]); (with_reducible repeat (first | apply Kd.R_alloc | apply Kd.R_drewN | apply Kd.R_drew)); exact HO_14.out⟩, ⟨by (try simp only [hl14_1]); (with_reducible repeat (first | refine blk_drewN ?_ _ | refine blk_drew ?_ | refine blk_alloc ?_ _)); exact BK2.out⟩, ⟨by repeat (first | (with_reducible first | exact HB.out | apply below_alloc | apply pw_below_drewN | apply below_drew1 | refine below_set ?_ GE2.out) | exact HB.out)⟩⟩
              · rw [if_neg c13] at H
                exact absurd H (by simp)
            · rw [if_neg c12] at H
              exact absurd H (by simp)
          · rw [if_neg c11] at H
            exact absurd H (by simp)
        · rw [if_neg c10] at H
          exact absurd H (by simp)
      · rw [if_neg c9] at H
        have c9b0 : decide (x16_1 < (t101.length : Int)) = false := decide_eq_false c9
        have c9b9 : decide (x16_1 < (t104.length : Int)) = false := by first | (rw [hl14_1] at c9b0; exact c9b0) | (rw [← hl14_1] at c9b0; exact c9b0) | (rw [hl14_1]; exact c9b0) | (rw [← hl14_1]; exact c9b0)
        clear c9
        obtain rfl := Option.some.inj H
        go_wp2
        go_ret
        exact ⟨by first | rfl | (simp [errW_none, errW_some] <;> rfl) | (simp [*, errW_none, errW_some] <;> rfl), by repeat (first | (with_reducible first | exact HB.out | apply below_alloc | apply pw_below_drewN | apply below_drew1 | refine below_set ?_ GE2.out) | exact HB.out)⟩
theorem cut_max {P : Program} (t e : TypeId) {i : TypeInfo} (ht : P.underlying t = some (.slice e)) (hi : P.info? e = some i) (A : Option Addr) (n c : Nat) (lo hi' : Int) (h0 : 0 ≤ lo) (h1 : lo ≤ hi') (h2 : hi' ≤ n) (hc : n ≤ c) :
    ∃ v, ∀ W : World, (Instr.slice t (.slice A n c) (some (.int .i64 lo)) (some (.int .i64 hi')) (some (.int .i64 (n : Int)))).run P W = .ok v W := by
  have hel : P.elem t = e := by simp [Program.elem, ht]
  have hu : P.underlying t = some (.slice (P.elem t)) := by rw [hel]; exact ht
  refine ⟨sliced A lo.toNat hi'.toNat n i.size, fun W => ?_⟩
  rw [run_slice_lhm W t A n c hu .i64 .i64 .i64 lo hi' (n : Int) h0 h1 h2 (by omega), hel]
  simp [sizeOf, typeInfo, hi, Result.andThen]
theorem cut_cap {P : Program} (t e : TypeId) {i : TypeInfo} (ht : P.underlying t = some (.slice e)) (hi : P.info? e = some i) (size : Nat) (hsz : i.size = size) (A : Option Addr) (n c : Nat) (lo hi' : Int) (h0 : 0 ≤ lo) (h1 : lo ≤ hi') (h2 : hi' ≤ c) :
    ∀ W : World, (Instr.slice t (.slice A n c) (some (.int .i64 lo)) (some (.int .i64 hi')) none).run P W = .ok (.slice (if c = lo.toNat then A else A.map (·.add (lo.toNat * size))) (hi'.toNat - lo.toNat) (c - lo.toNat)) W := by
  intro W
  have hel : P.elem t = e := by simp [Program.elem, ht]
  have hu : P.underlying t = some (.slice (P.elem t)) := by rw [hel]; exact ht
  rw [run_slice_lh W t A n c hu .i64 .i64 lo hi' h0 h1 h2, hel]
  simp [sizeOf, typeInfo, hi, hsz, sliced, Result.andThen]
theorem add1 (g n : Nat) : (⟨g, 0, none⟩ : Addr).add (n * 1) = ⟨g, n, none⟩ := by rw [Nat.mul_one]; cases n <;> simp [Addr.add]
theorem zeroI (w : World) : (zeroValue 3).run Tryz.prog w = .ok (.int .i64 0) w := by kernel_rfl
theorem clear_tail {w : World} {base : Nat} {ok : Nat → Prop} {g n c : Nat} {ys : List Int} (h : (Kd.int .i64).R 3 w base ok (.slice (some ⟨g, 0, none⟩) n c) ys) (hnc : n < c) :
    (Kd.int .i64).R 3 (w.setCell ⟨g, n, none⟩ (.int .i64 0)) base ok (.slice (some ⟨g, 0, none⟩) n c) ys ∧ w.grownBy (w.setCell ⟨g, n, none⟩ (.int .i64 0)) (some g) ∧ base ≤ g ∧
      ∀ ty, (Builtin.clear_ #[23] ty #[.slice (some ⟨g, n, none⟩) 1 (c - n)]).run Tryz.prog w = .ok (.tuple #[]) (w.setCell ⟨g, n, none⟩ (.int .i64 0)) := by
  obtain ⟨h0, inner, ⟨hlen, hcase⟩, hr⟩ := h
  rcases hcase with ⟨hv, _⟩ | ⟨g', cap, cur, hv, hb, hh, hnc', hcm, hcs, htake⟩
  · cases hv
  injection hv with ha hn hc
  injection ha with ha
  injection ha with hg
  subst hg; subst hc; subst hn
  have hs1 : (Kd.int .i64).sz = 1 := rfl
  rw [hs1, Nat.mul_one] at hcs
  rw [hs1] at hlen htake
  have hh' := blk_set hh ys.length (.int .i64 0)
  refine ⟨⟨h0, inner, ⟨by rw [hs1]; exact hlen, .inr ⟨g, c, _, rfl, hb, hh', hnc', hcm, by rw [hs1]; simp [hcs], ?_⟩⟩, hr.imp_ (fun _ _ hp => Kd.M_far hp (p := ⟨g, ys.length, none⟩) (fun k hk e => hk.2 (by rw [e]; rfl)) _)⟩, ?_, hb, ?_⟩
  · rw [hs1, Array.toList_setIfInBounds, ← htake, Nat.mul_one]
    exact List.take_set_of_le (Nat.le_refl _)
  · exact ⟨rfl, rfl, rfl, by simp, fun k _ hk => Below.heap_setCell _ _ _ k (fun e => hk (by rw [e]))⟩
  · intro ty
    have := Lib.run_clear_slice w 23 3 ty (.int .i64 0) Tryz.underlying23 zeroI rfl rfl g ys.length 1 (c - ys.length) (by omega) (fun j hj => by
        obtain rfl : j = 0 := by omega
        simp [World.cell?, hh, hcs, hnc]) (fun j hj => by
        obtain rfl : j = 0 := by omega
        simp [World.frozen?, hh])
    exact this
def slices_Delete_int_int.f (l0 : List Int) (a1 : Int) (a2 : Int) : Option (List Int) := if wrap64 (a1 + 1) = a2 then (if a1 = a2 then (some l0) else (if 0 ≤ a1 then (if a1 ≤ (l0.length : Int) then (if 0 ≤ (wrap64 (a1 + 1)) then (if (wrap64 (a1 + 1)) ≤ (l0.length : Int) then (some (l0.eraseIdx (a1 : Int).toNat)) else (none)) else (none)) else (none)) else (none))) else (none)
def slices_Delete_int_int.T5 : Bool × List (List Nat × List Nat) := (true, [([], []), ([], []), ([0, 1], [0, 1]), ([], []), ([], []), ([3, 4], [3, 4]), ([2, 5], [2, 5]), ([6, 6, 0, 1, 2, 3, 4, 5, 6], [0, 3, 6])])
def slices_Delete_int_int.B5 : List Nat := [0, 0, 3, 0, 0, 24, 63, 127]
theorem slices_Delete_int_int.tab5 : rtab .any (opsOf Tryz.f86 5) = slices_Delete_int_int.T5 := by kernel_rfl
theorem slices_Delete_int_int.bits5 : waitsOk slices_Delete_int_int.T5.2 slices_Delete_int_int.B5 = true := by kernel_rfl
set_option maxHeartbeats 8000000 in
set_option maxRecDepth 100000 in
theorem slices_Delete_int_int.calls (P0_ : Nat → Prop) (u9000_ : Value) (l0 : List Int) (a1 : Int) (a2 : Int) (r : List Int) (w0 w : World) (hB : Below w0.heap.size w0 w) (ho0 : Kd.R (Kd.int .i64) 3 w w0.heap.size P0_ u9000_ l0) (h : slices_Delete_int_int.f l0 a1 a2 = some r) :
    Calls Tryz.prog 86 #[u9000_, .int .i64 a1, .int .i64 a2] w fun e w' => ∃ v0_ : Value, e = .returned (v0_) ∧ Kd.R (Kd.int .i64) 3 w' w0.heap.size (fun k_ => (P0_ k_ ∨ w.heap.size ≤ k_)) v0_ r ∧ Below w0.heap.size w0 w' ∧ Kept w w' (fun k_ => P0_ k_) := by
  have HO0 := Aside0.mk (show Kd.R (Kd.int .i64) 3 w w0.heap.size (fun k_ => (P0_ k_ ∨ w.heap.size ≤ k_)) u9000_ l0 from Kd.R_mono ho0 (fun k_ hk => (.inl hk)))
  have HK := Aside0.mk (Kept.refl w (fun k_ => P0_ k_))
  have HW0 := Aside0.mk hB.size
  have HB := Aside0.mk hB
  clear hB
  have hj0 : wrap64 (a1 + 1) = a2 := by
    by_cases hq : wrap64 (a1 + 1) = a2
    · exact hq
    · unfold slices_Delete_int_int.f at h; rw [if_neg hq] at h; exact absurd h (by simp)
  have H : (if a1 = a2 then (some l0) else (if 0 ≤ a1 then (if a1 ≤ (l0.length : Int) then (if 0 ≤ (wrap64 (a1 + 1)) then (if (wrap64 (a1 + 1)) ≤ (l0.length : Int) then (some (l0.eraseIdx (a1 : Int).toNat)) else (none)) else (none)) else (none)) else (none))) = some r := (if_pos hj0).symm.trans h
  clear h
  by_cases c4 : a1 = a2
  · exact absurd (hj0.trans c4.symm) (by unfold wrap64; omega)
  · rw [if_neg c4] at H
    have c4b0 : (a1 == a2) = false := beq_eq_false_iff_ne.mpr c4
    have c4b1 : (a1 != a2) = true := bne_iff_ne.mpr c4
    by_cases c6 : 0 ≤ a1
    · rw [if_pos c6] at H
      have c6b0 := eq_true c6
      have c6b1 : decide (0 ≤ a1) = true := decide_eq_true c6
      clear c6
      by_cases c7 : a1 ≤ (l0.length : Int)
      · rw [if_pos c7] at H
        have c7b0 := eq_true c7
        have c7b1 : decide (a1 ≤ (l0.length : Int)) = true := decide_eq_true c7
        clear c7
        obtain ⟨y101, hy101⟩ : ∃ y_ : List Int, y_ = (l0.take (a1 : Int).toNat) := ⟨_, rfl⟩
        replace H : (if 0 ≤ (wrap64 (a1 + 1)) then (if (wrap64 (a1 + 1)) ≤ (l0.length : Int) then (some (l0.eraseIdx (a1 : Int).toNat)) else (none)) else (none)) = some r := by first | (rw [hy101]; with_reducible exact H) | (have H2_ := (Option.bind_some _ _).symm.trans H; rw [hy101]; with_reducible exact H2_) | (have H2_ := (Option.bind_some _ _).symm.trans H; with_reducible exact H2_) | with_reducible exact H | (rw [hy101]; exact H) | exact H
        have Ny101 := Aside0.mk hy101
        clear hy101
        obtain ⟨ji8, hji8, hja⟩ : ∃ j_ : Int, (wrap64 (a1 + 1)) = j_ ∧ j_ = a2 := ⟨_, rfl, hj0⟩
        subst hja
        clear hj0
        replace H : (if 0 ≤ (ji8) then (if (ji8) ≤ (l0.length : Int) then (some (l0.eraseIdx (a1 : Int).toNat)) else (none)) else (none)) = some r := by first | (rw [hji8] at H; exact H) | (simp only [hji8] at H ⊢; exact H)
        have hji8w : (IntKind.i64.wrap (a1 + 1)) = ji8 := (i64_w _).trans hji8
        by_cases c9 : 0 ≤ (ji8)
        · rw [if_pos c9] at H
          have c9b0 := eq_true c9
          have c9b1 : decide (0 ≤ (ji8)) = true := decide_eq_true c9
          clear c9
          by_cases c10 : (ji8) ≤ (l0.length : Int)
          · rw [if_pos c10] at H
            have c10b0 := eq_true c10
            have c10b1 : decide ((ji8) ≤ (l0.length : Int)) = true := decide_eq_true c10
            clear c10
            obtain ⟨y105, hy105⟩ : ∃ y_ : List Int, y_ = (l0.drop ((ji8) : Int).toNat) := ⟨_, rfl⟩
            replace H : (some (l0.eraseIdx (a1 : Int).toNat)) = some r := by first | (rw [hy105]; with_reducible exact H) | (have H2_ := (Option.bind_some _ _).symm.trans H; rw [hy105]; with_reducible exact H2_) | (have H2_ := (Option.bind_some _ _).symm.trans H; with_reducible exact H2_) | with_reducible exact H | (rw [hy105]; exact H) | exact H
            have Ny105 := Aside0.mk hy105
            clear hy105
            obtain ⟨y109, hy109⟩ : ∃ y_ : List Int, y_ = (l0.eraseIdx (a1 : Int).toNat) := ⟨_, rfl⟩
            replace H : (some y109) = some r := by first | (rw [hy109]; with_reducible exact H) | (have H2_ := (Option.bind_some _ _).symm.trans H; rw [hy109]; with_reducible exact H2_) | (have H2_ := (Option.bind_some _ _).symm.trans H; with_reducible exact H2_) | with_reducible exact H | (rw [hy109]; exact H) | exact H
            have Ny109 := Aside0.mk hy109
            clear hy109
            obtain rfl := Option.some.inj H
            obtain ⟨Ao11, co11, eo11⟩ := Kd.R_slice HO0.out
            subst eo11
            obtain ⟨i0M, hi0M, _, hszM, _⟩ := info_parts info3
            have hcM1 : (0 : Int) ≤ a1 := of_decide_eq_true (by first | (with_reducible assumption) | assumption)
            have hcM2 : (ji8 : Int) ≤ (l0.length : Int) := of_decide_eq_true (by first | (with_reducible assumption) | assumption)
            have hcM3 : (0 : Int) ≤ ji8 := of_decide_eq_true (by first | (with_reducible assumption) | assumption)
            have hbM := (Kd.R_reads' HO0.out).2.2.2.1
            have hcM5 : a1 ≤ (l0.length : Int) := of_decide_eq_true (by first | (with_reducible assumption) | assumption)
            have hcM4 : ji8 = a1 + 1 := by have h00_ := hcM3; rw [← hji8] at h00_ ⊢; unfold wrap64 at h00_ ⊢; omega
            have hroomM : l0.length ≤ co11 := (Kd.R_reads' HO0.out).2.1
            obtain ⟨vM, hcutM⟩ := cut_max (P := Tryz.prog) 23 3 Tryz.underlying23 hi0M Ao11 l0.length co11 a1 ji8 hcM1 (by omega) hcM2 hroomM
            have KM1 := Aside0.mk hcM1
            have KM2 := Aside0.mk hcM2
            have KM4 := Aside0.mk hcM4
            have KMr := Aside0.mk hroomM
            clear hcM1 hcM2 hcM3 hcM4 hcM5 hbM hroomM
            go_enter Tryz.func86, Tryz.ntmps86
            try go_wp2
            have n0_ := Aside0.mk (Kd.R_drew HO0.out)
            have n1_ := Aside0.mk (Kept.drew HK.out)
            have n2_ := Aside0.mk (below_drew1 HB.out)
            clear HO0
            clear HK
            clear HB
            have HO0 := n0_
            have HK := n1_
            have HB := n2_
            clear n0_ n1_ n2_
            have q13 : (a1 : Int) ≤ ((l0.length : Int) : Int) := of_decide_eq_true (by first | (with_reducible assumption) | assumption)
            obtain ⟨i013, hi013, _, hsz13, _⟩ := info_parts info3
            have hroom13 : l0.length ≤ co11 := (Kd.R_reads' HO0.out).2.1
            have hC13 : Kd.C (Kd.int .i64) _ Ao11 l0.length l0 := (Kd.R_reads' HO0.out).2.2
            have hcut13 := cut_to (P := Tryz.prog) 23 3 .i64 Tryz.underlying23 hi013 Ao11 l0.length co11 a1 (of_decide_eq_true (by first | (with_reducible assumption) | assumption)) q13 hroom13
            have hr13 := Kd.C_take (m := (a1 : Int).toNat) hC13 (by omega)
            have hy13 : y101.length = (a1 : Int).toNat := (by rw [Ny101.out, List.length_take]; omega)
            rw [← Ny101.out] at hr13
            rw [← hy13] at hcut13
            have HR104 := Aside0.mk hr13
            have HC104 := Aside0.mk (show y101.length ≤ co11 from by omega)
            clear hr13 hC13 hroom13 hi013 hsz13
            have KY13 := Aside0.mk hy13
            clear hy13
            have KL13 := Aside0.mk (show (a1 : Int).toNat ≤ l0.length from by omega)
            replace q13 := eq_true q13
            have q14 : ((ji8) : Int) ≤ ((l0.length : Int) : Int) := of_decide_eq_true (by first | (with_reducible assumption) | assumption)
            obtain ⟨i014, hi014, _, hsz14, _⟩ := info_parts info3
            have hroom14 : l0.length ≤ co11 := (Kd.R_reads' HO0.out).2.1
            have hC14 : Kd.C (Kd.int .i64) _ Ao11 l0.length l0 := (Kd.R_reads' HO0.out).2.2
            have q014 : (0 : Int) ≤ ((ji8) : Int) := of_decide_eq_true (by first | (with_reducible assumption) | assumption)
            have hcut14 := cut_from (P := Tryz.prog) 23 3 .i64 Tryz.underlying23 hi014 1 hsz14 Ao11 l0.length co11 (ji8) q014 q14
            have hr14 := Kd.C_drop (m := ((ji8) : Int).toNat) (c := co11) hC14 (by omega) hroom14
            obtain ⟨A14, hA14⟩ : ∃ A1, A1 = (if co11 = ((ji8) : Int).toNat then Ao11 else (Ao11 : Option Addr).map (·.add (((ji8) : Int).toNat * 1))) := ⟨_, rfl⟩
            obtain ⟨c14, hc14⟩ : ∃ c1, c1 = co11 - ((ji8) : Int).toNat := ⟨_, rfl⟩
            have hy14 : y105.length = l0.length - ((ji8) : Int).toNat := (by rw [Ny105.out, List.length_drop] <;> omega)
            rw [show (l0).drop ((ji8) : Int).toNat = y105 from Ny105.out.symm] at hr14
            replace hr14 : Kd.C (Kd.int .i64) _ A14 y105.length y105 := (by rw [hA14]; exact hr14)
            rw [← hy14, ← hA14, ← hc14] at hcut14
            have HR108 := Aside0.mk hr14
            have HC108 := Aside0.mk (show y105.length ≤ c14 from by rw [hy14, hc14]; exact Nat.sub_le_sub_right hroom14 _)
            clear hr14 hC14 hroom14 hi014 hsz14 hc14
            have KY14 := Aside0.mk hy14
            have KA14 := Aside0.mk hA14
            clear hy14 hA14
            have KL14 := Aside0.mk (show ((ji8) : Int).toNat ≤ l0.length from by omega)
            replace q14 := eq_true q14
            obtain ⟨go16, co16, eo16, gb16, gl16, cl16, HG16⟩ := Kd.R_form HO0.out (by have hj_ : 0 ≤ (a1 : Int) := of_decide_eq_true (by first | (with_reducible assumption) | assumption); have hl_ : (ji8 : Int) ≤ (l0.length : Int) := of_decide_eq_true (by first | (with_reducible assumption) | assumption); have hh_ : (a1 : Int) ≤ (l0.length : Int) := of_decide_eq_true (by first | (with_reducible assumption) | assumption); rw [← hji8] at hl_; unfold wrap64 at hl_; omega)
            (first | cases eo16 | (injection eo16 with ea_ en_ ec_; (first | subst ea_ | (injection ea_ with ea_; subst ea_)); subst ec_; clear en_))
            have GB16 := Aside0.mk gb16
            have GG16 := Aside0.mk HG16
            clear gb16 gl16 HG16
            have HMgo16 := Aside0.mk (show (P0_ go16 ∨ w.heap.size ≤ go16) from (HO0.out.1 _ rfl))
            refine start_ (n := 8) (S := fun w' => True) (ds := []) #[false, false, false, false, false, false, false, false] (by kernel_rfl) rfl rfl trivial (fun hHeld => ?_); refine with_tabW slices_Delete_int_int.tab5 slices_Delete_int_int.bits5 (fun HT_ HW_ => ?_)
            generalize w.drew = w12 at HO0 HK HB GG16 HR104 HR108 hHeld ⊢
            refine pure_ (i := 0) (N := some 20) (v := ?_) (a' := ?_) #[true, false, false, false, false, false, false, false] rfl rfl (any_of HT_.out (by kernel_rfl)) (fun _ _ _ h => h) (Or.inl ⟨by rfl, ?_⟩) ?_ ?_
            rotate_left
            · intro w'
              go_simp
              with_reducible rfl
            rotate_left
            · simp only [Act.put, List.setIfInBounds_toArray, List.set_cons_zero, List.set_cons_succ, i64_w, i32_w]
              rfl
            refine pure_ (i := 1) (N := some 21) (v := ?_) (a' := ?_) #[true, true, false, false, false, false, false, false] rfl rfl (any_of HT_.out (by kernel_rfl)) (fun _ _ _ h => h) (Or.inl ⟨by rfl, ?_⟩) ?_ ?_
            rotate_left
            · intro w'
              go_simp
              with_reducible rfl
            rotate_left
            · simp only [Act.put, List.setIfInBounds_toArray, List.set_cons_zero, List.set_cons_succ, i64_w, i32_w]
              rfl
            refine pure_ (i := 2) (N := some 22) (v := ?_) (a' := ?_) #[true, true, true, false, false, false, false, false] rfl rfl (any_of HT_.out (by kernel_rfl)) (fun _ _ _ h => h) (Or.inl ⟨by rfl, ?_⟩) ?_ ?_
            rotate_left
            · intro w'
              go_simp
              with_reducible rfl
            rotate_left
            · simp only [Act.put, List.setIfInBounds_toArray, List.set_cons_zero, List.set_cons_succ, i64_w, i32_w]
              rfl
            refine pure_ (i := 3) (N := some 23) (v := ?_) (a' := ?_) #[true, true, true, true, false, false, false, false] rfl rfl (any_of HT_.out (by kernel_rfl)) (fun _ _ _ h => h) (Or.inl ⟨by rfl, ?_⟩) ?_ ?_
            rotate_left
            · intro w'
              go_simp
              with_reducible rfl
            rotate_left
            · simp only [Act.put, List.setIfInBounds_toArray, List.set_cons_zero, List.set_cons_succ, i64_w, i32_w]
              rfl
            refine pure_ (i := 4) (N := some 24) (v := ?_) (a' := ?_) #[true, true, true, true, true, false, false, false] rfl rfl (any_of HT_.out (by kernel_rfl)) (fun _ _ _ h => h) (Or.inl ⟨by rfl, ?_⟩) ?_ ?_
            rotate_left
            · intro w'
              go_simp
              with_reducible rfl
            rotate_left
            · simp only [Act.put, List.setIfInBounds_toArray, List.set_cons_zero, List.set_cons_succ, i64_w, i32_w]
              rfl
            refine pure_ (i := 5) (N := some 25) (v := ?_) (a' := ?_) #[true, true, true, true, true, true, false, false] rfl rfl (any_of HT_.out (by kernel_rfl)) (fun _ _ _ h => h) (Or.inl ⟨by rfl, ?_⟩) ?_ ?_
            rotate_left
            · intro w'
              go_simp
              with_reducible rfl
            rotate_left
            · simp only [Act.put, List.setIfInBounds_toArray, List.set_cons_zero, List.set_cons_succ, i64_w, i32_w]
              rfl
            refine one_ (i := 6) (N := some 26) #[true, true, true, true, true, true, true, false] rfl rfl (one_of HT_.out (by kernel_rfl)) (by decide) (fun K hK => ?_)
            have hj_ : 0 ≤ (a1 : Int) := of_decide_eq_true (by first | (with_reducible assumption) | assumption)
            have hl_ : (ji8 : Int) ≤ (l0.length : Int) := of_decide_eq_true (by first | (with_reducible assumption) | assumption)
            have hh_ : (a1 : Int) ≤ (l0.length : Int) := of_decide_eq_true (by first | (with_reducible assumption) | assumption)
            have hb_ := (Kd.R_reads' HO0.out).2.2.2.1
            have h0_ : (0 : Int) ≤ (ji8 : Int) := of_decide_eq_true (by first | (with_reducible assumption) | assumption)
            have hy1_ := KY13.out
            have hk_ : (ji8 : Int).toNat = y101.length + 1 := (by have hw_ : (ji8 : Int) = a1 + 1 := (by have h00_ := h0_; rw [← hji8] at h00_ ⊢; unfold wrap64 at h00_ ⊢; omega); rw [hw_]; omega)
            refine Kd.R_delete_step (Kd.int .i64) (w0 := w0) w0.heap.size (by rfl) (.tmp 22) (.tmp 25) 23 3 rfl Tryz.underlying23 (by kernel_rfl) (g := go16) (n := l0.length) (c := co11) (k := y101.length) rfl rfl ?hA ?hm (by (with_reducible repeat (first | apply Kd.R_alloc | apply Kd.R_drewN | apply Kd.R_drew)); exact HO0.out) ?hk (by repeat (first | (with_reducible first | exact HB.out | apply below_alloc | apply pw_below_drewN | apply below_drew1) | exact HB.out)) (below_size (by repeat (first | (with_reducible first | exact HB.out | apply below_alloc | apply pw_below_drewN | apply below_drew1) | exact HB.out))) ?_
            (case hA => have ha_ := KA14.out; rw [hk_] at ha_; exact ha_)
            (case hm => have ha_ := KY14.out; omega)
            (case hk => omega)
            intro w15 ho hb hg
            clear hj_ hl_ hh_ hb_ hk_ h0_
            rw [hy1_, ← Ny109.out] at ho
            clear hy1_
            have hn_ : l0.length - 1 = y109.length := (by have := (Kd.R_reads' ho).1; omega)
            rw [hn_] at ho ⊢
            clear hn_
            have n0_ := Aside0.mk (ho)
            have n1_ := Aside0.mk (hb)
            have n2_ := Aside0.mk (Kept.of_grown (S := (fun k_ => P0_ k_)) hg (by repeat (first | (with_reducible first | exact HK.out | apply Kept.alloc | apply Kept.drewN | apply Kept.drew) | exact HK.out)) (fun k_ e_ => (HO0.out.1 k_ e_)))
            clear HO0
            clear HB
            clear HK
            have HO0 := n0_
            have HB := n1_
            have HK := n2_
            clear n0_ n1_ n2_
            clear ho hb hg
            refine hK.out _ _ trivial (fun hHeld => ?_)
            clear hK K
            refine norm_ (a' := ?_) ?_ ?_
            rotate_left
            · show Act.put _ (some 26) _ = _
              simp only [Act.put, List.setIfInBounds_toArray, List.set_cons_zero, List.set_cons_succ, i64_w, i32_w]
              rfl
            refine pure_ (i := 7) (N := some 0) (v := ?_) (a' := ?_) #[true, true, true, true, true, true, true, true] rfl rfl (any_of HT_.out (by kernel_rfl)) (fun _ _ _ h => h) (Or.inl ⟨by rfl, ?_⟩) ?_ ?_
            rotate_left
            · intro w'
              go_simp
              with_reducible rfl
            rotate_left
            · simp only [Act.put, List.setIfInBounds_toArray, List.set_cons_zero, List.set_cons_succ, i64_w, i32_w]
              rfl
            refine done_ (done_of HT_.out (by kernel_rfl)) ?_
            have hyl : y109.length = l0.length - 1 := by
              have h1_ := KM1.out; have h2_ := KM2.out; have h4_ := KM4.out
              rw [Ny109.out, List.length_eraseIdx, if_pos (by omega)]
            have hlp : y109.length < co11 ∧ l0.length ≤ co11 ∧ l0.length - y109.length = 1 := by
              have h1_ := KM1.out; have h2_ := KM2.out; have h4_ := KM4.out; have h5_ := KMr.out
              omega
            obtain ⟨hRc, hGc, hbc, hcl⟩ := clear_tail HO0.out hlp.1
            have hcutT := cut_cap (P := Tryz.prog) 23 3 Tryz.underlying23 hi0M 1 hszM (some ⟨go16, 0, none⟩) y109.length co11 (y109.length : Int) (l0.length : Int) (by omega) (by omega) (by have := hlp.2.1; omega)
            rw [if_neg (by have := hlp.1; omega), Int.toNat_natCast, Int.toNat_natCast, hlp.2.2, Option.map_some, add1] at hcutT
            have HBc := HB.out.grown hGc HB.out.size (fun k hk => by injection hk with hk; subst hk; exact hbc)
            have HKc := Kept.of_grown (S := (fun k_ => P0_ k_)) hGc HK.out (fun k_ e_ => (HO0.out.1 k_ e_))
            clear hyl hlp hGc hbc
            have HRc := Aside0.mk hRc
            have HBc := Aside0.mk HBc
            have HKc := Aside0.mk HKc
            clear hRc
            go_wp2_with (simp only [hcl])
            go_ret
            exact ⟨_, rfl, HRc.out, HBc.out, HKc.out⟩
          · rw [if_neg c10] at H
            exact absurd H (by simp)
        · rw [if_neg c9] at H
          exact absurd H (by simp)
      · rw [if_neg c7] at H
        exact absurd H (by simp)
    · rw [if_neg c6] at H
      exact absurd H (by simp)
end Go.Proofs.YtikmfpjcdcckeaaGreatDoor.P
