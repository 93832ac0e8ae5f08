/- Part 1 of what the law's proof needs beyond its base: words, walks of functions and plain facts. -/
import Derived.Below
import Derived.Deep.Draws
import Derived.Deep.AppendLies
import Derived.Maps.AppendAt
import Derived.OwnWalk
import Derived.Laws.BytesArg
import Derived.Laws.MakeOwn
import Derived.Laws.OwnMore
import Derived.Deep.OwnRows
import Derived.Tactics
import Derived.Lib.ConvBytes
import Derived.Laws.Slices
import Derived.WalkKit
import Derived.KernelRfl
import Derived.RowKit3
import Derived.Deep.LoopGhost
import Derived.Deep.QuietTactic
import Derived.BigQuiet
import Derived.WideLaws
import Derived.Deep.DeepCutAuto
import Derived.Deep.CutBlock
import Derived.Deep.RegionHeld3
import Derived.Laws.Rows
import Derived.Lib.AppendStr
import Derived.ArgAppend
import Derived.Laws.IdiomCopy
import Derived.RowKit
import Derived.Deep.Slices
import Derived.OpenShut
import Derived.ChangeArms
import Derived.Test.YtjaapkkpmegkfaaGreatK01
import Derived.Test.YtjaapkkpmegkfaaGreatK02
import Derived.Test.YtjaapkkpmegkfaaGreatK03
import Derived.Test.YtjaapkkpmegkfaaGreatK04
import Derived.Test.YtjaapkkpmegkfaaGreatK05
import Derived.Test.YtjaapkkpmegkfaaGreatK06
import Derived.Test.YtjaapkkpmegkfaaGreatK07
import Derived.Test.YtjaapkkpmegkfaaGreatK08
import Derived.Test.YtjaapkkpmegkfaaGreatK09
import Derived.Test.YtjaapkkpmegkfaaGreatK10
import Derived.Test.YtjaapkkpmegkfaaGreatK11
import Derived.Test.YtjaapkkpmegkfaaGreatK12
import Derived.Test.YtjaapkkpmegkfaaGreatK13
set_option linter.unusedVariables false
set_option linter.unusedSimpArgs false
namespace Go.Proofs.YtjaapkkpmegkfaaGreatW.PrintWords
open Go.RowKit
def ReadsInt (w : World) (k : IntKind) (A : Option Addr) (n : Nat) (xs : List Int) : Prop :=
  xs.length = n ∧ n ≤ 9223372036854775807 ∧ (0 < n → ∃ ad, A = some ad ∧ ∀ j, j < n → w.cell? (ad.add j) = some (.int k (xs.getD j 0)))
theorem ReadsInt.below {w w1 : World} {k : IntKind} {A : Option Addr} {n : Nat} {xs : List Int} (h : ReadsInt w k A n xs) (hb : Below w.heap.size w w1) : ReadsInt w1 k A n xs :=
  ⟨h.1, h.2.1, fun hn => by
    obtain ⟨ad, e, hc⟩ := h.2.2 hn
    exact ⟨ad, e, fun j hj => pw_cell_below hb (hc j hj)⟩⟩
theorem LeO.trans {α : Type} {a b c : Option α} (h : LeO a b) (k : LeO b c) : LeO a c := fun r hr => k r (h r hr)
theorem LeO.map {α β : Type} {a a' : Option α} (f : α → β) (h : LeO a a') : LeO (a.map f) (a'.map f) := by
  intro r hr
  obtain ⟨x, hx, hf⟩ := Option.map_eq_some_iff.1 hr
  exact Option.map_eq_some_iff.2 ⟨x, h x hx, hf⟩
theorem more_rounds {α : Type} {g : Nat → Option α} (h : ∀ k, LeO (g k) (g (k + 1))) (k : Nat) : ∀ j, LeO (g k) (g (k + j))
  | 0 => LeO.refl _
  | j + 1 => (more_rounds h k j).trans (h (k + j))
theorem at_rounds {α : Type} {g : Nat → Option α} (h : ∀ k, LeO (g k) (g (k + 1))) {k k' : Nat} (hk : k ≤ k') {r : α} (hr : g k = some r) : g k' = some r := by
  have := more_rounds h k (k' - k) r hr
  rwa [Nat.add_sub_cancel' hk] at this
def KeepBut (w w' : World) (g : Nat) (row : Option Nat) : Prop := w.heap.size ≤ w'.heap.size ∧ ∀ i, i < w.heap.size → i ≠ g → some i ≠ row → w'.heap[i]? = w.heap[i]?
theorem KeepBut.refl (w : World) (g : Nat) (row : Option Nat) : KeepBut w w g row := ⟨Nat.le_refl _, fun _ _ _ _ => rfl⟩
theorem KeepBut.of_below {w w1 : World} (h : Below w.heap.size w w1) (g : Nat) (row : Option Nat) : KeepBut w w1 g row := ⟨h.size, fun i hi _ _ => h.block i hi⟩
theorem KeepBut.trans {w w1 w2 : World} {g : Nat} {row row1 : Option Nat} (h : KeepBut w w1 g row) (k : KeepBut w1 w2 g row1) (hr : row1 = row ∨ ∃ b, row1 = some b ∧ w.heap.size ≤ b) : KeepBut w w2 g row :=
  ⟨Nat.le_trans h.1 k.1, fun i hi hg hn => by
    refine (k.2 i (Nat.lt_of_lt_of_le hi h.1) hg ?_).trans (h.2 i hi hg hn)
    rcases hr with rfl | ⟨b, rfl, hb⟩
    · exact hn
    · intro e
      injection e with e
      omega⟩
def Ev {α : Type} (g : Nat → Option α) (r : α) : Prop := ∃ K, ∀ k, K ≤ k → g k = some r
theorem Ev.bind {α β : Type} {g : Nat → Option α} {f : Nat → α → Option β} {a : α} {r : β} (h : Ev g a) (k : Ev (fun n => f n a) r) : Ev (fun n => (g n).bind (f n)) r := by
  obtain ⟨K, h⟩ := h
  obtain ⟨K', k⟩ := k
  refine ⟨max K K', fun n hn => ?_⟩
  have h1 := h n (by omega)
  have h2 := k n (by omega)
  simp only [h1, Option.bind_some]
  exact h2
section
variable {α : Type} {enc : α → Value} {d : α}
theorem ReadsOf.below {w w1 : World} {A : Option Addr} {n : Nat} {xs : List α} (h : ReadsOf enc d w A n xs) (hb : Below w.heap.size w w1) : ReadsOf enc d w1 A n xs :=
  ⟨h.1, h.2.1, fun hn => by
    obtain ⟨ad, e, hc⟩ := h.2.2 hn
    exact ⟨ad, e, fun j hj => pw_cell_below hb (hc j hj)⟩⟩
end
section
variable {α : Type} {R R' : α → List Value → Prop} {e : TypeId} {size : Nat} {w w1 : World} {base : Nat} {v : Value} {ps : List α}
theorem OwnRow.below (h : OwnRow R e size w base v ps) (hb : Below w.heap.size w w1) : OwnRow R e size w1 base v ps := by
  obtain ⟨inner, ho, hr⟩ := h
  exact ⟨inner, pw_own_below ho hb, hr⟩
end
section
variable {P : Program} {ops : Array Oper} {rest : List Oper} {o : Oper} {a : Act} {Q : Exit → Act → World → Prop} {α : Type} {R : α → List Value → Prop}
theorem OwnRow.append {w0 W : World} (base : Nat) (hgd : o.guard = none) (s x : Operand) (t e : TypeId) (z : Value) (size bytes : Nat)
    (ho : o.op = .call { callee := .builtin .append, args := #[s, x], argTypes := #[t, t] })
    (ht : P.underlying t = some (.slice e)) (hinfo : (P.info? e).map (fun i => (i.zero, i.size, i.bytes)) = some (some z, size, bytes)) (hz : z.cells.size = size) (hs0 : 0 < size) (hb0 : 0 < bytes)
    (v : Value) (ps : List α) (p : α) (cs : List Value) (hs : a.eval s = v) (hx : a.eval x = .slice (some ⟨W.heap.size, 0, none⟩) 1 1) (hp : R p cs) (hcs : cs.length = size) (h1 : ∀ u ∈ cs, u.oneCell' = true)
    (HO : OwnRow R e size W base v ps) (HB : Below base w0 W) (hbase : base ≤ W.heap.size) (hl : (ps.length + 1) * bytes ≤ 140737488355328)
    (h : ∀ v1 w1, OwnRow R e size w1 base v1 (ps ++ [p]) → Below base w0 w1 → W.grownBy w1 v.ownBlock → (v1.ownBlock = v.ownBlock ∨ ∃ b, v1.ownBlock = some b ∧ W.heap.size ≤ b) → wpList P ops Q rest (a.put o.dst v1) w1) :
    wpList P ops Q (o :: rest) a (W.alloc (.cells cs.toArray e)) := by
  obtain ⟨inner, hown, hr⟩ := HO
  refine print_append_cells base hgd s x t e z size bytes ho ht hinfo hz hs0 hb0 v ps.length inner cs hs hx hcs h1 hown HB hbase hl ?_
  intro v1 w1 hown1 hb1 hg1 hat1
  exact h v1 w1 ⟨inner ++ cs, by rw [List.length_append, List.length_singleton]; exact hown1, hr.snoc hp hcs⟩ hb1 hg1 hat1
end
namespace Kd
def bool : Kd Bool := scalar Value.bool (fun _ => rfl)
end Kd
namespace Kd
section
variable {α β : Type} {d : Kd α} {d' : Kd β} {e e' : Nat} {w w1 W : World} {base b b' : Nat} {ok ok' okv oku : Nat → Prop} {v u : Value} {xs : List α} {ys : List β}
theorem R_alloc (h : d.R e w base ok v xs) (o : Obj) : d.R e (w.alloc o) base ok v xs := R_below h (below_alloc (Below.refl _ _) o)
end
end Kd
def QRow (w : World) (base : Nat) (e : TypeId) (size : Nat) (v : Value) (n : Nat) (xs : List Value) : Prop :=
  xs.length = n * size ∧
  ((n = 0 ∧ ∃ A, v = .slice A 0 0 ∧ ∀ a, A = some a → base ≤ a.block ∧ ∃ cur, w.heap[a.block]? = some (.cells cur e (0, 0))) ∨
   ∃ g off cap cur, v = .slice (some ⟨g, off * size, none⟩) n cap ∧ base ≤ g ∧ w.heap[g]? = some (.cells cur e (0, 0)) ∧ n ≤ cap ∧ off + cap ≤ maxLen ∧ cur.size = (off + cap) * size ∧ (cur.toList.drop (off * size)).take (n * size) = xs)
namespace Kd
def Q {α : Type} (d : Kd α) (e : Nat) (w : World) (base : Nat) (ok : Nat → Prop) (v : Value) (xs : List α) : Prop :=
  (∀ k, v.ownBlock = some k → ok k) ∧ ∃ inner, QRow w base e d.sz v xs.length inner ∧ Reps (d.M w base (fun k => ok k ∧ some k ≠ v.ownBlock)) d.sz xs inner
end Kd
theorem ReadsInt.drewN {W : World} {k : IntKind} {A : Option Addr} {n : Nat} {xs : List Int} (h : ReadsInt W k A n xs) (m : Nat) : ReadsInt (W.drewN m) k A n xs := h
theorem ReadsOf.drewN {α : Type} {enc : α → Value} {d : α} {W : World} {A : Option Addr} {n : Nat} {xs : List α} (h : ReadsOf enc d W A n xs) (m : Nat) : ReadsOf enc d (W.drewN m) A n xs := h
end Go.Proofs.YtjaapkkpmegkfaaGreatW.PrintWords
namespace Go.Proofs.YtjaapkkpmegkfaaGreatW.PrintWords
open Go.RowKit
namespace Kd
def gap {α : Type} (f : Nat → Nat) (d : Kd α) (i : Nat) (c : List Value) : Kd (α × Nat) where
  sz := d.sz
  E := d.E
  K := fun w x cs => (x.2 = i → cs = c ∧ cs.length = d.sz ∧ ∀ u ∈ cs, u.oneCell' = true) ∧ (x.2 ≠ i → d.K w x.1 cs)
  M := fun w base ok x cs => (x.2 = i → cs = c ∧ cs.length = d.sz ∧ ∀ u ∈ cs, u.oneCell' = true) ∧ (x.2 ≠ i → d.M w base (fun k => ok k ∧ f k = x.2) x.1 cs)
  K_len := fun {w x cs} h => by
    by_cases hx : x.2 = i
    · exact (h.1 hx).2.1
    · exact d.K_len (h.2 hx)
  K_one := fun {w x cs} h => by
    by_cases hx : x.2 = i
    · exact (h.1 hx).2.2
    · exact d.K_one (h.2 hx)
  K_below := fun hb h => ⟨h.1, fun hx => d.K_below hb (h.2 hx)⟩
  K_of_M := fun h => ⟨h.1, fun hx => d.K_of_M (h.2 hx)⟩
  M_mono := fun hok h => ⟨h.1, fun hx => d.M_mono (fun k hk => ⟨hok k hk.1, hk.2⟩) (h.2 hx)⟩
  M_bound := fun h => ⟨h.1, fun hx => d.M_mono (fun _ hk => ⟨⟨hk.1.1, hk.2⟩, hk.1.2⟩) (d.M_bound (h.2 hx))⟩
  M_move := fun hm h => ⟨h.1, fun hx => d.M_move (fun k hk => hm k hk.1) (h.2 hx)⟩
  M_lower := fun hb h => ⟨h.1, fun hx => d.M_lower hb (h.2 hx)⟩
def H {α : Type} (d : Kd α) (e : Nat) (w : World) (base : Nat) (ok : Nat → Prop) (v : Value) (xs : List α) (i : Int) (oki : Nat → Prop) (c : List Value) : Prop :=
  (∀ k, oki k → ok k) ∧ ∃ f, (gap f d i.toNat c).R e w base (fun k => ok k ∧ ¬ oki k) v xs.zipIdx
end Kd
end Go.Proofs.YtjaapkkpmegkfaaGreatW.PrintWords
namespace Go.Proofs.YtjaapkkpmegkfaaGreatW.PrintWords
open Go.RowKit
section
variable {w W W2 : World} {S S2 S' : Nat → Prop}
theorem Kept.of_below (h : Below w.heap.size w W) (S : Nat → Prop) : Kept w W S := ⟨h.size, fun i hi _ => h.block i hi⟩
theorem Kept.mono (h : Kept w W S) (hs : ∀ k, S k → S' k) : Kept w W S' := ⟨h.1, fun i hi hn => h.2 i hi (fun hk => hn (hs i hk))⟩
theorem Kept.below (h : Kept w W S) (hb : Below W.heap.size W W2) : Kept w W2 S := h.then_ (Kept.of_below hb (fun _ => False)) (fun _ hk => hk.elim)
theorem Kept.alloc (h : Kept w W S) (o : Obj) : Kept w (W.alloc o) S := h.below (below_alloc (Below.refl _ _) o)
end
end Go.Proofs.YtjaapkkpmegkfaaGreatW.PrintWords
namespace Go.Proofs.YtjaapkkpmegkfaaGreat.P
open Go.RowKit Go.Proofs.YtjaapkkpmegkfaaGreatW.PrintWords Go.Proofs.YtjaapkkpmegkfaaGreatW.PrintLast Go.Proofs.YtjaapkkpmegkfaaGreatW.PrintMore
theorem walkmillref06_Barrels.mono_l : ∀ k, (∀ y0 y1, LeO (walkmillref06_Barrels.l0 k y0 y1) (walkmillref06_Barrels.l0 (k + 1) y0 y1))
 | 0 => fun _ _ r h => by simp [walkmillref06_Barrels.l0] at h
 | k + 1 => by
  have ih0 := walkmillref06_Barrels.mono_l k
  ·intro y0 y1
   unfold walkmillref06_Barrels.l0
   repeat' first
   | (with_reducible exact ih0 _ _)
   | (with_reducible exact LeO.refl _)
   | (with_reducible exact LeO.none _)
   | (with_reducible refine LeO.ite ?_ ?_)
   | (with_reducible refine LeO.bind ?_ (fun _ => ?_))
   | exact ih0 _ _
   | exact LeO.none _
   | refine LeO.ite ?_ ?_
   | refine LeO.bind ?_ (fun _ => ?_)
theorem walkmillref06_Barrels.mono : ∀ a0 k, LeO (walkmillref06_Barrels.f k a0) (walkmillref06_Barrels.f (k + 1) a0) := by
 intro a0 k
 have ih0 := walkmillref06_Barrels.mono_l k
 unfold walkmillref06_Barrels.f
 repeat' first
   | (with_reducible exact ih0 _ _)
   | (with_reducible exact LeO.refl _)
   | (with_reducible exact LeO.none _)
   | (with_reducible refine LeO.ite ?_ ?_)
   | (with_reducible refine LeO.bind ?_ (fun _ => ?_))
   | exact ih0 _ _
   | exact LeO.none _
   | refine LeO.ite ?_ ?_
   | refine LeO.bind ?_ (fun _ => ?_)
theorem walkmillref06_Short.mono_l : ∀ k, (∀ y0 y1 y2 y3, LeO (walkmillref06_Short.l0 k y0 y1 y2 y3) (walkmillref06_Short.l0 (k + 1) y0 y1 y2 y3))
 | 0 => fun _ _ _ _ r h => by simp [walkmillref06_Short.l0] at h
 | k + 1 => by
  have ih0 := walkmillref06_Short.mono_l k
  ·intro y0 y1 y2 y3
   unfold walkmillref06_Short.l0
   repeat' first
   | (with_reducible exact ih0 _ _ _ _)
   | (with_reducible exact LeO.refl _)
   | (with_reducible exact LeO.none _)
   | (with_reducible refine LeO.ite ?_ ?_)
   | (with_reducible refine LeO.bind ?_ (fun _ => ?_))
   | exact ih0 _ _ _ _
   | exact LeO.none _
   | refine LeO.ite ?_ ?_
   | refine LeO.bind ?_ (fun _ => ?_)
theorem walkmillref06_Short.mono : ∀ a0 a1 k, LeO (walkmillref06_Short.f k a0 a1) (walkmillref06_Short.f (k + 1) a0 a1) := by
 intro a0 a1 k
 have ih0 := walkmillref06_Short.mono_l k
 unfold walkmillref06_Short.f
 repeat' first
   | (with_reducible exact ih0 _ _ _ _)
   | (with_reducible exact LeO.refl _)
   | (with_reducible exact LeO.none _)
   | (with_reducible refine LeO.ite ?_ ?_)
   | (with_reducible refine LeO.bind ?_ (fun _ => ?_))
   | exact ih0 _ _ _ _
   | exact LeO.none _
   | refine LeO.ite ?_ ?_
   | refine LeO.bind ?_ (fun _ => ?_)
set_option maxRecDepth 100000 in
theorem walkmilllaw06_known.eval : walkmilllaw06_known.f 60 = some true := by kernel_rfl
theorem walkmilllaw06_known.at {k : Nat} (hk : 60 ≤ k) : walkmilllaw06_known.f k = some true := at_rounds (g := walkmilllaw06_known.f) walkmilllaw06_known.mono hk walkmilllaw06_known.eval
theorem walkmilllaw06_known.yes {k : Nat} {r : Bool} (h : walkmilllaw06_known.f k = some r) : r = true := by
  have h1 := at_rounds (g := walkmilllaw06_known.f) walkmilllaw06_known.mono (Nat.le_max_left k 60) h
  have h2 := at_rounds (g := walkmilllaw06_known.f) walkmilllaw06_known.mono (Nat.le_max_right k 60) walkmilllaw06_known.eval
  exact Option.some.inj (h1.symm.trans h2)
theorem walkmilllaw06_known.calls (k : Nat) (r : Bool) (w : World) (h : walkmilllaw06_known.f k = some r) : Calls Tryz.prog 15 #[] w fun e w' => e = .returned (.bool r) ∧ Below w.heap.size w w' :=
  walkmilllaw06_known.calls_true k r w (walkmilllaw06_known.yes h) h
end Go.Proofs.YtjaapkkpmegkfaaGreat.P
namespace Go.Proofs.YtjaapkkpmegkfaaGreat.P
open Go.RowKit Go.Proofs.YtjaapkkpmegkfaaGreatW.PrintWords Go.Proofs.YtjaapkkpmegkfaaGreatW.PrintLast Go.Proofs.YtjaapkkpmegkfaaGreatW.PrintMore
attribute [local go_sem] max2_int min2_int max_two min_two max_three min_three max_four min_four
theorem eqA68 (d : Nat) (w : World) (x0 y0 : Int) (x1 y1 : Int) (x2 y2 : Int) (x3 y3 : Int) (x4 y4 : Int) :
    (Op.equalIn (d + 3) 68 (.agg #[.int .i64 x0, .int .i64 x1, .int .i64 x2, .int .i64 x3, .int .i64 x4]) (.agg #[.int .i64 y0, .int .i64 y1, .int .i64 y2, .int .i64 y3, .int .i64 y4])).run Tryz.prog w = .ok (x0 == y0 && (x1 == y1 && (x2 == y2 && ((x3 == y3 && (x4 == y4)))))) w := by
  refine eqA_of Tryz.underlying68 (by kernel_rfl) ?_
  refine eqf_cons (by rfl) (by go_simp; rfl) (by go_simp; rfl) (by go_simp) ?_
  refine eqf_cons (by rfl) (by go_simp; rfl) (by go_simp; rfl) (by go_simp) ?_
  refine eqf_cons (by rfl) (by go_simp; rfl) (by go_simp; rfl) (by go_simp) ?_
  exact eqf_last (by rfl) (by go_simp) (by go_simp) (eqA24 (d + 0) w _ _ _ _)
end Go.Proofs.YtjaapkkpmegkfaaGreat.P
namespace Go.Proofs.YtjaapkkpmegkfaaGreat.P
open Go.RowKit Go.Proofs.YtjaapkkpmegkfaaGreatW.PrintWords Go.Proofs.YtjaapkkpmegkfaaGreatW.PrintLast Go.Proofs.YtjaapkkpmegkfaaGreatW.PrintMore
attribute [local go_sem] max2_int min2_int max_two min_two max_three min_three max_four min_four
attribute [local go_sem high] eqA68
def walkmilllaw06_SoapShorts.l0 : Nat → List (S68) → List (S68) → List Int → List Int → Int → Int → Option (Bool)
 | 0, _, _, _, _, _, _ => none
 | k + 1, x0, x3, x4, x5, x6, x7 => if x7 < (x0.length : Int) then (if 0 ≤ x7 then (if x7 < (x3.length : Int) then (if (!(((rd_T68 x3 x7).f0) == ((rd_T68 x0 x7).f0)) || (!(((rd_T68 x3 x7).f1) == ((rd_T68 x0 x7).f1)) || (!(((rd_T68 x3 x7).f2) == ((rd_T68 x0 x7).f2)) || ((!(((rd_T68 x3 x7).f3.f0) == ((rd_T68 x0 x7).f3.f0)) || (!(((rd_T68 x3 x7).f3.f1) == ((rd_T68 x0 x7).f3.f1)))))))) = true then (some false) else (walkmilllaw06_SoapShorts.l0 k x0 x3 x4 x5 x6 (wrap64 (x7 + 1)))) else (none)) else (none)) else ((walkmillref06_Barrels.f k x0).bind fun t117 => (if t117 = 0 then (if x6 = 0 then ((walkmillref06_Short.f k x0 true).bind fun t119 => ((walkmillref06_Like.f k x4 t119).bind fun t122 => (if t122 = true then ((walkmillref06_Short.f k x0 false).bind fun t123 => ((walkmillref06_Like.f k x5 t123).bind fun t126 => (if t126 = true then ((walkmilllaw06_known.f k).bind fun t127 => (some t127)) else (some false)))) else (some false)))) else (some false)) else (if x6 = t117 then (if (wrap64 ((x4.length : Int) + (x5.length : Int))) = 0 then ((walkmilllaw06_known.f k).bind fun t118 => (some t118)) else (some false)) else (some false))))
def walkmilllaw06_SoapShorts.f (k : Nat) (l0 : List (S68)) : Option (Bool) := if (l0.length : Int) > 20 then ((walkmilllaw06_known.f k).bind fun t101 => (some t101)) else ((some (([] : List (S68)) : List (S68))).bind fun y102 => (if y102.length + l0.length < 3518437208883 then ((some (y102 ++ l0 : List (S68))).bind fun y105 => ((soap_Short.f k y105).bind fun bt108 => (walkmilllaw06_SoapShorts.l0 k l0 y105 bt108.1 bt108.2.1 bt108.2.2 0))) else (none)))
set_option maxHeartbeats 8000000 in
set_option maxRecDepth 100000 in
theorem walkmilllaw06_SoapShorts.calls_true (k : Nat) (A0 : Option Addr) (c0 : Nat) (l0 : List (S68)) (r : Bool) (w : World) (hr0 : Kd.C k68 w A0 l0.length l0) (hc0 : l0.length ≤ c0) (hrt : r = true) (h : walkmilllaw06_SoapShorts.f k l0 = some r) :
  Calls Tryz.prog 7 #[.slice A0 l0.length c0] w fun e w' => e = .returned (.bool r) ∧ Below w.heap.size w w' := by
 have hu68 := Tryz.underlying68
 have HRT := Aside0.mk hrt
 clear hrt
 have HR0 := Aside0.mk hr0
 have HC0 := Aside0.mk hc0
 clear hr0 hc0
 have HB := Aside0.mk (Below.refl w.heap.size w)
 have H : (if (l0.length : Int) > 20 then ((walkmilllaw06_known.f k).bind fun t101 => (some t101)) else ((some (([] : List (S68)) : List (S68))).bind fun y102 => (if y102.length + l0.length < 3518437208883 then ((some (y102 ++ l0 : List (S68))).bind fun y105 => ((soap_Short.f k y105).bind fun bt108 => (walkmilllaw06_SoapShorts.l0 k l0 y105 bt108.1 bt108.2.1 bt108.2.2 0))) else (none)))) = some r := h
 clear h
 by_cases c2 : (l0.length : Int) > 20
 ·rw [if_pos c2] at H
  have c2b0 : decide (20 < (l0.length : Int)) = true := decide_eq_true c2
  have c2b1 : decide (20 < l0.length) = true := decide_eq_true (by omega)
  clear c2
  obtain ⟨t101, A3, H⟩ := bi H
  obtain rfl := Option.some.inj H
  go_enter Tryz.func7, Tryz.ntmps7
  go_wp2_with (first | (go_at_call 15; (with_reducible refine (walkmilllaw06_known.calls k  t101 _ A3.out).mono ?_); rintro e w4 ⟨rfl, hb⟩; replace HB := bs HB hb; (try clear hb); (try clear hb2); (try clear hk); (try clear hi)))
  repeat (go_quiet (first | (go_at_call 15; (with_reducible refine (walkmilllaw06_known.calls k  t101 _ A3.out).mono ?_); rintro e w4 ⟨rfl, hb⟩; replace HB := bs HB hb; (try clear hb); (try clear hb2); (try clear hk); (try clear hi))); try go_wp2_with (first | (go_at_call 15; (with_reducible refine (walkmilllaw06_known.calls k  t101 _ A3.out).mono ?_); rintro e w4 ⟨rfl, hb⟩; replace HB := bs HB hb; (try clear hb); (try clear hb2); (try clear hk); (try clear hi))))
  go_ret
  exact ⟨eT, pE HB⟩
 ·rw [if_neg c2] at H
  have c2b0 : decide (20 < (l0.length : Int)) = false := decide_eq_false c2
  have c2b1 : decide (20 < l0.length) = false := decide_eq_false (by omega)
  clear c2
  obtain ⟨y102, hy102⟩ : ∃ y_ : List (S68), y_ = (([] : List (S68))) := ⟨_, rfl⟩
  replace H : (if y102.length + l0.length < 3518437208883 then ((some (y102 ++ l0 : List (S68))).bind fun y105 => ((soap_Short.f k y105).bind fun bt108 => (walkmilllaw06_SoapShorts.l0 k l0 y105 bt108.1 bt108.2.1 bt108.2.2 0))) else (none)) = some r := yy hy102 H
  have Ny102 := Aside0.mk hy102
  clear hy102
  by_cases c5 : y102.length + l0.length < 3518437208883
  ·rw [if_pos c5] at H
   have LMc5 := Aside0.mk c5
   clear c5
   obtain ⟨y105, hy105⟩ : ∃ y_ : List (S68), y_ = (y102 ++ l0) := ⟨_, rfl⟩
   replace H : ((soap_Short.f k y105).bind fun bt108 => (walkmilllaw06_SoapShorts.l0 k l0 y105 bt108.1 bt108.2.1 bt108.2.2 0)) = some r := yy hy105 H
   have Ny105 := Aside0.mk hy105
   clear hy105
   obtain ⟨⟨t108, t109, t110⟩, A6, H⟩ := bi H
   have H' := Aside0.mk H
   clear H
   go_enter Tryz.func7, Tryz.ntmps7
   go_wp2_with (first | ((with_reducible refine gate_dst (N := 13) rfl ?_); (try (refine gate_guard (by rfl) ?_; dsimp only)); refine Kd.R_lit k68 _ 68 ?hg (N := 13) ?hd (xs := ([] : List (S68))) (inner := []) (ok := fun _ => True) (okp := fun _ => True) ?hr ?hp (fun _ hk => hk) trivial (Below.refl _ _) (Nat.le_refl _) (by simp) ?_; (case hd => rfl); (case hg => rfl); (case hr => first | (go_simp; done) | (go_simp; rfl)); (case hp => exact (Reps.none _ _)); intro v103 w7 ho8 hb hg_ hnew_; clear hg_ hnew_; (first | rw [← Ny102.out] at ho8 | (simp only [Int.reduceToNat] at ho8; rw [← Ny102.out] at ho8)); have HO104 := rl ho8 HB; replace HB := bs HB hb; clear hb ho8) | ((with_reducible refine gate_builtin (b := .append) (xs := #[.tmp 13, .tmp 14]) rfl ?_); (try (refine gate_guard (by rfl) ?_; dsimp only)); at_builtin; refine Kd.R_append_rows k68 (w0 := w) w.heap.size rfl (.tmp 13) (.tmp 14) 64 68 (.agg #[(.int .i64 0), (.int .i64 0), (.int .i64 0), (.int .i64 0), (.int .i64 0)]) 40 rfl Tryz.underlying64 info68 rfl (by decide) (by omega) v103 y102 l0 _ _ _ (fun _ => True) (fun _ => False) rfl rfl ?aO ?aR (fun _ _ h => h) (fun _ h => h.elim) ?aF ?aB ?aS ?aL ?_; (case aR => exact pC (Kd.C_below HR0.out HB.out)); (case aB => exact (pE HB)); (case aF => exact (fun _ _ => trivial)); (case aO => exact (pR HO104.out)); (case aS => exact (below_size (pE HB))); (case aL => have := LMc5.out; omega); intro v106 w9 ho hb hg hat; rw [← Ny105.out] at ho; replace HB := Aside0.mk (hb); have HO107 := Aside0.mk (ho); clear HO104; clear ho hb hg hat; obtain ⟨Ao10, co10, eo10⟩ := Kd.R_slice HO107.out; subst eo10) | (go_at_call 40; (with_reducible refine (soap_Short.calls k _ _ y105 t108 t109 t110 _ ?side1 ?side2 A6.out).mono ?_); (case side1 => exact pC (Kd.R_reads' HO107.out).2.2); (case side2 => exact (Kd.R_reads' HO107.out).2.1); rintro e w11 ⟨v111, v113, rfl, ho0, ho1, hb⟩; replace HO107 := rb HO107 hb; have HO112 := rl ho0 HB; have HO114 := rl ho1 HB; replace HB := bs HB hb; (try clear hb); (try clear hb2); (try clear hk); (try clear hi); (try clear ho0); (try clear ho1)))
   repeat (go_quiet (first | ((with_reducible refine gate_dst (N := 13) rfl ?_); (try (refine gate_guard (by rfl) ?_; dsimp only)); refine Kd.R_lit k68 _ 68 ?hg (N := 13) ?hd (xs := ([] : List (S68))) (inner := []) (ok := fun _ => True) (okp := fun _ => True) ?hr ?hp (fun _ hk => hk) trivial (Below.refl _ _) (Nat.le_refl _) (by simp) ?_; (case hd => rfl); (case hg => rfl); (case hr => first | (go_simp; done) | (go_simp; rfl)); (case hp => exact (Reps.none _ _)); intro v103 w7 ho8 hb hg_ hnew_; clear hg_ hnew_; (first | rw [← Ny102.out] at ho8 | (simp only [Int.reduceToNat] at ho8; rw [← Ny102.out] at ho8)); have HO104 := rl ho8 HB; replace HB := bs HB hb; clear hb ho8) | ((with_reducible refine gate_builtin (b := .append) (xs := #[.tmp 13, .tmp 14]) rfl ?_); (try (refine gate_guard (by rfl) ?_; dsimp only)); at_builtin; refine Kd.R_append_rows k68 (w0 := w) w.heap.size rfl (.tmp 13) (.tmp 14) 64 68 (.agg #[(.int .i64 0), (.int .i64 0), (.int .i64 0), (.int .i64 0), (.int .i64 0)]) 40 rfl Tryz.underlying64 info68 rfl (by decide) (by omega) v103 y102 l0 _ _ _ (fun _ => True) (fun _ => False) rfl rfl ?aO ?aR (fun _ _ h => h) (fun _ h => h.elim) ?aF ?aB ?aS ?aL ?_; (case aR => exact pC (Kd.C_below HR0.out HB.out)); (case aB => exact (pE HB)); (case aF => exact (fun _ _ => trivial)); (case aO => exact (pR HO104.out)); (case aS => exact (below_size (pE HB))); (case aL => have := LMc5.out; omega); intro v106 w9 ho hb hg hat; rw [← Ny105.out] at ho; replace HB := Aside0.mk (hb); have HO107 := Aside0.mk (ho); clear HO104; clear ho hb hg hat; obtain ⟨Ao10, co10, eo10⟩ := Kd.R_slice HO107.out; subst eo10) | (go_at_call 40; (with_reducible refine (soap_Short.calls k _ _ y105 t108 t109 t110 _ ?side1 ?side2 A6.out).mono ?_); (case side1 => exact pC (Kd.R_reads' HO107.out).2.2); (case side2 => exact (Kd.R_reads' HO107.out).2.1); rintro e w11 ⟨v111, v113, rfl, ho0, ho1, hb⟩; replace HO107 := rb HO107 hb; have HO112 := rl ho0 HB; have HO114 := rl ho1 HB; replace HB := bs HB hb; (try clear hb); (try clear hb2); (try clear hk); (try clear hi); (try clear ho0); (try clear ho1))); try go_wp2_with (first | ((with_reducible refine gate_dst (N := 13) rfl ?_); (try (refine gate_guard (by rfl) ?_; dsimp only)); refine Kd.R_lit k68 _ 68 ?hg (N := 13) ?hd (xs := ([] : List (S68))) (inner := []) (ok := fun _ => True) (okp := fun _ => True) ?hr ?hp (fun _ hk => hk) trivial (Below.refl _ _) (Nat.le_refl _) (by simp) ?_; (case hd => rfl); (case hg => rfl); (case hr => first | (go_simp; done) | (go_simp; rfl)); (case hp => exact (Reps.none _ _)); intro v103 w7 ho8 hb hg_ hnew_; clear hg_ hnew_; (first | rw [← Ny102.out] at ho8 | (simp only [Int.reduceToNat] at ho8; rw [← Ny102.out] at ho8)); have HO104 := rl ho8 HB; replace HB := bs HB hb; clear hb ho8) | ((with_reducible refine gate_builtin (b := .append) (xs := #[.tmp 13, .tmp 14]) rfl ?_); (try (refine gate_guard (by rfl) ?_; dsimp only)); at_builtin; refine Kd.R_append_rows k68 (w0 := w) w.heap.size rfl (.tmp 13) (.tmp 14) 64 68 (.agg #[(.int .i64 0), (.int .i64 0), (.int .i64 0), (.int .i64 0), (.int .i64 0)]) 40 rfl Tryz.underlying64 info68 rfl (by decide) (by omega) v103 y102 l0 _ _ _ (fun _ => True) (fun _ => False) rfl rfl ?aO ?aR (fun _ _ h => h) (fun _ h => h.elim) ?aF ?aB ?aS ?aL ?_; (case aR => exact pC (Kd.C_below HR0.out HB.out)); (case aB => exact (pE HB)); (case aF => exact (fun _ _ => trivial)); (case aO => exact (pR HO104.out)); (case aS => exact (below_size (pE HB))); (case aL => have := LMc5.out; omega); intro v106 w9 ho hb hg hat; rw [← Ny105.out] at ho; replace HB := Aside0.mk (hb); have HO107 := Aside0.mk (ho); clear HO104; clear ho hb hg hat; obtain ⟨Ao10, co10, eo10⟩ := Kd.R_slice HO107.out; subst eo10) | (go_at_call 40; (with_reducible refine (soap_Short.calls k _ _ y105 t108 t109 t110 _ ?side1 ?side2 A6.out).mono ?_); (case side1 => exact pC (Kd.R_reads' HO107.out).2.2); (case side2 => exact (Kd.R_reads' HO107.out).2.1); rintro e w11 ⟨v111, v113, rfl, ho0, ho1, hb⟩; replace HO107 := rb HO107 hb; have HO112 := rl ho0 HB; have HO114 := rl ho1 HB; replace HB := bs HB hb; (try clear hb); (try clear hb2); (try clear hk); (try clear hi); (try clear ho0); (try clear ho1))))
   go_loopg [7] k (fun kq v7 w' => ∃ (x7_1 : Int), v7 = .int .i64 x7_1 ∧ Aside0 (walkmilllaw06_SoapShorts.l0 kq l0 y105 t108 t109 t110 x7_1 = some r) ∧ Aside0 (kq ≤ k) ∧ Aside0 (Kd.R k68 68 w' w.heap.size (fun _ => True) (.slice Ao10 y105.length co10) y105) ∧ Aside0 (Kd.R (Kd.int .i64) 3 w' w.heap.size (fun k_ => some k_ ≠ (v113 : Value).ownBlock) v111 t108) ∧ Aside0 (Kd.R (Kd.int .i64) 3 w' w.heap.size (fun k_ => some k_ ≠ (v111 : Value).ownBlock) v113 t109) ∧ Aside0 (Below w.heap.size w w'))
   case atStart => exact ⟨(0), (by first | rfl | (simp; done) | (simp [*]; done)), H', ⟨Nat.le_refl _⟩, ⟨by (with_reducible repeat (first | apply Kd.R_alloc | apply Kd.R_drewN | apply Kd.R_drew)); exact HO107.out⟩, ⟨by (with_reducible repeat (first | apply Kd.R_alloc | apply Kd.R_drewN | apply Kd.R_drew)); exact HO112.out⟩, ⟨by (with_reducible repeat (first | apply Kd.R_alloc | apply Kd.R_drewN | apply Kd.R_drew)); exact HO114.out⟩, ⟨pE HB⟩⟩
   case round =>
    clear H'
    try clear c2
    try clear c2b0
    try clear c2b1
    try clear p2
    try clear c5
    try clear c7
    obtain ⟨x7_1, rfl, HA, HK1, HO_3, HO_4, HO_5, HB⟩ := hrel
    cases gk with
    | zero => exact absurd HA.out (by simp [walkmilllaw06_SoapShorts.l0])
    | succ k1 =>
     have H := HA.out
     clear HA
     simp only [walkmilllaw06_SoapShorts.l0] at H
     by_cases c12 : x7_1 < (l0.length : Int)
     ·rw [if_pos c12] at H
      have c12b0 : decide (x7_1 < (l0.length : Int)) = true := decide_eq_true c12
      clear c12
      by_cases c13 : 0 ≤ x7_1
      ·rw [if_pos c13] at H
       have c13b0 : decide (0 ≤ x7_1) = true := decide_eq_true c13
       clear c13
       by_cases c14 : x7_1 < (y105.length : Int)
       ·rw [if_pos c14] at H
        have c14b0 : decide (x7_1 < (y105.length : Int)) = true := decide_eq_true c14
        clear c14
        by_cases c15 : (!(((rd_T68 y105 x7_1).f0) == ((rd_T68 l0 x7_1).f0)) || (!(((rd_T68 y105 x7_1).f1) == ((rd_T68 l0 x7_1).f1)) || (!(((rd_T68 y105 x7_1).f2) == ((rd_T68 l0 x7_1).f2)) || ((!(((rd_T68 y105 x7_1).f3.f0) == ((rd_T68 l0 x7_1).f3.f0)) || (!(((rd_T68 y105 x7_1).f3.f1) == ((rd_T68 l0 x7_1).f3.f1)))))))) = true
        ·rw [if_pos c15] at H
         have c15b0 : (!(((rd_T68 y105 x7_1).f0) == ((rd_T68 l0 x7_1).f0)) || (!(((rd_T68 y105 x7_1).f1) == ((rd_T68 l0 x7_1).f1)) || (!(((rd_T68 y105 x7_1).f2) == ((rd_T68 l0 x7_1).f2)) || ((!(((rd_T68 y105 x7_1).f3.f0) == ((rd_T68 l0 x7_1).f3.f0)) || (!(((rd_T68 y105 x7_1).f3.f1) == ((rd_T68 l0 x7_1).f3.f1)))))))) = true := c15
         clear c15
         exact absurd ((Option.some.inj H).trans HRT.out) (by simp)
        ·rw [if_neg c15] at H
         have c15b0 : (!(((rd_T68 y105 x7_1).f0) == ((rd_T68 l0 x7_1).f0)) || (!(((rd_T68 y105 x7_1).f1) == ((rd_T68 l0 x7_1).f1)) || (!(((rd_T68 y105 x7_1).f2) == ((rd_T68 l0 x7_1).f2)) || ((!(((rd_T68 y105 x7_1).f3.f0) == ((rd_T68 l0 x7_1).f3.f0)) || (!(((rd_T68 y105 x7_1).f3.f1) == ((rd_T68 l0 x7_1).f3.f1)))))))) = false := by simpa using c15
         clear c15
         have H' := Aside0.mk H
         clear H
         have p115 : 0 ≤ (x7_1 : Int) := dT
         have q115 : x7_1 < (y105.length : Int) := dT
         obtain ⟨ad115, e115, hx115_0, hx115_1, hx115_2, hx115_3, hx115_4⟩ := at_T68 (Kd.R_reads' HO_3.out).2.2 x7_1 p115 q115
         cases e115
         replace p115 := eq_true p115
         replace q115 := eq_true q115
         have p116 : 0 ≤ (x7_1 : Int) := dT
         have q116 : x7_1 < (l0.length : Int) := dT
         obtain ⟨ad116, e116, hx116_0, hx116_1, hx116_2, hx116_3, hx116_4⟩ := at_T68 HR0.out x7_1 p116 q116
         cases e116
         replace hx116_0 := cut_ HB hx116_0
         replace hx116_1 := cut_ HB hx116_1
         replace hx116_2 := cut_ HB hx116_2
         replace hx116_3 := cut_ HB hx116_3
         replace hx116_4 := cut_ HB hx116_4
         replace p116 := eq_true p116
         replace q116 := eq_true q116
         go_wp2
         repeat (go_quiet (fail); try go_wp2)
         go_roundg k1
         case measure => have := HK1.out; omega
         case rel => exact ⟨(wrap64 (x7_1 + 1)), (by first | rfl | (simp; done) | (simp [*]; done)), H', ⟨by have := HK1.out; omega⟩, ⟨by (with_reducible repeat (first | apply Kd.R_alloc | apply Kd.R_drewN | apply Kd.R_drew)); exact HO_3.out⟩, ⟨by (with_reducible repeat (first | apply Kd.R_alloc | apply Kd.R_drewN | apply Kd.R_drew)); exact HO_4.out⟩, ⟨by (with_reducible repeat (first | apply Kd.R_alloc | apply Kd.R_drewN | apply Kd.R_drew)); exact HO_5.out⟩, ⟨pE HB⟩⟩
       ·rw [if_neg c14] at H
        exact absurd H (by simp)
      ·rw [if_neg c13] at H
       exact absurd H (by simp)
     ·rw [if_neg c12] at H
      have c12b0 : decide (x7_1 < (l0.length : Int)) = false := decide_eq_false c12
      clear c12
      obtain ⟨t117, A16, H⟩ := bi H
      by_cases c17 : t117 = 0
      ·rw [if_pos c17] at H
       have c17b0 : (t117 == 0) = true := beq_iff_eq.mpr c17
       have c17b1 : (t117 != 0) = false := bne_eq_false_iff_eq.mpr c17
       clear c17
       by_cases c18 : t110 = 0
       ·rw [if_pos c18] at H
        have c18b0 : (t110 == 0) = true := beq_iff_eq.mpr c18
        have c18b1 : (t110 != 0) = false := bne_eq_false_iff_eq.mpr c18
        clear c18
        obtain ⟨t119, A19, H⟩ := bi H
        obtain ⟨t122, A20, H⟩ := bi H
        by_cases c21 : t122 = true
        ·subst c21
         rw [if_pos rfl] at H
         obtain ⟨t123, A22, H⟩ := bi H
         obtain ⟨t126, A23, H⟩ := bi H
         by_cases c24 : t126 = true
         ·subst c24
          rw [if_pos rfl] at H
          obtain ⟨t127, A25, H⟩ := bi H
          obtain rfl := Option.some.inj H
          go_wp2_with (first | (go_at_call 41; (with_reducible refine (walkmillref06_Barrels.calls k1 _ _ l0 t117 _ ?side1 ?side2 A16.out).mono ?_); (case side1 => exact pC (Kd.C_below HR0.out HB.out)); (case side2 => exact HC0.out); rintro e w26 ⟨rfl, hb⟩; replace HO_3 := rb HO_3 hb; replace HO_4 := rb HO_4 hb; replace HO_5 := rb HO_5 hb; replace HB := bs HB hb; (try clear hb); (try clear hb2); (try clear hk); (try clear hi)) | (go_at_call 42; (with_reducible refine (walkmillref06_Short.calls k1 _ _ l0 true t119 _ ?side1 ?side2 A19.out).mono ?_); (case side1 => exact pC (Kd.C_below HR0.out HB.out)); (case side2 => exact HC0.out); rintro e w27 ⟨v120, rfl, ho0, hb⟩; replace HO_3 := rb HO_3 hb; have HO121 := Aside0.mk (Kd.R_lower (Kd.R_new' (Kd.R_new' ho0 (Kd.R_lt (pR HO_4.out))) (Kd.R_lt (pR HO_5.out))) (below_size (pE HB))); replace HO_4 := re HO_4 ho0 hb; replace HO_5 := re HO_5 ho0 hb; replace HB := bs HB hb; (try clear hb); (try clear hb2); (try clear hk); (try clear hi); (try clear ho0); obtain ⟨Ao28, co28, eo28⟩ := Kd.R_slice HO_4.out; subst eo28; obtain ⟨Ao29, co29, eo29⟩ := Kd.R_slice HO121.out; subst eo29) | (go_at_call 23; (with_reducible refine (walkmillref06_Like.calls k1 _ _ t108 _ _ t119 true _ ?side1 ?side2 ?side3 ?side4 A20.out).mono ?_); (case side1 => exact pC (Kd.R_reads' HO_4.out).2.2); (case side2 => exact (Kd.R_reads' HO_4.out).2.1); (case side3 => exact pC (Kd.R_reads' HO121.out).2.2); (case side4 => exact (Kd.R_reads' HO121.out).2.1); rintro e w' ⟨rfl, ⟨nd, rfl⟩⟩; (try first | exact ⟨rfl, _, World.drewN_drewN _ _ _⟩ | exact ⟨rfl, _, Eq.trans (World.drewN_drewN _ _ _) (congrArg (World.drewN _) (Nat.add_assoc _ _ _))⟩)) | (go_at_call 42; (with_reducible refine (walkmillref06_Short.calls k1 _ _ l0 false t123 _ ?side1 ?side2 A22.out).mono ?_); (case side1 => exact pC (Kd.C_below HR0.out (pE HB))); (case side2 => exact HC0.out); rintro e w30 ⟨v124, rfl, ho0, hb⟩; replace HO_3 := rb HO_3 hb; have HO125 := Aside0.mk (Kd.R_lower (Kd.R_new' (Kd.R_new' (Kd.R_new' ho0 (Kd.R_lt (pR HO_4.out))) (Kd.R_lt (pR HO_5.out))) (Kd.R_lt (pR HO121.out))) (below_size (pE HB))); replace HO_4 := re HO_4 ho0 hb; replace HO_5 := re HO_5 ho0 hb; replace HO121 := re HO121 ho0 hb; replace HB := bs HB hb; (try clear hb); (try clear hb2); (try clear hk); (try clear hi); (try clear ho0); obtain ⟨Ao31, co31, eo31⟩ := Kd.R_slice HO_5.out; subst eo31; obtain ⟨Ao32, co32, eo32⟩ := Kd.R_slice HO125.out; subst eo32) | (go_at_call 23; (with_reducible refine (walkmillref06_Like.calls k1 _ _ t109 _ _ t123 true _ ?side1 ?side2 ?side3 ?side4 A23.out).mono ?_); (case side1 => exact pC (Kd.R_reads' HO_5.out).2.2); (case side2 => exact (Kd.R_reads' HO_5.out).2.1); (case side3 => exact pC (Kd.R_reads' HO125.out).2.2); (case side4 => exact (Kd.R_reads' HO125.out).2.1); rintro e w' ⟨rfl, ⟨nd, rfl⟩⟩; (try first | exact ⟨rfl, _, World.drewN_drewN _ _ _⟩ | exact ⟨rfl, _, Eq.trans (World.drewN_drewN _ _ _) (congrArg (World.drewN _) (Nat.add_assoc _ _ _))⟩)) | (go_at_call 15; (with_reducible refine (walkmilllaw06_known.calls k1  t127 _ A25.out).mono ?_); rintro e w33 ⟨rfl, hb⟩; replace HO_3 := rb HO_3 hb; replace HO_4 := rb HO_4 hb; replace HO_5 := rb HO_5 hb; replace HO121 := rb HO121 hb; replace HO125 := rb HO125 hb; replace HB := bs HB hb; (try clear hb); (try clear hb2); (try clear hk); (try clear hi)))
          repeat (go_quiet (first | (go_at_call 41; (with_reducible refine (walkmillref06_Barrels.calls k1 _ _ l0 t117 _ ?side1 ?side2 A16.out).mono ?_); (case side1 => exact pC (Kd.C_below HR0.out HB.out)); (case side2 => exact HC0.out); rintro e w26 ⟨rfl, hb⟩; replace HO_3 := rb HO_3 hb; replace HO_4 := rb HO_4 hb; replace HO_5 := rb HO_5 hb; replace HB := bs HB hb; (try clear hb); (try clear hb2); (try clear hk); (try clear hi)) | (go_at_call 42; (with_reducible refine (walkmillref06_Short.calls k1 _ _ l0 true t119 _ ?side1 ?side2 A19.out).mono ?_); (case side1 => exact pC (Kd.C_below HR0.out HB.out)); (case side2 => exact HC0.out); rintro e w27 ⟨v120, rfl, ho0, hb⟩; replace HO_3 := rb HO_3 hb; have HO121 := Aside0.mk (Kd.R_lower (Kd.R_new' (Kd.R_new' ho0 (Kd.R_lt (pR HO_4.out))) (Kd.R_lt (pR HO_5.out))) (below_size (pE HB))); replace HO_4 := re HO_4 ho0 hb; replace HO_5 := re HO_5 ho0 hb; replace HB := bs HB hb; (try clear hb); (try clear hb2); (try clear hk); (try clear hi); (try clear ho0); obtain ⟨Ao28, co28, eo28⟩ := Kd.R_slice HO_4.out; subst eo28; obtain ⟨Ao29, co29, eo29⟩ := Kd.R_slice HO121.out; subst eo29) | (go_at_call 23; (with_reducible refine (walkmillref06_Like.calls k1 _ _ t108 _ _ t119 true _ ?side1 ?side2 ?side3 ?side4 A20.out).mono ?_); (case side1 => exact pC (Kd.R_reads' HO_4.out).2.2); (case side2 => exact (Kd.R_reads' HO_4.out).2.1); (case side3 => exact pC (Kd.R_reads' HO121.out).2.2); (case side4 => exact (Kd.R_reads' HO121.out).2.1); rintro e w' ⟨rfl, ⟨nd, rfl⟩⟩; (try first | exact ⟨rfl, _, World.drewN_drewN _ _ _⟩ | exact ⟨rfl, _, Eq.trans (World.drewN_drewN _ _ _) (congrArg (World.drewN _) (Nat.add_assoc _ _ _))⟩)) | (go_at_call 42; (with_reducible refine (walkmillref06_Short.calls k1 _ _ l0 false t123 _ ?side1 ?side2 A22.out).mono ?_); (case side1 => exact pC (Kd.C_below HR0.out (pE HB))); (case side2 => exact HC0.out); rintro e w30 ⟨v124, rfl, ho0, hb⟩; replace HO_3 := rb HO_3 hb; have HO125 := Aside0.mk (Kd.R_lower (Kd.R_new' (Kd.R_new' (Kd.R_new' ho0 (Kd.R_lt (pR HO_4.out))) (Kd.R_lt (pR HO_5.out))) (Kd.R_lt (pR HO121.out))) (below_size (pE HB))); replace HO_4 := re HO_4 ho0 hb; replace HO_5 := re HO_5 ho0 hb; replace HO121 := re HO121 ho0 hb; replace HB := bs HB hb; (try clear hb); (try clear hb2); (try clear hk); (try clear hi); (try clear ho0); obtain ⟨Ao31, co31, eo31⟩ := Kd.R_slice HO_5.out; subst eo31; obtain ⟨Ao32, co32, eo32⟩ := Kd.R_slice HO125.out; subst eo32) | (go_at_call 23; (with_reducible refine (walkmillref06_Like.calls k1 _ _ t109 _ _ t123 true _ ?side1 ?side2 ?side3 ?side4 A23.out).mono ?_); (case side1 => exact pC (Kd.R_reads' HO_5.out).2.2); (case side2 => exact (Kd.R_reads' HO_5.out).2.1); (case side3 => exact pC (Kd.R_reads' HO125.out).2.2); (case side4 => exact (Kd.R_reads' HO125.out).2.1); rintro e w' ⟨rfl, ⟨nd, rfl⟩⟩; (try first | exact ⟨rfl, _, World.drewN_drewN _ _ _⟩ | exact ⟨rfl, _, Eq.trans (World.drewN_drewN _ _ _) (congrArg (World.drewN _) (Nat.add_assoc _ _ _))⟩)) | (go_at_call 15; (with_reducible refine (walkmilllaw06_known.calls k1  t127 _ A25.out).mono ?_); rintro e w33 ⟨rfl, hb⟩; replace HO_3 := rb HO_3 hb; replace HO_4 := rb HO_4 hb; replace HO_5 := rb HO_5 hb; replace HO121 := rb HO121 hb; replace HO125 := rb HO125 hb; replace HB := bs HB hb; (try clear hb); (try clear hb2); (try clear hk); (try clear hi))); try go_wp2_with (first | (go_at_call 41; (with_reducible refine (walkmillref06_Barrels.calls k1 _ _ l0 t117 _ ?side1 ?side2 A16.out).mono ?_); (case side1 => exact pC (Kd.C_below HR0.out HB.out)); (case side2 => exact HC0.out); rintro e w26 ⟨rfl, hb⟩; replace HO_3 := rb HO_3 hb; replace HO_4 := rb HO_4 hb; replace HO_5 := rb HO_5 hb; replace HB := bs HB hb; (try clear hb); (try clear hb2); (try clear hk); (try clear hi)) | (go_at_call 42; (with_reducible refine (walkmillref06_Short.calls k1 _ _ l0 true t119 _ ?side1 ?side2 A19.out).mono ?_); (case side1 => exact pC (Kd.C_below HR0.out HB.out)); (case side2 => exact HC0.out); rintro e w27 ⟨v120, rfl, ho0, hb⟩; replace HO_3 := rb HO_3 hb; have HO121 := Aside0.mk (Kd.R_lower (Kd.R_new' (Kd.R_new' ho0 (Kd.R_lt (pR HO_4.out))) (Kd.R_lt (pR HO_5.out))) (below_size (pE HB))); replace HO_4 := re HO_4 ho0 hb; replace HO_5 := re HO_5 ho0 hb; replace HB := bs HB hb; (try clear hb); (try clear hb2); (try clear hk); (try clear hi); (try clear ho0); obtain ⟨Ao28, co28, eo28⟩ := Kd.R_slice HO_4.out; subst eo28; obtain ⟨Ao29, co29, eo29⟩ := Kd.R_slice HO121.out; subst eo29) | (go_at_call 23; (with_reducible refine (walkmillref06_Like.calls k1 _ _ t108 _ _ t119 true _ ?side1 ?side2 ?side3 ?side4 A20.out).mono ?_); (case side1 => exact pC (Kd.R_reads' HO_4.out).2.2); (case side2 => exact (Kd.R_reads' HO_4.out).2.1); (case side3 => exact pC (Kd.R_reads' HO121.out).2.2); (case side4 => exact (Kd.R_reads' HO121.out).2.1); rintro e w' ⟨rfl, ⟨nd, rfl⟩⟩; (try first | exact ⟨rfl, _, World.drewN_drewN _ _ _⟩ | exact ⟨rfl, _, Eq.trans (World.drewN_drewN _ _ _) (congrArg (World.drewN _) (Nat.add_assoc _ _ _))⟩)) | (go_at_call 42; (with_reducible refine (walkmillref06_Short.calls k1 _ _ l0 false t123 _ ?side1 ?side2 A22.out).mono ?_); (case side1 => exact pC (Kd.C_below HR0.out (pE HB))); (case side2 => exact HC0.out); rintro e w30 ⟨v124, rfl, ho0, hb⟩; replace HO_3 := rb HO_3 hb; have HO125 := Aside0.mk (Kd.R_lower (Kd.R_new' (Kd.R_new' (Kd.R_new' ho0 (Kd.R_lt (pR HO_4.out))) (Kd.R_lt (pR HO_5.out))) (Kd.R_lt (pR HO121.out))) (below_size (pE HB))); replace HO_4 := re HO_4 ho0 hb; replace HO_5 := re HO_5 ho0 hb; replace HO121 := re HO121 ho0 hb; replace HB := bs HB hb; (try clear hb); (try clear hb2); (try clear hk); (try clear hi); (try clear ho0); obtain ⟨Ao31, co31, eo31⟩ := Kd.R_slice HO_5.out; subst eo31; obtain ⟨Ao32, co32, eo32⟩ := Kd.R_slice HO125.out; subst eo32) | (go_at_call 23; (with_reducible refine (walkmillref06_Like.calls k1 _ _ t109 _ _ t123 true _ ?side1 ?side2 ?side3 ?side4 A23.out).mono ?_); (case side1 => exact pC (Kd.R_reads' HO_5.out).2.2); (case side2 => exact (Kd.R_reads' HO_5.out).2.1); (case side3 => exact pC (Kd.R_reads' HO125.out).2.2); (case side4 => exact (Kd.R_reads' HO125.out).2.1); rintro e w' ⟨rfl, ⟨nd, rfl⟩⟩; (try first | exact ⟨rfl, _, World.drewN_drewN _ _ _⟩ | exact ⟨rfl, _, Eq.trans (World.drewN_drewN _ _ _) (congrArg (World.drewN _) (Nat.add_assoc _ _ _))⟩)) | (go_at_call 15; (with_reducible refine (walkmilllaw06_known.calls k1  t127 _ A25.out).mono ?_); rintro e w33 ⟨rfl, hb⟩; replace HO_3 := rb HO_3 hb; replace HO_4 := rb HO_4 hb; replace HO_5 := rb HO_5 hb; replace HO121 := rb HO121 hb; replace HO125 := rb HO125 hb; replace HB := bs HB hb; (try clear hb); (try clear hb2); (try clear hk); (try clear hi))))
          go_ret
          exact ⟨eT, pE HB⟩
         ·replace c24 := Bool.eq_false_iff.mpr c24
          subst c24
          rw [if_neg (show ¬ (false = true) by decide)] at H
          exact absurd ((Option.some.inj H).trans HRT.out) (by simp)
        ·replace c21 := Bool.eq_false_iff.mpr c21
         subst c21
         rw [if_neg (show ¬ (false = true) by decide)] at H
         exact absurd ((Option.some.inj H).trans HRT.out) (by simp)
       ·rw [if_neg c18] at H
        have c18b0 : (t110 == 0) = false := beq_eq_false_iff_ne.mpr c18
        have c18b1 : (t110 != 0) = true := bne_iff_ne.mpr c18
        exact absurd ((Option.some.inj H).trans HRT.out) (by simp)
      ·rw [if_neg c17] at H
       have c17b0 : (t117 == 0) = false := beq_eq_false_iff_ne.mpr c17
       have c17b1 : (t117 != 0) = true := bne_iff_ne.mpr c17
       by_cases c34 : t110 = t117
       ·rw [if_pos c34] at H
        have c34b0 : (t110 == t117) = true := beq_iff_eq.mpr c34
        have c34b1 : (t110 != t117) = false := bne_eq_false_iff_eq.mpr c34
        clear c34
        by_cases c35 : (wrap64 ((t108.length : Int) + (t109.length : Int))) = 0
        ·rw [if_pos c35] at H
         have c35b0 : ((wrap64 ((t108.length : Int) + (t109.length : Int))) == 0) = true := beq_iff_eq.mpr c35
         have c35b1 : ((wrap64 ((t108.length : Int) + (t109.length : Int))) != 0) = false := bne_eq_false_iff_eq.mpr c35
         clear c35
         obtain ⟨t118, A36, H⟩ := bi H
         obtain rfl := Option.some.inj H
         go_wp2_with (first | (go_at_call 41; (with_reducible refine (walkmillref06_Barrels.calls k1 _ _ l0 t117 _ ?side1 ?side2 A16.out).mono ?_); (case side1 => exact pC (Kd.C_below HR0.out HB.out)); (case side2 => exact HC0.out); rintro e w37 ⟨rfl, hb⟩; replace HO_3 := rb HO_3 hb; replace HO_4 := rb HO_4 hb; replace HO_5 := rb HO_5 hb; replace HB := bs HB hb; (try clear hb); (try clear hb2); (try clear hk); (try clear hi); obtain ⟨Ao38, co38, eo38⟩ := Kd.R_slice HO_4.out; subst eo38; obtain ⟨Ao39, co39, eo39⟩ := Kd.R_slice HO_5.out; subst eo39) | (go_at_call 15; (with_reducible refine (walkmilllaw06_known.calls k1  t118 _ A36.out).mono ?_); rintro e w40 ⟨rfl, hb⟩; replace HO_3 := rb HO_3 hb; replace HO_4 := rb HO_4 hb; replace HO_5 := rb HO_5 hb; replace HB := bs HB hb; (try clear hb); (try clear hb2); (try clear hk); (try clear hi)))
         repeat (go_quiet (first | (go_at_call 41; (with_reducible refine (walkmillref06_Barrels.calls k1 _ _ l0 t117 _ ?side1 ?side2 A16.out).mono ?_); (case side1 => exact pC (Kd.C_below HR0.out HB.out)); (case side2 => exact HC0.out); rintro e w37 ⟨rfl, hb⟩; replace HO_3 := rb HO_3 hb; replace HO_4 := rb HO_4 hb; replace HO_5 := rb HO_5 hb; replace HB := bs HB hb; (try clear hb); (try clear hb2); (try clear hk); (try clear hi); obtain ⟨Ao38, co38, eo38⟩ := Kd.R_slice HO_4.out; subst eo38; obtain ⟨Ao39, co39, eo39⟩ := Kd.R_slice HO_5.out; subst eo39) | (go_at_call 15; (with_reducible refine (walkmilllaw06_known.calls k1  t118 _ A36.out).mono ?_); rintro e w40 ⟨rfl, hb⟩; replace HO_3 := rb HO_3 hb; replace HO_4 := rb HO_4 hb; replace HO_5 := rb HO_5 hb; replace HB := bs HB hb; (try clear hb); (try clear hb2); (try clear hk); (try clear hi))); try go_wp2_with (first | (go_at_call 41; (with_reducible refine (walkmillref06_Barrels.calls k1 _ _ l0 t117 _ ?side1 ?side2 A16.out).mono ?_); (case side1 => exact pC (Kd.C_below HR0.out HB.out)); (case side2 => exact HC0.out); rintro e w37 ⟨rfl, hb⟩; replace HO_3 := rb HO_3 hb; replace HO_4 := rb HO_4 hb; replace HO_5 := rb HO_5 hb; replace HB := bs HB hb; (try clear hb); (try clear hb2); (try clear hk); (try clear hi); obtain ⟨Ao38, co38, eo38⟩ := Kd.R_slice HO_4.out; subst eo38; obtain ⟨Ao39, co39, eo39⟩ := Kd.R_slice HO_5.out; subst eo39) | (go_at_call 15; (with_reducible refine (walkmilllaw06_known.calls k1  t118 _ A36.out).mono ?_); rintro e w40 ⟨rfl, hb⟩; replace HO_3 := rb HO_3 hb; replace HO_4 := rb HO_4 hb; replace HO_5 := rb HO_5 hb; replace HB := bs HB hb; (try clear hb); (try clear hb2); (try clear hk); (try clear hi))))
         go_ret
         exact ⟨eT, pE HB⟩
        ·rw [if_neg c35] at H
         have c35b0 : ((wrap64 ((t108.length : Int) + (t109.length : Int))) == 0) = false := beq_eq_false_iff_ne.mpr c35
         have c35b1 : ((wrap64 ((t108.length : Int) + (t109.length : Int))) != 0) = true := bne_iff_ne.mpr c35
         exact absurd ((Option.some.inj H).trans HRT.out) (by simp)
       ·rw [if_neg c34] at H
        have c34b0 : (t110 == t117) = false := beq_eq_false_iff_ne.mpr c34
        have c34b1 : (t110 != t117) = true := bne_iff_ne.mpr c34
        exact absurd ((Option.some.inj H).trans HRT.out) (by simp)
  ·rw [if_neg c5] at H
   exact absurd H (by simp)
end Go.Proofs.YtjaapkkpmegkfaaGreat.P
namespace Go.Proofs.YtjaapkkpmegkfaaGreat.P
open Go.RowKit Go.Proofs.YtjaapkkpmegkfaaGreatW.PrintWords Go.Proofs.YtjaapkkpmegkfaaGreatW.PrintLast Go.Proofs.YtjaapkkpmegkfaaGreatW.PrintMore
theorem shorts_at (l : List S68) (hm : l.length ≤ 20) (d : Nat) : ∀ (k i : Nat), i + d = l.length → d + 100 < k →
    walkmilllaw06_SoapShorts.l0 k l l (if (l.length : Int) > 12 then [] else if l.all okB = true then pick sureB 0 l else []) (if (l.length : Int) > 12 then [] else if l.all okB = true then pick possB 0 l else []) (if (l.length : Int) > 12 then 5 else if l.all okB = true then 0 else 2) (i : Int) = some true := by
  induction d with
  | zero =>
    intro k i hi hk
    obtain ⟨k, rfl⟩ : ∃ m, k = m + 1 := ⟨k - 1, by omega⟩
    simp only [walkmilllaw06_SoapShorts.l0]
    rw [if_neg (by omega), barrels_eq l (by omega) (by omega)]
    simp only [Option.bind_some]
    by_cases h : (l.length : Int) > 12
    · simp only [if_pos h]
      rw [if_neg (by decide), if_pos trivial, if_pos (by simp [w64]), walkmilllaw06_known.at (by omega)]
      rfl
    · simp only [if_neg h]
      by_cases ho : l.all okB = true
      · simp only [if_pos ho]
        have h1 := pick_length sureB l 0
        have h2 := pick_length possB l 0
        rw [if_pos trivial, if_pos trivial, rshort_eq l true (by omega) ho (by omega)]
        simp only [Option.bind_some, if_true]
        rw [like_eq _ _ (by omega) (by omega)]
        simp only [Option.bind_some, decide_true, if_true]
        rw [rshort_eq l false (by omega) ho (by omega)]
        simp only [Option.bind_some, Bool.false_eq_true, if_false]
        rw [like_eq _ _ (by omega) (by omega)]
        simp only [Option.bind_some, decide_true, if_true]
        rw [walkmilllaw06_known.at (by omega)]
        rfl
      · simp only [if_neg ho]
        rw [if_neg (by decide), if_pos trivial, if_pos (by simp [w64]), walkmilllaw06_known.at (by omega)]
        rfl
  | succ d ih =>
    intro k i hi hk
    obtain ⟨k, rfl⟩ : ∃ m, k = m + 1 := ⟨k - 1, by omega⟩
    have hw : wrap64 ((i : Int) + 1) = ((i + 1 : Nat) : Int) := by rw [w64 (by omega)]; omega
    simp only [walkmilllaw06_SoapShorts.l0]
    rw [if_pos (by omega), if_pos (by omega), if_pos (by omega), if_neg (by simp), hw]
    exact ih k (i + 1) (by omega) (by omega)
theorem SoapShorts_yes (l : List S68) : ∃ k, walkmilllaw06_SoapShorts.f k l = some true := by
  refine ⟨1000, ?_⟩
  unfold walkmilllaw06_SoapShorts.f
  by_cases h : (l.length : Int) > 20
  · rw [if_pos h, walkmilllaw06_known.at (by omega)]
    rfl
  · rw [if_neg h]
    simp only [Option.bind_some, List.nil_append, List.length_nil, Nat.zero_add]
    rw [if_pos (by omega)]
    rw [short_eq l (by omega) (by omega)]
    simp only [Option.bind_some]
    have := shorts_at l (by omega) l.length 1000 0 (by omega) (by omega)
    by_cases h2 : (l.length : Int) > 12
    · simp only [if_pos h2] at this ⊢
      exact this
    · simp only [if_neg h2] at this ⊢
      by_cases ho : l.all okB = true
      · simp only [if_pos ho] at this ⊢
        exact this
      · simp only [if_neg ho] at this ⊢
        exact this
end Go.Proofs.YtjaapkkpmegkfaaGreat.P
namespace Go.Proofs.YtjaapkkpmegkfaaGreat.P
open Go.RowKit Go.ChangeShapes Go.WideShapes Go.Deep Go.Proofs.YtjaapkkpmegkfaaGreatW.PrintWords Go.Proofs.YtjaapkkpmegkfaaGreatW.PrintLast Go.Proofs.YtjaapkkpmegkfaaGreatW.PrintMore
structure Opens {α : Type} (P : Program) (d : Kd α) (t : TypeId) (B : α → Prop) : Prop where
  sz : P.cellsOf t = d.sz
  op : ∀ (H : Type) (enc : TypeId × Value → H) (w : World) (base : Nat) (spare : Nat → Bool) (held : Bool) (n : Nat) (cs : List Value) (x : DataW H × List MemPlace), DataW.trod enc P w base spare held n t cs = some x → ∃ p, d.K w p cs ∧ B p
theorem Opens.int {P : Program} {t : TypeId} {k : IntKind} (ht : P.underlying t = some (.int k)) (hc : P.cellsOf t = 1) : Opens P (Kd.int k) t (fun n => (Lit.int k n).wf = true) :=
  ⟨hc, fun H enc w base spare held n cs x h => by
    obtain ⟨m, rfl, _, hw⟩ := DataW.trod_int ht h
    exact ⟨m, rfl, hw⟩⟩
theorem choose_list {α : Type} {Q : Nat → α → Prop} : ∀ (n : Nat), (∀ i, i < n → ∃ p, Q i p) → ∃ l : List α, l.length = n ∧ ∀ i p, l[i]? = some p → Q i p
  | 0, _ => ⟨[], rfl, fun i p h => by simp at h⟩
  | n + 1, h => by
    obtain ⟨l, hl, hq⟩ := choose_list n (fun i hi => h i (by omega))
    obtain ⟨p, hp⟩ := h n (by omega)
    refine ⟨l ++ [p], by simp [hl], fun i q hi => ?_⟩
    rcases Nat.lt_or_ge i l.length with h1 | h1
    · rw [List.getElem?_append_left h1] at hi
      exact hq i q hi
    · have : i = n := by
        have := (List.getElem?_eq_some_iff.1 hi).1
        simp at this
        omega
      subst this
      rw [List.getElem?_append_right h1, hl, Nat.sub_self] at hi
      obtain rfl : p = q := by simpa using hi
      exact hp
theorem Opens.slice {α : Type} {P : Program} {d : Kd α} {t e : TypeId} {B : α → Prop} (h : Opens P d e B) (ht : P.underlying t = some (.slice e)) (hc : P.cellsOf t = 1) : Opens P (Kd.slice e d) t (fun l => ∀ x ∈ l, B x) :=
  ⟨hc, fun H enc w base spare held n cs x hx => by
    rcases open_slice ht hx with ⟨rfl, _⟩ | ⟨a, len, cap, m, n', D, Pl, rfl, hb, hl, hm, hmm, _, hi⟩
    · exact ⟨[], ⟨none, 0, rfl, Nat.le_refl _, Kd.C_nil _ _⟩, fun x hx => by cases hx⟩
    · obtain ⟨l, hll, hq⟩ := choose_list (Q := fun i p => (∃ cs', d.K w p cs' ∧ ∀ j, j < d.sz → w.cell? (a.add (i * d.sz + j)) = cs'[j]?) ∧ B p) len (fun i hi' => by
        obtain ⟨cs', hcs, htr⟩ := hi i (by rw [hmm]; split <;> omega)
        obtain ⟨p, hk, hp⟩ := h.op H enc w base spare held n' cs' _ htr
        obtain ⟨_, hcl, hat⟩ := World.cells?_some hcs
        rw [h.sz] at hat
        exact ⟨p, ⟨cs', hk, fun j hj => by
          have := hat j hj
          rw [Go.Deep.add_add] at this
          exact this⟩, hp⟩)
      refine ⟨l, ⟨some a, cap, by rw [hll], by rw [hll]; exact hl, ⟨rfl, by rw [hll]; simp only [maxLen] at hm; omega, fun h0 => ⟨a, rfl, fun j p hj => ?_⟩⟩⟩, fun x hx => ?_⟩
      · obtain ⟨⟨cs', hk, hat⟩, _⟩ := hq j p hj
        refine ⟨cs', d.K_len hk, hk, fun i u hu => ?_⟩
        have hi' : i < d.sz := by have := (List.getElem?_eq_some_iff.1 hu).1; rw [d.K_len hk] at this; exact this
        rw [hat i hi', hu]
      · obtain ⟨i, hi'⟩ := List.getElem?_of_mem hx
        exact (hq i x hi').2⟩
def OpensS {α : Type} (P : Program) (fs : Array Field) (j off : Nat) (d : Kd α) (B : α → Prop) : Prop :=
  ∀ (H : Type) (enc : TypeId × Value → H) (w : World) (base : Nat) (spare : Nat → Bool) (held : Bool) (n : Nat) (cs : List Value) (xs : List (DataW H × List MemPlace)), xs.length = fs.size →
    (∀ (i : Nat) (f : Field), fs[i]? = some f → DataW.trod enc P w base spare held n f.type ((cs.drop f.offset).take (P.cellsOf f.type)) = xs[i]?) → ∃ p, d.K w p ((cs.drop off).take d.sz) ∧ B p
theorem OpensS.one {α : Type} {P : Program} {fs : Array Field} {j off : Nat} {d : Kd α} {B : α → Prop} (f : Field) (hf : fs[j]? = some f) (ho : f.offset = off) (h : Opens P d f.type B) : OpensS P fs j off d B := by
  intro H enc w base spare held n cs xs hl hx
  have h1 := hx j f hf
  have hj : j < xs.length := by rw [hl]; exact (Array.getElem?_eq_some_iff.1 hf).1
  rw [List.getElem?_eq_getElem hj, ho, h.sz] at h1
  exact h.op H enc w base spare held n _ _ h1
theorem OpensS.cons {α β : Type} {P : Program} {fs : Array Field} {j off : Nat} {d : Kd α} {d' : Kd β} {B : α → Prop} {B' : β → Prop} (h : OpensS P fs j off d B) (h' : OpensS P fs (j + 1) (off + d.sz) d' B') : OpensS P fs j off (Kd.pair d d') (fun p => B p.1 ∧ B' p.2) := by
  intro H enc w base spare held n cs xs hl hx
  obtain ⟨p, h1, h2⟩ := h H enc w base spare held n cs xs hl hx
  obtain ⟨q, h3, h4⟩ := h' H enc w base spare held n cs xs hl hx
  refine ⟨(p, q), ⟨_, _, ?_, h1, h3⟩, h2, h4⟩
  show (cs.drop off).take (d.sz + d'.sz) = _
  rw [List.take_add, List.drop_drop]
theorem OpensS.iso {α β : Type} {P : Program} {fs : Array Field} {j off : Nat} {d : Kd α} {B : α → Prop} (h : OpensS P fs j off d B) (f : β → α) (g : α → β) (hg : ∀ a, f (g a) = a) : OpensS P fs j off (Kd.iso d f) (fun y => B (f y)) := by
  intro H enc w base spare held n cs xs hl hx
  obtain ⟨p, h1, h2⟩ := h H enc w base spare held n cs xs hl hx
  exact ⟨g p, by show d.K w (f (g p)) _; rw [hg]; exact h1, by show B (f (g p)); rw [hg]; exact h2⟩
theorem Opens.struct {α : Type} {P : Program} {fs : Array Field} {d : Kd α} {t : TypeId} {B : α → Prop} (h : OpensS P fs 0 0 d B) (ht : P.underlying t = some (.struct fs)) (hc : P.cellsOf t = d.sz) : Opens P d t B :=
  ⟨hc, fun H enc w base spare held n cs x hx => by
    obtain ⟨xs, n', _, _, hcl, hl, hf⟩ := DataW.trod_struct ht hx
    obtain ⟨p, h1, h2⟩ := h H enc w base spare held n' cs xs hl hf
    refine ⟨p, ?_, h2⟩
    rw [List.drop_zero, List.take_of_length_le (by rw [hcl, hc]; exact Nat.le_refl _)] at h1
    exact h1⟩
theorem Opens.arg_slice {α : Type} {P : Program} {d : Kd α} {t e : TypeId} {B : List α → Prop} (h : Opens P (Kd.slice e d) t B) {H : Type} {enc : TypeId × Value → H} {w : World} {base : Nat} {spare : Nat → Bool} {held : Bool} {v : Value} {x : DataW H} {ps : List MemPlace} {a : Option Addr} {len cap : Nat} (hv : v = .slice a len cap) (hx : DataW.Trod enc P w base spare held t v x ps) :
    ∃ l : List α, len = l.length ∧ l.length ≤ cap ∧ Kd.C d w a l.length l ∧ B l := by
  obtain ⟨n, hn⟩ := hx
  subst hv
  obtain ⟨l, ⟨A, c, he, hl, hr⟩, hb⟩ := h.op H enc w base spare held n _ _ hn
  have he' : Value.slice a len cap = .slice A l.length c := by simpa [Value.cells] using he
  cases he'
  exact ⟨l, rfl, hl, hr, hb⟩
end Go.Proofs.YtjaapkkpmegkfaaGreat.P
namespace Go.Proofs.YtjaapkkpmegkfaaGreat.P
open Go.RowKit Go.Proofs.YtjaapkkpmegkfaaGreatW.PrintWords
def IsK (k : IntKind) (n : Int) : Prop := (Lit.int k n).wf = true
theorem O_i64 : Opens Tryz.prog (Kd.int .i64) 3 (IsK .i64) := Opens.int Tryz.underlying3 (by kernel_rfl)
def B24 (x : S24) : Prop := (IsK .i64) x.f0 ∧ (IsK .i64) x.f1
theorem O24 : Opens Tryz.prog k24 24 B24 := by
  refine Opens.struct ?_ Tryz.underlying24 (by kernel_rfl)
  refine OpensS.iso (d := (Kd.pair (Kd.int .i64) (Kd.int .i64))) (B := fun p => (IsK .i64) p.1 ∧ (IsK .i64) p.2) ?_ (fun x : S24 => (x.f0, x.f1)) (fun p => ⟨p.1, p.2⟩) (fun _ => rfl)
  refine OpensS.cons (B := IsK .i64) (B' := fun p : Int => (IsK .i64) p) ?_ ?_
  · exact OpensS.one _ rfl rfl O_i64
  exact OpensS.one _ rfl rfl O_i64
def B68 (x : S68) : Prop := (IsK .i64) x.f0 ∧ (IsK .i64) x.f1 ∧ (IsK .i64) x.f2 ∧ (B24) x.f3
theorem O68 : Opens Tryz.prog k68 68 B68 := by
  refine Opens.struct ?_ Tryz.underlying68 (by kernel_rfl)
  refine OpensS.iso (d := (Kd.pair (Kd.int .i64) (Kd.pair (Kd.int .i64) (Kd.pair (Kd.int .i64) k24)))) (B := fun p => (IsK .i64) p.1 ∧ (IsK .i64) p.2.1 ∧ (IsK .i64) p.2.2.1 ∧ (B24) p.2.2.2) ?_ (fun x : S68 => (x.f0, x.f1, x.f2, x.f3)) (fun p => ⟨p.1, p.2.1, p.2.2.1, p.2.2.2⟩) (fun _ => rfl)
  refine OpensS.cons (B := IsK .i64) (B' := fun p : Int × Int × S24 => (IsK .i64) p.1 ∧ (IsK .i64) p.2.1 ∧ (B24) p.2.2) ?_ ?_
  · exact OpensS.one _ rfl rfl O_i64
  refine OpensS.cons (B := IsK .i64) (B' := fun p : Int × S24 => (IsK .i64) p.1 ∧ (B24) p.2) ?_ ?_
  · exact OpensS.one _ rfl rfl O_i64
  refine OpensS.cons (B := IsK .i64) (B' := fun p : S24 => (B24) p) ?_ ?_
  · exact OpensS.one _ rfl rfl O_i64
  exact OpensS.one _ rfl rfl O24
end Go.Proofs.YtjaapkkpmegkfaaGreat.P
