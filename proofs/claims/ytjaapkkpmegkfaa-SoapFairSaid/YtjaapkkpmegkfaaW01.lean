/- Part 1 of what the law's proof needs beyond its base: words, walks of functions and plain facts. -/
import Derived.Below
import Derived.Deep.Draws
import Derived.Deep.AppendLies
import Derived.Maps.AppendAt
import Derived.OwnWalk
import Derived.Laws.BytesArg
import Derived.Laws.MakeOwn
import Derived.Laws.OwnMore
import Derived.Deep.OwnRows
import Derived.Tactics
import Derived.Lib.ConvBytes
import Derived.Laws.Slices
import Derived.WalkKit
import Derived.KernelRfl
import Derived.RowKit3
import Derived.Deep.LoopGhost
import Derived.Deep.QuietTactic
import Derived.BigQuiet
import Derived.WideLaws
import Derived.Deep.DeepCutAuto
import Derived.Deep.CutBlock
import Derived.Deep.RegionHeld3
import Derived.Laws.Rows
import Derived.Lib.AppendStr
import Derived.ArgAppend
import Derived.Laws.IdiomCopy
import Derived.RowKit
import Derived.Deep.Slices
import Derived.OpenShut
import Derived.ChangeArms
import Derived.RangeFuncNested
import Derived.RangeFuncBound
import Derived.RangeFuncCalls
import Derived.RangeFuncLeaves
import Derived.Shelf.Abstract
import Derived.Shelf.RegionOpen
import Derived.OwnWalkIn
import Derived.TacticsInMore
import Derived.LoopNIn
import Derived.LoopIn
import Derived.Test.YtjaapkkpmegkfaaR13
set_option linter.unusedVariables false
set_option linter.unusedSimpArgs false
namespace Go.Proofs.YtjaapkkpmegkfaaW.PrintWords
open Go.RowKit
def Qat (w : World) (k : IntKind) (A : Option Addr) (n : Nat) (xs : List Int) : Prop :=
 xs.length = n ∧ n ≤ 9223372036854775807 ∧ (0 < n → ∃ ad, A = some ad ∧ ∀ j, j < n → w.cell? (ad.add j) = some (.int k (xs.getD j 0)))
theorem Qat.below {w w1 : World} {k : IntKind} {A : Option Addr} {n : Nat} {xs : List Int} (h : Qat w k A n xs) (hb : Below w.heap.size w w1) : Qat w1 k A n xs :=
 ⟨h.1, h.2.1, fun hn => by
  obtain ⟨ad, e, hc⟩ := h.2.2 hn; exact ⟨ad, e, fun j hj => XY hb (hc j hj)⟩⟩
theorem LeO.trans {α : Type} {a b c : Option α} (h : LeO a b) (k : LeO b c) : LeO a c := fun r hr => k r (h r hr)
theorem LeO.map {α β : Type} {a a' : Option α} (f : α → β) (h : LeO a a') : LeO (a.map f) (a'.map f) := by
 intro r hr; obtain ⟨x, hx, hf⟩ := Option.map_eq_some_iff.1 hr; exact Option.map_eq_some_iff.2 ⟨x, h x hx, hf⟩
theorem Qay {α : Type} {g : Nat → Option α} (h : ∀ k, LeO (g k) (g (k + 1))) (k : Nat) : ∀ j, LeO (g k) (g (k + j))
 | 0 => LeO.refl _
 | j + 1 => (Qay h k j).trans (h (k + j))
theorem Qav {α : Type} {g : Nat → Option α} (h : ∀ k, LeO (g k) (g (k + 1))) {k k' : Nat} (hk : k ≤ k') {r : α} (hr : g k = some r) : g k' = some r := by
 have := Qay h k (k' - k) r hr
 rwa [Nat.add_sub_cancel' hk] at this
def Qap (w w' : World) (g : Nat) (row : Option Nat) : Prop := w.heap.size ≤ w'.heap.size ∧ ∀ i, i < w.heap.size → i ≠ g → some i ≠ row → w'.heap[i]? = w.heap[i]?
theorem Qap.refl (w : World) (g : Nat) (row : Option Nat) : Qap w w g row := ⟨Nat.le_refl _, fun _ _ _ _ => rfl⟩
theorem Qap.of_below {w w1 : World} (h : Below w.heap.size w w1) (g : Nat) (row : Option Nat) : Qap w w1 g row := ⟨h.size, fun i hi _ _ => h.block i hi⟩
theorem Qap.trans {w w1 w2 : World} {g : Nat} {row row1 : Option Nat} (h : Qap w w1 g row) (k : Qap w1 w2 g row1) (hr : row1 = row ∨ ∃ b, row1 = some b ∧ w.heap.size ≤ b) : Qap w w2 g row :=
 ⟨Nat.le_trans h.1 k.1, fun i hi hg hn => by
  refine (k.2 i (Nat.lt_of_lt_of_le hi h.1) hg ?_).trans (h.2 i hi hg hn)
  rcases hr with rfl | ⟨b, rfl, hb⟩
  ·exact hn
  ·intro e
   injection e with e
   omega⟩
theorem Qap.blk {w w1 : World} {g g' : Nat} {row : Option Nat} {o : Obj} (h : Qap w w1 g row) (hb : w.heap[g']? = some o) (hg : g' ≠ g) (hr : some g' ≠ row) : w1.heap[g']? = some o := (h.2 g' (Jh hb) hg hr).trans hb
theorem Qap.own {w w1 : World} {g : Nat} {row : Option Nat} {base : Nat} {e : TypeId} {size n : Nat} {v : Value} {xs : List Value} (h : Qap w w1 g row) (ho : w.ownsRow base e size v n xs) (hg : v.ownBlock ≠ some g) (hr : v.ownBlock = none ∨ v.ownBlock ≠ row) : w1.ownsRow base e size v n xs := by
 obtain ⟨h1, h2⟩ := ho; refine ⟨h1, ?_⟩
 rcases h2 with h2 | ⟨b, cap, cur, rfl, hb, hh, r⟩
 ·exact .inl h2
 ·refine .inr ⟨b, cap, cur, rfl, hb, h.blk hh ?_ ?_, r⟩
  ·intro e
   exact hg (by rw [← e]; rfl)
  ·rcases hr with hr | hr
   ·simp [Value.ownBlock] at hr
   ·exact hr
def Ev {α : Type} (g : Nat → Option α) (r : α) : Prop := ∃ K, ∀ k, K ≤ k → g k = some r
theorem Ev.of {α : Type} {g : Nat → Option α} {r : α} (hg : ∀ k, LeO (g k) (g (k + 1))) {k : Nat} (h : g k = some r) : Ev g r := ⟨k, fun _ hk => Qav hg hk h⟩
theorem Ev.bind {α β : Type} {g : Nat → Option α} {f : Nat → α → Option β} {a : α} {r : β} (h : Ev g a) (k : Ev (fun n => f n a) r) : Ev (fun n => (g n).bind (f n)) r := by
 obtain ⟨K, h⟩ := h; obtain ⟨K', k⟩ := k; refine ⟨max K K', fun n hn => ?_⟩; have h1 := h n (by omega); have h2 := k n (by omega); simp only [h1, Option.bind_some]; exact h2
section
variable {α : Type} {enc : α → Value} {d : α}
theorem ZJ.below {w w1 : World} {A : Option Addr} {n : Nat} {xs : List α} (h : ZJ enc d w A n xs) (hb : Below w.heap.size w w1) : ZJ enc d w1 A n xs :=
 ⟨h.1, h.2.1, fun hn => by
  obtain ⟨ad, e, hc⟩ := h.2.2 hn; exact ⟨ad, e, fun j hj => XY hb (hc j hj)⟩⟩
end
section
variable {α : Type} {R R' : α → List Value → Prop} {e : TypeId} {size : Nat} {w w1 : World} {base : Nat} {v : Value} {ps : List α}
theorem J7.below (h : J7 R e size w base v ps) (hb : Below w.heap.size w w1) : J7 R e size w1 base v ps := by
 obtain ⟨inner, ho, hr⟩ := h; exact ⟨inner, J1 ho hb, hr⟩
theorem J7.keep (h : J7 R e size w base v ps) {g : Nat} {t : TypeId} {cells : Array Value} (hb : w.heap[g]? = some (.cells cells t (0, 0))) (ht : e ≠ t) (hk : Qap w w1 g none) : J7 R e size w1 base v ps := by
 obtain ⟨inner, ho, hr⟩ := h; exact ⟨inner, hk.own ho (Ne.symm (own_ne ho hb ht)) (by cases v.ownBlock <;> simp), hr⟩
end
section
variable {P : Program} {ops : Array Oper} {rest : List Oper} {o : Oper} {a : Act} {Q : Exit → Act → World → Prop} {α : Type} {R : α → List Value → Prop}
theorem J7.append {w0 W : World} (base : Nat) (hgd : o.guard = none) (s x : Operand) (t e : TypeId) (z : Value) (size bytes : Nat)
  (ho : o.op = .call { callee := .builtin .append, args := #[s, x], argTypes := #[t, t] })
  (ht : P.underlying t = some (.slice e)) (hinfo : (P.info? e).map (fun i => (i.zero, i.size, i.bytes)) = some (some z, size, bytes)) (hz : z.cells.size = size) (hs0 : 0 < size) (hb0 : 0 < bytes)
  (v : Value) (ps : List α) (p : α) (cs : List Value) (hs : a.eval s = v) (hx : a.eval x = .slice (some ⟨W.heap.size, 0, none⟩) 1 1) (hp : R p cs) (hcs : cs.length = size) (h1 : ∀ u ∈ cs, u.oneCell' = true)
  (HO : J7 R e size W base v ps) (HB : Below base w0 W) (hbase : base ≤ W.heap.size) (hl : (ps.length + 1) * bytes ≤ 140737488355328)
  (h : ∀ v1 w1, J7 R e size w1 base v1 (ps ++ [p]) → Below base w0 w1 → W.grownBy w1 v.ownBlock → (v1.ownBlock = v.ownBlock ∨ ∃ b, v1.ownBlock = some b ∧ W.heap.size ≤ b) → wpList P ops Q rest (a.put o.dst v1) w1) :
  wpList P ops Q (o :: rest) a (W.alloc (.cells cs.toArray e)) := by
 obtain ⟨inner, hown, hr⟩ := HO; refine Xk base hgd s x t e z size bytes ho ht hinfo hz hs0 hb0 v ps.length inner cs hs hx hcs h1 hown HB hbase hl ?_; intro v1 w1 hown1 hb1 hg1 hat1; exact h v1 w1 ⟨inner ++ cs, by rw [List.length_append, List.length_singleton]; exact hown1, hr.snoc hp hcs⟩ hb1 hg1 hat1
end
namespace Kd
def bool : Kd Bool := JW Value.bool (fun _ => rfl)
end Kd
namespace Kd
section
variable {α β : Type} {d : Kd α} {d' : Kd β} {e e' : Nat} {w w1 W : World} {base b b' : Nat} {ok ok' okv oku : Nat → Prop} {v u : Value} {xs : List α} {ys : List β}
theorem R_alloc (h : d.R e w base ok v xs) (o : Obj) : d.R e (w.alloc o) base ok v xs := R_below h (QO (Below.refl _ _) o)
end
end Kd
def QRow (w : World) (base : Nat) (e : TypeId) (size : Nat) (v : Value) (n : Nat) (xs : List Value) : Prop :=
  xs.length = n * size ∧
  ((n = 0 ∧ ∃ A, v = .slice A 0 0 ∧ ∀ a, A = some a → base ≤ a.block ∧ ∃ cur, w.heap[a.block]? = some (.cells cur e (0, 0))) ∨
   ∃ g off cap cur, v = .slice (some ⟨g, off * size, none⟩) n cap ∧ base ≤ g ∧ w.heap[g]? = some (.cells cur e (0, 0)) ∧ n ≤ cap ∧ off + cap ≤ maxLen ∧ cur.size = (off + cap) * size ∧ (cur.toList.drop (off * size)).take (n * size) = xs)
namespace Kd
def Q {α : Type} (d : Kd α) (e : Nat) (w : World) (base : Nat) (ok : Nat → Prop) (v : Value) (xs : List α) : Prop :=
 (∀ k, v.ownBlock = some k → ok k) ∧ ∃ inner, QRow w base e d.sz v xs.length inner ∧ Reps (d.M w base (fun k => ok k ∧ some k ≠ v.ownBlock)) d.sz xs inner
end Kd
theorem Qba {w W : World} {g : Nat} (h : Qap w W g none) {a : Addr} {v : Value} (hc : w.cell? a = some v) (hne : a.block ≠ g) : W.cell? a = some v := by
 have := h.2 a.block (World.block_lt_of_cell? w a hc) hne (by simp)
 simpa [World.cell?, this] using hc
theorem Qa6 (a : Addr) (i : Nat) : (a.add i).block = a.block := by unfold Addr.add; split <;> rfl
theorem Qat.keep {w W : World} {k : IntKind} {A : Option Addr} {n g : Nat} {xs : List Int} (h : Qat w k A n xs) (hk : Qap w W g none) (hf : ∀ ad, A = some ad → 0 < n → ad.block ≠ g) : Qat W k A n xs :=
 ⟨h.1, h.2.1, fun hn => by
  obtain ⟨ad, e, hc⟩ := h.2.2 hn; exact ⟨ad, e, fun j hj => Qba hk (hc j hj) (by rw [Qa6]; exact hf ad e hn)⟩⟩
theorem ZJ.keep {α : Type} {enc : α → Value} {d : α} {w W : World} {A : Option Addr} {n g : Nat} {xs : List α} (h : ZJ enc d w A n xs) (hk : Qap w W g none) (hf : ∀ ad, A = some ad → 0 < n → ad.block ≠ g) : ZJ enc d W A n xs :=
 ⟨h.1, h.2.1, fun hn => by
  obtain ⟨ad, e, hc⟩ := h.2.2 hn; exact ⟨ad, e, fun j hj => Qba hk (hc j hj) (by rw [Qa6]; exact hf ad e hn)⟩⟩
end Go.Proofs.YtjaapkkpmegkfaaW.PrintWords
namespace Go.Proofs.YtjaapkkpmegkfaaW.PrintWords
open Go.RowKit
namespace Kd
def gap {α : Type} (f : Nat → Nat) (d : Kd α) (i : Nat) (c : List Value) : Kd (α × Nat) where
 sz := d.sz
 E := d.E
 K := fun w x cs => (x.2 = i → cs = c ∧ cs.length = d.sz ∧ ∀ u ∈ cs, u.oneCell' = true) ∧ (x.2 ≠ i → d.K w x.1 cs)
 M := fun w base ok x cs => (x.2 = i → cs = c ∧ cs.length = d.sz ∧ ∀ u ∈ cs, u.oneCell' = true) ∧ (x.2 ≠ i → d.M w base (fun k => ok k ∧ f k = x.2) x.1 cs)
 K_len := fun {w x cs} h => by
  by_cases hx : x.2 = i
  ·exact (h.1 hx).2.1
  ·exact d.K_len (h.2 hx)
 K_one := fun {w x cs} h => by
  by_cases hx : x.2 = i
  ·exact (h.1 hx).2.2
  ·exact d.K_one (h.2 hx)
 K_below := fun hb h => ⟨h.1, fun hx => d.K_below hb (h.2 hx)⟩
 K_of_M := fun h => ⟨h.1, fun hx => d.K_of_M (h.2 hx)⟩
 M_mono := fun hok h => ⟨h.1, fun hx => d.M_mono (fun k hk => ⟨hok k hk.1, hk.2⟩) (h.2 hx)⟩
 M_bound := fun h => ⟨h.1, fun hx => d.M_mono (fun _ hk => ⟨⟨hk.1.1, hk.2⟩, hk.1.2⟩) (d.M_bound (h.2 hx))⟩
 M_move := fun hm h => ⟨h.1, fun hx => d.M_move (fun k hk => hm k hk.1) (h.2 hx)⟩
 M_lower := fun hb h => ⟨h.1, fun hx => d.M_lower hb (h.2 hx)⟩
def H {α : Type} (d : Kd α) (e : Nat) (w : World) (base : Nat) (ok : Nat → Prop) (v : Value) (xs : List α) (i : Int) (oki : Nat → Prop) (c : List Value) : Prop :=
 (∀ k, oki k → ok k) ∧ ∃ f, (gap f d i.toNat c).R e w base (fun k => ok k ∧ ¬ oki k) v xs.zipIdx
end Kd
end Go.Proofs.YtjaapkkpmegkfaaW.PrintWords
namespace Go.Proofs.YtjaapkkpmegkfaaW.PrintWords
open Go.RowKit
section
variable {w W W2 : World} {S S2 S' : Nat → Prop}
theorem Kept.of_below (h : Below w.heap.size w W) (S : Nat → Prop) : Kept w W S := ⟨h.size, fun i hi _ => h.block i hi⟩
theorem Kept.mono (h : Kept w W S) (hs : ∀ k, S k → S' k) : Kept w W S' := ⟨h.1, fun i hi hn => h.2 i hi (fun hk => hn (hs i hk))⟩
theorem Kept.below (h : Kept w W S) (hb : Below W.heap.size W W2) : Kept w W2 S := h.then_ (Kept.of_below hb (fun _ => False)) (fun _ hk => hk.elim)
theorem Kept.alloc (h : Kept w W S) (o : Obj) : Kept w (W.alloc o) S := h.below (QO (Below.refl _ _) o)
theorem Kept.keep {g : Nat} (h : Qap w W g none) (k : Kept W W2 S2) (hs : ∀ k, S2 k → w.heap.size ≤ k) : Qap w W2 g none :=
 ⟨Nat.le_trans h.1 k.1, fun i hi hg hr => (k.2 i (Nat.lt_of_lt_of_le hi h.1) (fun h2 => by have := hs i h2; omega)).trans (h.2 i hi hg hr)⟩
end
end Go.Proofs.YtjaapkkpmegkfaaW.PrintWords
namespace Go.Proofs.YtjaapkkpmegkfaaW.PrintWords
open Go.RowKit
namespace Foot
variable {P Q : World → Prop} {W W1 : World} {ok ok' : Nat → Prop}
theorem imp (h : Foot P W ok) (hi : ∀ W', P W' → Q W') : Foot Q W ok := fun W' hW => hi W' (h W' hW)
end Foot
end Go.Proofs.YtjaapkkpmegkfaaW.PrintWords
namespace Go.Proofs.Ytjaapkkpmegkfaa.R
open Go.RowKit Go.Shelf
theorem ZR.refl (n₀ : Nat) (Ex : Nat → Prop) (B0 B : Nat) (E : Nat → Prop) (W : World) : ZR n₀ Ex B0 B E W W := ⟨fun _ _ _ h _ => h, JF.refl _ _ _ _ _⟩
theorem ZR.trans {n₀ : Nat} {Ex : Nat → Prop} {B0 B : Nat} {E : Nat → Prop} {X Y Z : World} (h : ZR n₀ Ex B0 B E X Y) (k : ZR n₀ Ex B0 B E Y Z) : ZR n₀ Ex B0 B E X Z :=
 ⟨fun j o hB ho hc => k.book j o hB (h.book j o hB ho hc) hc, h.keep.trans k.keep⟩
theorem ZR.of_below {n₀ : Nat} {Ex : Nat → Prop} {B0 B : Nat} {E : Nat → Prop} {W W' : World} (h : Below W.heap.size W W') : ZR n₀ Ex B0 B E W W' :=
 ⟨fun k o _ ho _ => (h.block k (Array.getElem?_eq_some_iff.1 ho).1).trans ho, JF.of_below h⟩
variable {F : Fence} {n : Nat} {P : Program}
end Go.Proofs.Ytjaapkkpmegkfaa.R
namespace Go.Proofs.Ytjaapkkpmegkfaa.P
open Go.RowKit Go.Proofs.YtjaapkkpmegkfaaW.PrintWords Go.Proofs.YtjaapkkpmegkfaaW.PrintLast Go.Proofs.YtjaapkkpmegkfaaW.PrintMore
theorem QK.mono_l : ∀ k, (∀ y0 y1 y2 y3 y4, LeO (QK.l0 k y0 y1 y2 y3 y4) (QK.l0 (k + 1) y0 y1 y2 y3 y4)) ∧ (∀ y0 y1 y2 y3, LeO (QK.l1 k y0 y1 y2 y3) (QK.l1 (k + 1) y0 y1 y2 y3))
 | 0 => ⟨fun _ _ _ _ _ r h => by simp [QK.l0] at h, fun _ _ _ _ r h => by simp [QK.l1] at h⟩
 | k + 1 => by
  obtain ⟨ih0, ih1⟩ := QK.mono_l k; refine ⟨?_, ?_⟩
  ·intro y0 y1 y2 y3 y4
   unfold QK.l0
   repeat' first
   | (with_reducible exact ih0 _ _ _ _ _)
   | (with_reducible exact ih1 _ _ _ _)
   | (with_reducible exact LeO.refl _)
   | (with_reducible exact LeO.none _)
   | (with_reducible refine LeO.ite ?_ ?_)
   | (with_reducible refine LeO.bind ?_ (fun _ => ?_))
  ·intro y0 y1 y2 y3
   unfold QK.l1
   repeat' first
   | (with_reducible exact ih0 _ _ _ _ _)
   | (with_reducible exact ih1 _ _ _ _)
   | (with_reducible exact LeO.refl _)
   | (with_reducible exact LeO.none _)
   | (with_reducible refine LeO.ite ?_ ?_)
   | (with_reducible refine LeO.bind ?_ (fun _ => ?_))
theorem QK.mono : ∀ a0 k, LeO (QK.f k a0) (QK.f (k + 1) a0) := by
 intro a0 k; obtain ⟨ih0, ih1⟩ := QK.mono_l k; unfold QK.f
 repeat' first
   | (with_reducible exact ih0 _ _ _ _ _)
   | (with_reducible exact ih1 _ _ _ _)
   | (with_reducible exact LeO.refl _)
   | (with_reducible exact LeO.none _)
   | (with_reducible refine LeO.ite ?_ ?_)
   | (with_reducible refine LeO.bind ?_ (fun _ => ?_))
theorem aS_ {tm tm' : List Value} {df : List Deferred} {N : Nat} {v v' : Value} (hv : v = v') (ht : tm.set N v' = tm') : Act.put ⟨tm.toArray, df⟩ (some N) v = ⟨tm'.toArray, df⟩ := by
 subst hv; subst ht; simp [Act.put]
section
variable {P : Program} {md : Region.Mode} {ops : Array Oper} {Q : Exit → Act → World → Prop} {S : World → Prop} {ds : List Nat} {oi : Oper} {fuel : Nat} {w : World}
theorem pU {v v' : Value} {tm tm' : List Value} {df : List Deferred} {lb lb' : List Bool} (i N : Nat) (h : QF P md ops Q S ds fuel lb'.toArray ⟨tm'.toArray, df⟩ w)
  (hl : lb.set i true = lb' := by (dsimp only [List.set_cons_zero, List.set_cons_succ]; try rfl))
  (hi : ops[i]? = some oi := by rfl) (hN : oi.dst = some N := by rfl) (hc : anyB md ops lb.toArray lb'.toArray i = true := by first | exact Y4 HT_.out (by kernel_rfl) | kernel_rfl)
  (hQ : ∀ c a w, Q (.panic c) (a.put oi.dst v) w → Q (.panic c) a w := by exact fun _ _ _ h => h)
  (hy : Yields P ops oi v ⟨tm.toArray, df⟩ := by (refine Or.inl ⟨by rfl, ?_⟩; intro w'; go_simp; with_reducible rfl))
  (hv : v = v' := by ((try simp only [QR, QU]); rfl))
  (ht : tm.set N v' = tm' := by (dsimp only [List.set_cons_zero, List.set_cons_succ]; try rfl)) : QF P md ops Q S ds (fuel + 1) lb.toArray ⟨tm.toArray, df⟩ w := pure_ lb'.toArray hi hN hc hQ hy (aS_ hv ht) h
theorem pD {tm tm' : List Value} {df : List Deferred} {lb lb' : List Bool} (i N : Nat) (h : QF P md ops Q S ds fuel lb'.toArray ⟨tm'.toArray, df⟩ w)
  (hl : lb.set i true = lb' := by (dsimp only [List.set_cons_zero, List.set_cons_succ]; try rfl))
  (hi : ops[i]? = some oi := by rfl) (hN : oi.dst = some N := by rfl) (hc : anyB md ops lb.toArray lb'.toArray i = true := by first | exact Y4 HT_.out (by kernel_rfl) | kernel_rfl)
  (hQ : ∀ c a w, Q (.panic c) (a.put oi.dst undef) w → Q (.panic c) a w := by exact fun _ _ _ h => h)
  (hy : Yields P ops oi undef ⟨tm.toArray, df⟩ := by exact Or.inr ⟨by rfl, rfl⟩)
  (ht : tm.set N undef = tm' := by (dsimp only [List.set_cons_zero, List.set_cons_succ]; try rfl)) : QF P md ops Q S ds (fuel + 1) lb.toArray ⟨tm.toArray, df⟩ w := pure_ lb'.toArray hi hN hc hQ hy (aS_ rfl ht) h
theorem tK {v v' : Value} {tm tm' : List Value} {df : List Deferred} {lb lb' : List Bool} (i N : Nat) (hS : S w) (h : QF P md ops Q S ds fuel lb'.toArray ⟨tm'.toArray, df⟩ w)
  (hl : lb.set i true = lb' := by (dsimp only [List.set_cons_zero, List.set_cons_succ]; try rfl))
  (hi : ops[i]? = some oi := by rfl) (hN : oi.dst = some N := by rfl) (hc : Xq md ops ds lb.toArray lb'.toArray i = true := by first | exact Ye HT_.out HW_.out (by kernel_rfl) | kernel_rfl)
  (hQ : ∀ c a w, Q (.panic c) (a.put oi.dst v) w → Q (.panic c) a w := by exact fun _ _ _ h => h)
  (hy : YieldsIf P ops S oi v ⟨tm.toArray, df⟩ := by (refine Or.inl ⟨by rfl, ?_⟩; intro w' s_; repeat (have := And.left s_; replace s_ := And.right s_); go_simp; with_reducible rfl))
  (hv : v = v' := by ((try simp only [QR, QU]); rfl))
  (ht : tm.set N v' = tm' := by (dsimp only [List.set_cons_zero, List.set_cons_succ]; try rfl)) : QF P md ops Q S ds (fuel + 1) lb.toArray ⟨tm.toArray, df⟩ w := X3 lb'.toArray hi hN hc hQ hy hS (aS_ hv ht) h
end
end Go.Proofs.Ytjaapkkpmegkfaa.P
namespace Go.Proofs.Ytjaapkkpmegkfaa.P
open Go.RowKit Go.Proofs.YtjaapkkpmegkfaaW.PrintWords Go.Proofs.YtjaapkkpmegkfaaW.PrintLast Go.Proofs.YtjaapkkpmegkfaaW.PrintMore
attribute [local go_sem] JG JH JY JX Jv Ju JJ JK
def Qaq.f (l0 : List Int) : Option (List Int) := (some (([] : List Int) : List Int)).bind fun y101 => (if y101.length + l0.length < 17592186044416 then (some (y101 ++ l0)) else (none))
set_option maxHeartbeats 8000000 in
set_option maxRecDepth 100000 in
theorem Qaq.calls (A0 : Option Addr) (c0 : Nat) (l0 r : List Int) (w : World) (hr0 : Kd.C (Kd.int .i64) w A0 l0.length l0) (hc0 : l0.length ≤ c0) (h : Qaq.f l0 = some r) :
  Calls Try.prog 5 #[.slice A0 l0.length c0] w fun e w' => ∃ v0_ : Value, e = .returned (v0_) ∧ Kd.R (Kd.int .i64) 3 w' w.heap.size (fun _ => True) v0_ r ∧ Below w.heap.size w w' := by
 have HR0 := Qa.mk hr0; have HC0 := Qa.mk hc0; clear hr0 hc0; have HB := Qa.mk (Below.refl w.heap.size w); have H : ((some (([] : List Int) : List Int)).bind fun y101 => (if y101.length + l0.length < 17592186044416 then (some (y101 ++ l0)) else (none))) = some r := h; clear h; obtain ⟨y101, hy101⟩ : ∃ y_ : List Int, y_ = (([] : List Int)) := ⟨_, rfl⟩
 replace H : (if y101.length + l0.length < 17592186044416 then (some (y101 ++ l0)) else (none)) = some r := yy hy101 H; have Ny101 := Qa.mk hy101; clear hy101; by_cases c2 : y101.length + l0.length < 17592186044416
 ·rw [if_pos c2] at H
  have LMc2 := Qa.mk c2; clear c2; obtain ⟨y104, hy104⟩ : ∃ y_ : List Int, y_ = (y101 ++ l0) := ⟨_, rfl⟩
  replace H : (some y104) = some r := yy hy104 H; have Ny104 := Qa.mk hy104; clear hy104; obtain rfl := Option.some.inj H; go_enter Try.func5, Try.ntmps5; go_wp2_with (first | ((with_reducible refine gd 3 ?_); refine rL (Kd.int .i64) 3 3 ([] : List Int) [] (Reps.none _ _) ?_; intro v102 w3 ho4 hb; replace ho4 := yR Ny101 ho4; have HO103 := rl ho4 HB; replace HB := bs HB hb; clear hb ho4) | ((with_reducible refine JA (b := .append) (xs := #[.tmp 3, .tmp 4]) rfl ?_); at_builtin; refine Kd.R_append_rows (Kd.int .i64) (w0 := w) w.heap.size rfl (.tmp 3) (.tmp 4) 24 3 (.int .i64 0) 8 rfl Try.underlying24 J5 rfl (by decide) (by omega) v102 y101 l0 _ _ _ (fun _ => True) (fun _ => False) rfl rfl ?aO ?aR (fun _ _ h => h) (fun _ h => h.elim) ?aF ?aB ?aS ?aL ?_; (case aR => exact pC (Kd.C_below HR0.out HB.out)); (case aB => exact (pE HB)); (case aF => exact (fun _ _ => trivial)); (case aO => exact (pR HO103.out)); (case aS => exact (Qr (pE HB))); (case aL => have := LMc2.out; omega); intro v105 w5 ho hb hg hat; rw [← Ny104.out] at ho; replace HB := Qa.mk (hb); have HO106 := Qa.mk (ho); clear HO103; clear ho hb hg hat)); go_ret; exact ⟨_, eT, by (with_reducible repeat (first | apply Kd.R_alloc | apply Kd.R_drewN | apply Kd.R_drew)); exact HO106.out, pE HB⟩
 ·rw [if_neg c2] at H
  exact absurd H (by simp)
end Go.Proofs.Ytjaapkkpmegkfaa.P
namespace Go.Proofs.Ytjaapkkpmegkfaa.P
open Go.RowKit Go.ChangeShapes Go.WideShapes Go.Deep Go.Proofs.YtjaapkkpmegkfaaW.PrintWords Go.Proofs.YtjaapkkpmegkfaaW.PrintLast Go.Proofs.YtjaapkkpmegkfaaW.PrintMore
structure Qas {α : Type} (P : Program) (d : Kd α) (t : TypeId) (B : α → Prop) : Prop where
 sz : P.cellsOf t = d.sz
 op : ∀ (H : Type) (enc : TypeId × Value → H) (w : World) (base : Nat) (spare : Nat → Bool) (held : Bool) (n : Nat) (cs : List Value) (x : DataW H × List MemPlace), DataW.trod enc P w base spare held n t cs = some x → ∃ p, d.K w p cs ∧ B p
theorem Qas.int {P : Program} {t : TypeId} {k : IntKind} (ht : P.underlying t = some (.int k)) (hc : P.cellsOf t = 1) : Qas P (Kd.int k) t (fun n => (Lit.int k n).wf = true) :=
 ⟨hc, fun H enc w base spare held n cs x h => by
  obtain ⟨m, rfl, _, hw⟩ := DataW.trod_int ht h; exact ⟨m, rfl, hw⟩⟩
theorem Qaz {α : Type} {Q : Nat → α → Prop} : ∀ (n : Nat), (∀ i, i < n → ∃ p, Q i p) → ∃ l : List α, l.length = n ∧ ∀ i p, l[i]? = some p → Q i p
 | 0, _ => ⟨[], rfl, fun i p h => by simp at h⟩
 | n + 1, h => by
  obtain ⟨l, hl, hq⟩ := Qaz n (fun i hi => h i (by omega)); obtain ⟨p, hp⟩ := h n (by omega); refine ⟨l ++ [p], by simp [hl], fun i q hi => ?_⟩
  rcases Nat.lt_or_ge i l.length with h1 | h1
  ·rw [List.getElem?_append_left h1] at hi
   exact hq i q hi
  ·have : i = n := by
    have := (List.getElem?_eq_some_iff.1 hi).1
    simp at this
    omega
   subst this; rw [List.getElem?_append_right h1, hl, Nat.sub_self] at hi; obtain rfl : p = q := by simpa using hi
   exact hp
theorem Qas.slice {α : Type} {P : Program} {d : Kd α} {t e : TypeId} {B : α → Prop} (h : Qas P d e B) (ht : P.underlying t = some (.slice e)) (hc : P.cellsOf t = 1) : Qas P (Kd.slice e d) t (fun l => ∀ x ∈ l, B x) :=
 ⟨hc, fun H enc w base spare held n cs x hx => by
  rcases open_slice ht hx with ⟨rfl, _⟩ | ⟨a, len, cap, m, n', D, Pl, rfl, hb, hl, hm, hmm, _, hi⟩
  ·exact ⟨[], ⟨none, 0, rfl, Nat.le_refl _, Kd.C_nil _ _⟩, fun x hx => by cases hx⟩
  ·obtain ⟨l, hll, hq⟩ := Qaz (Q := fun i p => (∃ cs', d.K w p cs' ∧ ∀ j, j < d.sz → w.cell? (a.add (i * d.sz + j)) = cs'[j]?) ∧ B p) len (fun i hi' => by
    obtain ⟨cs', hcs, htr⟩ := hi i (by rw [hmm]; split <;> omega); obtain ⟨p, hk, hp⟩ := h.op H enc w base spare held n' cs' _ htr; obtain ⟨_, hcl, hat⟩ := World.cells?_some hcs; rw [h.sz] at hat
    exact ⟨p, ⟨cs', hk, fun j hj => by
     have := hat j hj; rw [Go.Deep.add_add] at this; exact this⟩, hp⟩)
   refine ⟨l, ⟨some a, cap, by rw [hll], by rw [hll]; exact hl, ⟨rfl, by rw [hll]; simp only [maxLen] at hm; omega, fun h0 => ⟨a, rfl, fun j p hj => ?_⟩⟩⟩, fun x hx => ?_⟩
   ·obtain ⟨⟨cs', hk, hat⟩, _⟩ := hq j p hj
    refine ⟨cs', d.K_len hk, hk, fun i u hu => ?_⟩; have hi' : i < d.sz := by have := (List.getElem?_eq_some_iff.1 hu).1; rw [d.K_len hk] at this; exact this
    rw [hat i hi', hu]
   ·obtain ⟨i, hi'⟩ := List.getElem?_of_mem hx
    exact (hq i x hi').2⟩
theorem Qas.arg_slice {α : Type} {P : Program} {d : Kd α} {t e : TypeId} {B : List α → Prop} (h : Qas P (Kd.slice e d) t B) {H : Type} {enc : TypeId × Value → H} {w : World} {base : Nat} {spare : Nat → Bool} {held : Bool} {v : Value} {x : DataW H} {ps : List MemPlace} {a : Option Addr} {len cap : Nat} (hv : v = .slice a len cap) (hx : DataW.Trod enc P w base spare held t v x ps) :
  ∃ l : List α, len = l.length ∧ l.length ≤ cap ∧ Kd.C d w a l.length l ∧ B l := by
 obtain ⟨n, hn⟩ := hx; subst hv; obtain ⟨l, ⟨A, c, he, hl, hr⟩, hb⟩ := h.op H enc w base spare held n _ _ hn; have he' : Value.slice a len cap = .slice A l.length c := by simpa [Value.cells] using he
 cases he'
 exact ⟨l, rfl, hl, hr, hb⟩
end Go.Proofs.Ytjaapkkpmegkfaa.P
namespace Go.Proofs.Ytjaapkkpmegkfaa.P
open Go.RowKit Go.Proofs.YtjaapkkpmegkfaaW.PrintWords
def IsK (k : IntKind) (n : Int) : Prop := (Lit.int k n).wf = true
theorem O_u8 : Qas Try.prog (Kd.int .u8) 5 (IsK .u8) := Qas.int Try.underlying5 (by kernel_rfl)
end Go.Proofs.Ytjaapkkpmegkfaa.P
namespace Go.Proofs.Ytjaapkkpmegkfaa.P
open Go.RowKit Go.Shelf Go.Proofs.YtjaapkkpmegkfaaW.PrintWords Go.Proofs.YtjaapkkpmegkfaaW.PrintLast Go.Proofs.YtjaapkkpmegkfaaW.PrintMore
def byte (x : Int) : Prop := 0 ≤ x ∧ x ≤ 255
theorem byte_of {x : Int} (h : IsK .u8 x) : byte x := by
 unfold IsK at h
 simp [Lit.wf, IntKind.min, IntKind.max, IntKind.signed, IntKind.bits] at h
 unfold byte; omega
end Go.Proofs.Ytjaapkkpmegkfaa.P
namespace Go.Proofs.Ytjaapkkpmegkfaa.P
open Go.RowKit Go.Proofs.YtjaapkkpmegkfaaW.PrintWords Go.Proofs.YtjaapkkpmegkfaaW.PrintLast Go.Proofs.YtjaapkkpmegkfaaW.PrintMore
set_option maxRecDepth 100000 in
theorem Qd.eval : Qd.f 60 = some true := by kernel_rfl
theorem Qd.at {k : Nat} (hk : 60 ≤ k) : Qd.f k = some true := Qav (g := Qd.f) Qd.mono hk Qd.eval
theorem Qd.yes {k : Nat} {r : Bool} (h : Qd.f k = some r) : r = true := by
 have h1 := Qav (g := Qd.f) Qd.mono (Nat.le_max_left k 60) h; have h2 := Qav (g := Qd.f) Qd.mono (Nat.le_max_right k 60) Qd.eval; exact Option.some.inj (h1.symm.trans h2)
theorem Qd.calls (k : Nat) (r : Bool) (w : World) (h : Qd.f k = some r) : Calls Try.prog 6 #[] w fun e w' => e = .returned (.bool r) ∧ Below w.heap.size w w' :=
 Qd.calls_true k r w (Qd.yes h) h
end Go.Proofs.Ytjaapkkpmegkfaa.P
