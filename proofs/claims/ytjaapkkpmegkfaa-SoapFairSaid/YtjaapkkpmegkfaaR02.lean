/- Part 2 of what the law's proof needs: words, walks of functions and plain facts. -/
import Derived.Laws.StructEq
import Derived.Test.YtjaapkkpmegkfaaProg
import Derived.Below
import Derived.Deep.Draws
import Derived.Deep.AppendLies
import Derived.Maps.AppendAt
import Derived.OwnWalk
import Derived.Laws.BytesArg
import Derived.Laws.MakeOwn
import Derived.Laws.OwnMore
import Derived.Deep.OwnRows
import Derived.Tactics
import Derived.Lib.ConvBytes
import Derived.Laws.Slices
import Derived.WalkKit
import Derived.KernelRfl
import Derived.RowKit3
import Derived.Deep.LoopGhost
import Derived.Deep.QuietTactic
import Derived.BigQuiet
import Derived.WideLaws
import Derived.Deep.DeepCutAuto
import Derived.Deep.CutBlock
import Derived.Deep.RegionHeld3
import Derived.Laws.Rows
import Derived.Lib.AppendStr
import Derived.ArgAppend
import Derived.Laws.IdiomCopy
import Derived.OrdersHeld
import Derived.Laws.BitsLemmas
import Derived.RowKit
import Derived.Shelf.SlicesQ.Load
import Derived.Shelf.Abstract
import Derived.Lib.Hide
import Derived.Lib.BufferMore
import Derived.Lib.LazyBuf
import Derived.Test.YtjaapkkpmegkfaaR01
set_option linter.unusedVariables false
set_option linter.unusedSimpArgs false
namespace Go.Proofs.YtjaapkkpmegkfaaW.PrintWords
open Go.RowKit
def Kept (w W : World) (S : Nat → Prop) : Prop := w.heap.size ≤ W.heap.size ∧ ∀ i, i < w.heap.size → ¬ S i → W.heap[i]? = w.heap[i]?
section
variable {w W W2 : World} {S S2 S' : Nat → Prop}
theorem Kept.refl (w : World) (S : Nat → Prop) : Kept w w S := ⟨Nat.le_refl _, fun _ _ _ => rfl⟩
theorem Kept.then_ (h : Kept w W S) (k : Kept W W2 S2) (hs : ∀ k, S2 k → S k ∨ w.heap.size ≤ k) : Kept w W2 S :=
 ⟨Nat.le_trans h.1 k.1, fun i hi hn => (k.2 i (Nat.lt_of_lt_of_le hi h.1) (fun h2 => (hs i h2).elim hn (fun h3 => by omega))).trans (h.2 i hi hn)⟩
theorem Kept.drew (h : Kept w W S) : Kept w W.drew S := h
theorem Kept.drewN (h : Kept w W S) (m : Nat) : Kept w (W.drewN m) S := h
theorem Kept.setCell (h : Kept w W S) {p : Addr} (hp : S p.block ∨ w.heap.size ≤ p.block) (u : Value) : Kept w (W.setCell p u) S :=
 h.then_ (S2 := fun k => k = p.block) ⟨by simp [World.setCell], fun i _ hn => Below.heap_setCell W p u i hn⟩ (fun k hk => by rw [hk]; exact hp)
theorem Jn {g : Nat} {o : Obj} (hb : W.heap[g]? = some o) (hk : Kept W W2 S) (hne : ¬ S g) : W2.heap[g]? = some o := (hk.2 g (Jh hb) hne).trans hb
end
namespace Kd
section
variable {α : Type} {d : Kd α} {e base n c : Nat} {ok oki S S2 : Nat → Prop} {w w0 W W1 W2 : World} {v : Value} {A : Option Addr} {xs : List α} {i : Int} {cs : List Value}
theorem R_kept (h : d.R e W base ok v xs) (hk : Kept W W2 S) (hne : ∀ k, ok k → ¬ S k) : d.R e W2 base ok v xs := R_step h (fun k ho hlt => hk.2 k hlt (hne k ho))
theorem C_kept_came (hd : Heap d) (h : d.C w0 A n xs) (hb : Below w0.heap.size w0 W) (hS : ∀ k, S k → w0.heap.size ≤ k) : ∀ W', Kept W W' S → d.C W' A n xs := fun W' hk =>
 hd.C (fun k hlt => (hk.2 k (Nat.lt_of_lt_of_le hlt hb.size) (fun h2 => by have := hS k h2; omega)).trans (hb.block k hlt)) h
theorem C_kept_call (h : ∀ W', Kept w W' S → d.C W' A n xs) (hk : Kept w W S) (hs : ∀ k, S2 k → S k ∨ w.heap.size ≤ k) : ∀ W', Kept W W' S2 → d.C W' A n xs := fun W' hk' => h W' (hk.then_ hk' hs)
theorem C_kept_now (h : ∀ W', Kept w W' S → d.C W' A n xs) (hk : Kept w W S) : d.C W A n xs := h W hk
end
end Kd
end Go.Proofs.YtjaapkkpmegkfaaW.PrintWords
namespace Go.Proofs.YtjaapkkpmegkfaaW.PrintWords
open Go.RowKit
def Foot (P : World → Prop) (W : World) (ok : Nat → Prop) : Prop := ∀ W' : World, (∀ k, ok k → k < W.heap.size → W'.heap[k]? = W.heap[k]?) → P W'
theorem heap_lt {W W1 : World} {k : Nat} (h : W1.heap[k]? = W.heap[k]?) (hlt : k < W.heap.size) : k < W1.heap.size := by
 rw [Array.getElem?_eq_getElem hlt] at h; exact (Array.getElem?_eq_some_iff.1 h).1
namespace Foot
variable {P Q : World → Prop} {W W1 : World} {ok ok' : Nat → Prop}
theorem now (h : Foot P W ok) : P W := h W (fun _ _ _ => rfl)
theorem mono (h : Foot P W ok) (hok : ∀ k, ok k → ok' k) : Foot P W ok' := fun W' hW => h W' (fun k hk hlt => hW k (hok k hk) hlt)
theorem bound (h : Foot P W ok) : Foot P W (fun k => ok k ∧ k < W.heap.size) := fun W' hW => h W' (fun k hk hlt => hW k ⟨hk, hlt⟩ hlt)
theorem step (h : Foot P W ok) (hm : ∀ k, ok k → k < W.heap.size → W1.heap[k]? = W.heap[k]?) : Foot P W1 ok := fun W' hW => h W' (fun k hk hlt => (hW k hk (heap_lt (hm k hk hlt) hlt)).trans (hm k hk hlt))
theorem old (h : Foot P W ok) (hb : Below W.heap.size W W1) : Foot P W1 (fun k => ok k ∧ k < W.heap.size) := (h.bound).step (fun k _ hlt => hb.block k hlt)
end Foot
namespace Kd
def F {α : Type} (d : Kd α) (W : World) (ok : Nat → Prop) (A : Option Addr) (n : Nat) (xs : List α) : Prop := Foot (fun W => d.C W A n xs) W ok
def FK {α : Type} (d : Kd α) (W : World) (ok : Nat → Prop) (x : α) (c : List Value) : Prop := Foot (fun W => d.K W x c) W ok
section
variable {α β : Type} {d : Kd α} {e base n n' cc g N : Nat} {ok ok' okp S : Nat → Prop} {w w0 w1 W W1 : World} {A A' : Option Addr} {u v v1 : Value} {xs : List α} {xs' : List β} {d' : Kd β} {x : α} {c : List Value}
theorem F_now (h : F d W ok A n xs) : d.C W A n xs := Foot.now h
theorem Yf (h : F d W ok A n xs) (hok : ∀ k, ok k → ok' k) : F d W ok' A n xs := Foot.mono h hok
theorem F_bound (h : F d W ok A n xs) : F d W (fun k => ok k ∧ k < W.heap.size) A n xs := Foot.bound h
theorem YQ (h : F d W ok A n xs) (hm : ∀ k, ok k → k < W.heap.size → W1.heap[k]? = W.heap[k]?) : F d W1 ok A n xs := Foot.step h hm
theorem F_below (h : F d W ok A n xs) (hb : Below W.heap.size W W1) : F d W1 ok A n xs := YQ h (fun k _ hlt => hb.block k hlt)
theorem F_drew (h : F d W ok A n xs) : F d W.drew ok A n xs := F_below h (ZC (Below.refl _ _))
theorem F_drewN (h : F d W ok A n xs) (m : Nat) : F d (W.drewN m) ok A n xs := F_below h (Ji (Below.refl _ _) m)
theorem F_far (h : F d W ok A n xs) {p : Addr} (hok : ∀ k, ok k → k ≠ p.block) (u : Value) : F d (W.setCell p u) ok A n xs := YQ h (fun k hk _ => Below.heap_setCell W p u k (hok k hk))
theorem Qag (h : F d W ok A n xs) (hbase : ∀ k, v.ownBlock = some k → W.heap.size ≤ k) (hb : Below W.heap.size W W1) : F d W1 (fun k => ok k ∧ some k ≠ v.ownBlock) A n xs :=
 Yf (Foot.old h hb) (fun k hk => ⟨hk.1, fun he => by have := hbase k he.symm; have := hk.2; omega⟩)
theorem Qae (h : F d W ok A n xs) (a : Nat) (ha : W.heap.size ≤ a) : F d W (fun k => ok k ∧ k ≠ a) A n xs := Yf (F_bound h) (fun k hk => ⟨hk.1, by have := hk.2; omega⟩)
theorem C_F (hd : Heap d) (h : d.C w A n xs) : F d w (fun k => k < w.heap.size) A n xs := fun _ hW => hd.C (fun k hlt => hW k hlt hlt) h
theorem R_F (h : d.R e W base ok (.slice A n cc) xs) : F d W ok A n xs := fun W' hW => by
 have h2 := R_reads' (R_step h hW); rw [h2.1]; exact h2.2.2
theorem XA (h : FK d W ok x c) : d.K W x c := Foot.now h
theorem ZZ (h : FK d W ok x c) (hok : ∀ k, ok k → ok' k) : FK d W ok' x c := Foot.mono h hok
theorem Yi (h : FK d W ok x c) : FK d W (fun k => ok k ∧ k < W.heap.size) x c := Foot.bound h
theorem Yz (h : FK d W ok x c) (hm : ∀ k, ok k → k < W.heap.size → W1.heap[k]? = W.heap[k]?) : FK d W1 ok x c := Foot.step h hm
theorem FK_of_M (h : d.M W base ok x c) : FK d W ok x c := fun _ hW => d.K_of_M (Y3 h hW)
end
end Kd
end Go.Proofs.YtjaapkkpmegkfaaW.PrintWords
namespace Go.Proofs.YtjaapkkpmegkfaaW.PrintWords
open Go.RowKit
namespace Kd
def ZA (sz n : Nat) (inner : List Value) : List (List Value) := (List.range n).map fun j => (inner.drop (j * sz)).take sz
theorem JO (sz n : Nat) (inner : List Value) : (ZA sz n inner).length = n := by simp [ZA]
theorem YW {sz n : Nat} {inner : List Value} {j : Nat} (hj : j < n) : (ZA sz n inner)[j]? = some ((inner.drop (j * sz)).take sz) := by simp [ZA, hj]
theorem Z9 {sz n : Nat} {inner : List Value} {j : Nat} {c : List Value} (h : (ZA sz n inner)[j]? = some c) : c = (inner.drop (j * sz)).take sz := by
 have hj : j < n := by have := (List.getElem?_eq_some_iff.1 h).1; rwa [JO] at this
 rw [YW hj] at h
 injection h with h
 exact h.symm
theorem X6 {α : Type} {Rr : α → List Value → Prop} {sz : Nat} {xs : List α} {inner : List Value} (h : Reps Rr sz xs inner) (hR : ∀ x c, Rr x c → c.length = sz ∧ ∀ u ∈ c, u.oneCell' = true) : Reps (fun x cs => cs = x ∧ cs.length = sz ∧ ∀ u ∈ cs, u.oneCell' = true) sz (ZA sz xs.length inner) inner := by
 refine ⟨by rw [JO]; exact h.1, fun j p hj => ?_⟩; have hjl : j < xs.length := by have := (List.getElem?_eq_some_iff.1 hj).1; rwa [JO] at this
 have hp := Z9 hj; exact ⟨hp.symm, hR _ _ (h.2 j _ (List.getElem?_eq_getElem hjl))⟩
section
variable {α : Type} {d : Kd α} {e base n cc g : Nat} {ok ok' okp S : Nat → Prop} {w w1 W W1 : World} {A : Option Addr} {u v v1 : Value} {xs : List α} {x : α} {c : List Value}
def N {α : Type} (d : Kd α) (e : Nat) (w : World) (base : Nat) (ok : Nat → Prop) (v : Value) (xs : List α) : Prop :=
 (∀ k, v.ownBlock = some k → ok k) ∧ ∃ rows : List (List Value), rows.length = xs.length ∧ (raw d.sz).R e w base (fun k => some k = v.ownBlock) v rows ∧ ∀ (j : Nat) (x : α) (c : List Value), xs[j]? = some x → rows[j]? = some c → FK d w (fun k => ok k ∧ some k ≠ v.ownBlock) x c
theorem Y0 {sz : Nat} {rows : List (List Value)} (h : (raw sz).R e w base ok v rows) : (raw sz).R e w base (fun k => some k = v.ownBlock) v rows := R_tight rfl h
theorem R_N (h : d.R e w base ok v xs) : N d e w base ok v xs := by
 obtain ⟨h0, inner, ho, hr⟩ := h; refine ⟨h0, ZA d.sz xs.length inner, JO _ _ _, ⟨fun k hk => hk.symm, inner, by rw [JO]; exact ho, X6 hr (fun x c hp => ⟨d.K_len (d.K_of_M hp), d.K_one (d.K_of_M hp)⟩)⟩, fun j x c hx hc => ?_⟩; rw [Z9 hc]; exact FK_of_M (hr.2 j x hx)
theorem S_N (h : Kd.S d e w base ok v xs) : N d e w base ok v xs := R_N (S_R h)
theorem N_mono (h : N d e w base ok v xs) (hok : ∀ k, ok k → ok' k) : N d e w base ok' v xs := by
 obtain ⟨h0, rows, hl, hR, hf⟩ := h; exact ⟨fun k hk => hok k (h0 k hk), rows, hl, hR, fun j x c hx hc => ZZ (hf j x c hx hc) (fun k hk => ⟨hok k hk.1, hk.2⟩)⟩
theorem N_lt (h : N d e w base ok v xs) : ∀ k, v.ownBlock = some k → k < w.heap.size := by
 obtain ⟨_, rows, _, hR, _⟩ := h; exact R_lt hR
theorem N_base (h : N d e w base ok v xs) : ∀ k, v.ownBlock = some k → base ≤ k := by
 obtain ⟨_, rows, _, hR, _⟩ := h; exact R_base hR
theorem N_typed (h : N d e w base ok v xs) : ∀ k, v.ownBlock = some k → ∃ cells, w.heap[k]? = some (.cells cells e (0, 0)) := by
 obtain ⟨_, rows, _, hR, _⟩ := h; exact R_typed hR
theorem Yt (h : N d e w base ok v xs) : N d e w base (fun k => ok k ∧ k < w.heap.size) v xs := by
 have hlt := N_lt h; obtain ⟨h0, rows, hl, hR, hf⟩ := h; exact ⟨fun k hk => ⟨h0 k hk, hlt k hk⟩, rows, hl, hR, fun j x c hx hc => ZZ (Yi (hf j x c hx hc)) (fun k hk => ⟨⟨hk.1.1, hk.2⟩, hk.1.2⟩)⟩
theorem N_lower {base' : Nat} (h : N d e w base ok v xs) (hb : base' ≤ base) : N d e w base' ok v xs := by
 obtain ⟨h0, rows, hl, hR, hf⟩ := h; exact ⟨h0, rows, hl, R_lower hR hb, hf⟩
theorem N_step (h : N d e w base ok v xs) (hm : ∀ k, ok k → k < w.heap.size → w1.heap[k]? = w.heap[k]?) : N d e w1 base ok v xs := by
 obtain ⟨h0, rows, hl, hR, hf⟩ := h; exact ⟨h0, rows, hl, R_step hR (fun k hk hlt => hm k (h0 k hk.symm) hlt), fun j x c hx hc => Yz (hf j x c hx hc) (fun k hk hlt => hm k hk.1 hlt)⟩
theorem N_below (h : N d e w base ok v xs) (hb : Below w.heap.size w w1) : N d e w1 base ok v xs := N_step h (fun k _ hk => hb.block k hk)
theorem N_drew (h : N d e w base ok v xs) : N d e w.drew base ok v xs := N_below h (ZC (Below.refl _ _))
theorem N_drewN (h : N d e w base ok v xs) (m : Nat) : N d e (w.drewN m) base ok v xs := N_below h (Ji (Below.refl _ _) m)
theorem N_elder' (h : N d e W base ok v xs) (hbase : ∀ k, u.ownBlock = some k → W.heap.size ≤ k) (hb : Below W.heap.size W w1) : N d e w1 base (fun k => ok k ∧ some k ≠ u.ownBlock) v xs :=
 N_mono (N_below (Yt h) hb) (fun k hk => ⟨hk.1, fun he => by have := hbase k he.symm; have := hk.2; omega⟩)
theorem N_old (h : N d e W base ok v xs) (hb : Below W.heap.size W w1) : N d e w1 base (fun k => ok k ∧ k < W.heap.size) v xs := N_below (Yt h) hb
theorem N_told {b : Nat} (h : N d e w1 base (fun k => ok k ∧ k < b) v xs) (hbase : ∀ k, u.ownBlock = some k → b ≤ k) : N d e w1 base (fun k => (ok k ∧ some k ≠ u.ownBlock) ∧ k < b) v xs :=
 N_mono h (fun k hk => ⟨⟨hk.1, fun e => Nat.lt_irrefl _ (Nat.lt_of_lt_of_le hk.2 (hbase k e.symm))⟩, hk.2⟩)
theorem N_slice (h : N d e w base ok v xs) : ∃ A c, v = .slice A xs.length c := by
 obtain ⟨_, rows, hl, hR, _⟩ := h; obtain ⟨A, c, he⟩ := R_slice hR; exact ⟨A, c, by rw [he, hl]⟩
theorem N_reads' {n c : Nat} (h : N d e w base ok (.slice A n c) xs) : n = xs.length ∧ n ≤ c ∧ d.C w A xs.length xs := by
 obtain ⟨_, rows, hl, hR, hf⟩ := h; obtain ⟨hn, hc, hC⟩ := R_reads' hR; refine ⟨by omega, hc, ?_⟩; rw [hl] at hC; refine ⟨rfl, hC.2.1, fun hp => ?_⟩; obtain ⟨ad, he, hcell⟩ := hC.2.2 hp; refine ⟨ad, he, fun j p hj => ?_⟩; have hjl : j < rows.length := by have := (List.getElem?_eq_some_iff.1 hj).1; omega
 obtain ⟨c', hcl, hK, hcc⟩ := hcell j _ (List.getElem?_eq_getElem hjl); have hk := XA (hf j p _ hj (List.getElem?_eq_getElem hjl)); refine ⟨c', hcl, ?_, hcc⟩; rw [show c' = rows[j] from hK.1]; exact hk
theorem N_elem {n cap : Nat} (h : N d e W base ok (.slice (some ⟨g, 0, none⟩) n cap) xs) (z : α) (i : Int) (h0 : 0 ≤ i) (h1 : i < n) :
  ∃ c, c.length = d.sz ∧ FK d W (fun k => ok k ∧ k ≠ g) (xs.getD i.toNat z) c ∧ (∀ j u, c[j]? = some u → W.cell? ⟨g, i.toNat * d.sz + j, none⟩ = some u) ∧ ∀ j, W.frozen? ⟨g, i.toNat * d.sz + j, none⟩ = false := by
 obtain ⟨_, rows, hl, hR, hf⟩ := h; have hn := (R_reads' hR).1; obtain ⟨c, hcl, hM, hcc, hfr⟩ := R_elem hR [] i h0 h1; have hil : i.toNat < rows.length := by omega
 have hil' : i.toNat < xs.length := by omega
 have hc : c = rows[i.toNat] := by
  have h2 := hM.1
  rwa [List.getD_eq_getElem?_getD, List.getElem?_eq_getElem hil] at h2
 refine ⟨c, hcl, ?_, hcc, hfr⟩; rw [List.getD_eq_getElem?_getD, List.getElem?_eq_getElem hil']; exact ZZ (hf _ _ _ (List.getElem?_eq_getElem hil') (by rw [hc]; exact List.getElem?_eq_getElem hil)) (fun k hk => ⟨hk.1, fun he => hk.2 (by rw [he]; simp [Value.ownBlock])⟩)
theorem N_get {ad : Addr} {n cap : Nat} (h : N d e W base ok (.slice (some ad) n cap) xs) (z : α) (i : Int) (h0 : 0 ≤ i) (h1 : i < n) :
  ∃ c, c.length = d.sz ∧ FK d W (fun k => ok k ∧ some k ≠ (Value.slice (some ad) n cap).ownBlock) (xs.getD i.toNat z) c ∧ ∀ j u, c[j]? = some u → W.cell? (ad.add (i.toNat * d.sz + j)) = some u := by
 obtain ⟨g, rfl⟩ : ∃ g, ad = ⟨g, 0, none⟩ := by
  obtain ⟨_, rows, _, hR, _⟩ := h; exact R_head hR
 obtain ⟨c, hcl, hM, hcc, _⟩ := N_elem h z i h0 h1; refine ⟨c, hcl, ZZ hM (fun k hk => ⟨hk.1, fun he => hk.2 (by simpa [Value.ownBlock] using he)⟩), fun j u hu => ?_⟩; rw [add_at, Nat.zero_add]; exact hcc j u hu
end
end Kd
end Go.Proofs.YtjaapkkpmegkfaaW.PrintWords
namespace Go.Proofs.YtjaapkkpmegkfaaW.PrintWords
open Go.RowKit
namespace Kd
section
variable {α : Type} {d : Kd α} {e base n cap g : Nat} {ok ok' okp : Nat → Prop} {w w1 W : World} {v v1 : Value} {xs ys : List α}
theorem N_made {rows : List (List Value)} (hR : (raw d.sz).R e w1 base (fun k => k = W.heap.size) v1 rows) (hg : W.grownBy w1 none) (hat : ∃ b, v1.ownBlock = some b ∧ W.heap.size ≤ b) (hl : rows.length = xs.length) (hf : ∀ (j : Nat) (x : α) (c : List Value), xs[j]? = some x → rows[j]? = some c → FK d W okp x c)
  (hok : ∀ k, okp k → ok k) (hfresh : ok W.heap.size) : N d e w1 base ok v1 xs := by
 obtain ⟨b, hb, hle⟩ := hat; refine ⟨fun k hk => by rw [hR.1 k hk]; exact hfresh, rows, hl, Y0 hR, fun j x c hx hc => ?_⟩; refine ZZ (Yz (Yi (hf j x c hx hc)) (fun k hk hlt => hg.block k hlt (by simp))) (fun k hk => ⟨hok k hk.1, fun he => ?_⟩); rw [hb] at he
 injection he with he
 have := hk.2; omega
end
section
variable {P : Program} {ops : Array Oper} {rest : List Oper} {o : Oper} {a : Act} {Q : Exit → Act → World → Prop} {Kc : Act → World → Prop} {α : Type}
theorem N_lit (d : Kd α) {w0 W : World} (base e : Nat) (hgd : o.guard = none) {N' : Tmp} (_hd : o.dst = some N') {xs : List α} {inner : List Value} {ok okp : Nat → Prop}
  (hrun : (execOp a.eval o).run P W = .ok (.value (.slice (some ⟨W.heap.size, 0, none⟩) xs.length xs.length)) (W.alloc (.cells inner.toArray e)))
  (hrep : Reps (FK d W okp) d.sz xs inner) (hok : ∀ k, okp k → ok k) (hfresh : ok W.heap.size) (HB : Below base w0 W) (hbase : base ≤ W.heap.size) (hm : xs.length ≤ 9223372036854775807)
  (h : ∀ v1 w1, N d e w1 base ok v1 xs → Below base w0 w1 → W.grownBy w1 none → (∃ b, v1.ownBlock = some b ∧ W.heap.size ≤ b) → wpList P ops Q rest (a.put o.dst v1) w1) :
  wpList P ops Q (o :: rest) a W := by
 refine R_lit (raw d.sz) base e hgd _hd (xs := ZA d.sz xs.length inner) (inner := inner) (ok := fun k => k = W.heap.size) (okp := fun _ => False) (by rw [JO]; exact hrun) (X6 hrep (fun y c hk => ⟨d.K_len (XA hk), d.K_one (XA hk)⟩)) (fun _ hk => hk.elim) rfl HB hbase (by rw [JO]; exact hm) ?_; intro v1 w1 hr hb hg hat; exact h v1 w1 (N_made hr hg hat (JO _ _ _) (fun j y c hy hc => by rw [Z9 hc]; exact hrep.2 j y hy) hok hfresh) hb hg hat
end
end Kd
end Go.Proofs.YtjaapkkpmegkfaaW.PrintWords
namespace Go.Proofs.YtjaapkkpmegkfaaW.PrintMore
open Go.RowKit Go.Proofs.YtjaapkkpmegkfaaW.PrintWords
namespace Kd
open Go.Proofs.YtjaapkkpmegkfaaW.PrintWords.Kd
end Kd
namespace Kd
open Go.Proofs.YtjaapkkpmegkfaaW.PrintWords.Kd
section
variable {α : Type} {d : Kd α} {e base g N : Nat} {ok : Nat → Prop} {W w1 : World} {u v : Value} {xs : List α}
theorem R_old (hu : d.R e W base ok u xs) (hb : Below W.heap.size W w1) : d.R e w1 base (fun k => ok k ∧ k < W.heap.size) u xs :=
 R_mono (R_below (R_bound hu) hb) (fun _ h => ⟨h.1, h.2.2.1⟩)
theorem R_told (h : d.R e w1 base (fun k => ok k ∧ k < N) u xs) (hbase : ∀ k, v.ownBlock = some k → N ≤ k) : d.R e w1 base (fun k => (ok k ∧ some k ≠ v.ownBlock) ∧ k < N) u xs :=
 R_mono h (fun k hk => ⟨⟨hk.1, fun e => Nat.lt_irrefl _ (Nat.lt_of_lt_of_le hk.2 (hbase k e.symm))⟩, hk.2⟩)
end
end Kd
theorem JG (k k' : IntKind) (x y : Int) : Builtin.max2 (.int k x) (.int k' y) = pure (.int k (if x < y then y else x)) := by simp only [Builtin.max2, gt_iff_lt]
theorem JH (k k' : IntKind) (x y : Int) : Builtin.min2 (.int k x) (.int k' y) = pure (.int k (if y < x then y else x)) := by simp only [Builtin.min2]
theorem JY (ats : Array TypeId) (ty : TypeId) (a b : Value) : Builtin.max_ ats ty #[a, b] = (Builtin.max2 a b >>= fun s => pure s) := by simp only [Builtin.max_, List.foldlM_cons, List.foldlM_nil]
theorem JX (ats : Array TypeId) (ty : TypeId) (a b : Value) : Builtin.min_ ats ty #[a, b] = (Builtin.min2 a b >>= fun s => pure s) := by simp only [Builtin.min_, List.foldlM_cons, List.foldlM_nil]
theorem Jv (ats : Array TypeId) (ty : TypeId) (a b c : Value) : Builtin.max_ ats ty #[a, b, c] = (Builtin.max2 a b >>= fun s => Builtin.max2 s c >>= fun s => pure s) := by simp only [Builtin.max_, List.foldlM_cons, List.foldlM_nil]
theorem Ju (ats : Array TypeId) (ty : TypeId) (a b c : Value) : Builtin.min_ ats ty #[a, b, c] = (Builtin.min2 a b >>= fun s => Builtin.min2 s c >>= fun s => pure s) := by simp only [Builtin.min_, List.foldlM_cons, List.foldlM_nil]
theorem JJ (ats : Array TypeId) (ty : TypeId) (a b c d : Value) : Builtin.max_ ats ty #[a, b, c, d] = (Builtin.max2 a b >>= fun s => Builtin.max2 s c >>= fun s => Builtin.max2 s d >>= fun s => pure s) := by simp only [Builtin.max_, List.foldlM_cons, List.foldlM_nil]
theorem JK (ats : Array TypeId) (ty : TypeId) (a b c d : Value) : Builtin.min_ ats ty #[a, b, c, d] = (Builtin.min2 a b >>= fun s => Builtin.min2 s c >>= fun s => Builtin.min2 s d >>= fun s => pure s) := by simp only [Builtin.min_, List.foldlM_cons, List.foldlM_nil]
end Go.Proofs.YtjaapkkpmegkfaaW.PrintMore
namespace Go.Proofs.YtjaapkkpmegkfaaW.PrintWords
open Go.RowKit
section
variable {P : Program} {ops : Array Oper} {rest : List Oper} {o : Oper} {a : Act} {Q : Exit → Act → World → Prop} {W : World}
theorem gate_callee {f : FuncId} {as_ : Array Operand} {ts : Array TypeId} (_ho : o.op = .call { callee := .value (.func f), args := as_, argTypes := ts }) (h : wpList P ops Q (o :: rest) a W) : wpList P ops Q (o :: rest) a W := h
theorem JA {b : Builtin} {xs : Array Operand} {ts : Array TypeId} (_ho : o.op = .call { callee := .builtin b, args := xs, argTypes := ts }) (h : wpList P ops Q (o :: rest) a W) : wpList P ops Q (o :: rest) a W := h
end
theorem Z2 (w : World) (n : Nat) : w.drewN n = w.drewN n := rfl
namespace Kd
section
variable {α : Type} {d : Kd α} {e base b b' g N : Nat} {ok ok1 : Nat → Prop} {W W2 w1 : World} {u v : Value} {xs ys : List α} {S : Nat → Prop}
theorem R_reok (hE : d.E = []) (h : d.R e W base ok1 v xs) (hok : ∀ k, v.ownBlock = some k → ok k) : d.R e W base ok v xs := R_mono (R_tight hE h) (fun k hk => hok k hk.symm)
theorem R_keptB (h : d.R e W base ok v xs) (hk : Kept W W2 S) (hne : ∀ k, ok k → ¬ S k) : d.R e W2 base (fun k => ok k ∧ (¬ S k ∧ k < W.heap.size)) v xs :=
 R_kept (R_mono (R_bound h) (fun k hk => ⟨hk.1, hne k hk.1, hk.2.2.1⟩)) hk (fun _ hk => hk.2.1)
end
end Kd
end Go.Proofs.YtjaapkkpmegkfaaW.PrintWords
namespace Go.Proofs.YtjaapkkpmegkfaaW.PrintWords
open Go.RowKit
namespace Kd
def V {α : Type} (d : Kd α) (_e : Nat) (W : World) (_base : Nat) (ok : Nat → Prop) (v : Value) (xs : List α) : Prop := ∃ A c, v = .slice A xs.length c ∧ xs.length ≤ c ∧ F d W ok A xs.length xs
section
variable {α β : Type} {d : Kd α} {e base base' n m c g N' lo hi : Nat} {ok ok' S : Nat → Prop} {w W w1 : World} {A : Option Addr} {ad : Addr} {u v v1 : Value} {xs : List α}
theorem Z5 (h : V d e W base ok v xs) (hF : ∀ A, F d W ok A xs.length xs → F d w1 ok' A xs.length xs) : V d e w1 base' ok' v xs := by
 obtain ⟨A, c, hv, hl, hf⟩ := h; exact ⟨A, c, hv, hl, hF A hf⟩
theorem V_mk (hl : xs.length ≤ c) (hf : F d W ok A xs.length xs) : V d e W base ok (.slice A xs.length c) xs := ⟨A, c, rfl, hl, hf⟩
theorem V_slice (h : V d e W base ok v xs) : ∃ A c, v = .slice A xs.length c := by
 obtain ⟨A, c, hv, _⟩ := h; exact ⟨A, c, hv⟩
theorem V_at (h : V d e W base ok (.slice A n c) xs) : n = xs.length ∧ n ≤ c ∧ F d W ok A xs.length xs := by
 obtain ⟨A', c', hv, hl, hf⟩ := h
 injection hv with ha hn hc
 subst ha; subst hc; exact ⟨hn, by rw [hn]; exact hl, hf⟩
theorem V_reads' (h : V d e W base ok (.slice A n c) xs) : n = xs.length ∧ n ≤ c ∧ d.C W A xs.length xs := ⟨(V_at h).1, (V_at h).2.1, F_now (V_at h).2.2⟩
theorem R_V (h : d.R e W base ok v xs) : V d e W base' ok v xs := by
 obtain ⟨A, c, rfl⟩ := R_slice h; exact ⟨A, c, rfl, (R_reads' h).2.1, R_F h⟩
theorem V_mono (h : V d e W base ok v xs) (hok : ∀ k, ok k → ok' k) : V d e W base ok' v xs := Z5 h (fun _ hf => Yf hf hok)
theorem V_lower (h : V d e W base ok v xs) (_ : base' ≤ base) : V d e W base' ok v xs := h
theorem V_below (h : V d e W base ok v xs) (hb : Below W.heap.size W w1) : V d e w1 base ok v xs := Z5 h (fun _ hf => F_below hf hb)
theorem V_drew (h : V d e W base ok v xs) : V d e W.drew base ok v xs := Z5 h (fun _ hf => F_drew hf)
theorem V_drewN (h : V d e W base ok v xs) (m : Nat) : V d e (W.drewN m) base ok v xs := Z5 h (fun _ hf => F_drewN hf m)
theorem V_far (h : V d e W base ok v xs) {p : Addr} (hok : ∀ k, ok k → k ≠ p.block) (u : Value) : V d e (W.setCell p u) base ok v xs := Z5 h (fun _ hf => F_far hf hok u)
theorem V_elder' (h : V d e W base ok v xs) (hbase : ∀ k, u.ownBlock = some k → W.heap.size ≤ k) (hb : Below W.heap.size W w1) : V d e w1 base (fun k => ok k ∧ some k ≠ u.ownBlock) v xs := Z5 h (fun _ hf => Qag hf hbase hb)
theorem V_elderB (h : V d e W base ok v xs) (a : Nat) (ha : W.heap.size ≤ a) : V d e W base (fun k => ok k ∧ k ≠ a) v xs := Z5 h (fun _ hf => Qae hf a ha)
theorem FK_slice_open {l : List α} {cs : List Value} (h : FK (Kd.slice e d) W ok l cs) : ∃ A c, cs = [.slice A l.length c] ∧ l.length ≤ c ∧ F d W ok A l.length l := by
 obtain ⟨A, c, rfl, hl, _⟩ := XA h; refine ⟨A, c, rfl, hl, fun W' hW => ?_⟩; obtain ⟨A', c', he, _, g'⟩ := h W' hW
 injection he with he _
 injection he with ha _ _
 rw [ha]; exact g'
theorem R_newM {M : Nat → Prop} (h : d.R e w1 W.heap.size ok v xs) (hle : w.heap.size ≤ W.heap.size) (hM : ∀ k, w.heap.size ≤ k → M k) : d.R e w1 W.heap.size (fun k => M k ∧ ok k) v xs := R_mono (R_bound h) (fun k hk => ⟨hM k (Nat.le_trans hle hk.2.1), hk.1⟩)
end
end Kd
end Go.Proofs.YtjaapkkpmegkfaaW.PrintWords
namespace Go.Proofs.Ytjaapkkpmegkfaa.P
open Go.RowKit Go.Proofs.YtjaapkkpmegkfaaW.PrintWords Go.Proofs.YtjaapkkpmegkfaaW.PrintLast Go.Proofs.YtjaapkkpmegkfaaW.PrintMore
theorem pB {A B : Prop} (h : A) (f : A → B := by intro h_; (with_reducible repeat (first | refine Qt ?_ _ | refine Qh ?_ | refine blk_alloc ?_ _)); exact h_) : B := f h
theorem nn_ {A : Prop} (h : A := by first | exact Kd.R_nil _ _ _ _ _ | exact Kd.N_nil _ _ _ _ _ | exact Kd.V_nil _ _ _ _ _ | exact Kd.Q_nil _ _ _ _ _ | exact Kd.S_nil _ _ _ _ _) : A := h
theorem eS {A : Prop} (h : A := by first | rfl | (simp; done) | (simp [*]; done)) : A := h
theorem dS {A : Prop} (h : A := by repeat (first | exact JB.refl _ | apply JB.step)) : A := h
theorem gd {P : Program} {ops : Array Oper} {rest : List Oper} {o : Oper} {a : Act} {Q : Exit → Act → World → Prop} {W : World} (N : Tmp) (h : wpList P ops Q (o :: rest) a W) (hN : o.dst = some N := by rfl) : wpList P ops Q (o :: rest) a W := h
theorem Rf1 {α : Type} {d : Kd α} {e base g : Nat} {w : World} {ok : Nat → Prop} {v u0 : Value} {xs : List α} (h : d.R e w base (fun k => ok k ∧ k ≠ g) v xs) : d.R e ((w).setCell ⟨g, 0, none⟩ u0) base (fun k => ok k ∧ k ≠ g) v xs := Kd.R_far (h) (fun _ hk => hk.2) _
theorem Rt1 {α : Type} {d : Kd α} {e base g t : Nat} {w : World} {ok : Nat → Prop} {v u0 : Value} {xs : List α} {cells : Array Value} (h : Qa (d.R e w base ok v xs)) (hb : Qa (w.heap[g]? = some (.cells cells t (0, 0)))) (ht : ∀ q, q ∈ e :: d.E → q ≠ t := by decide) : d.R e ((w).setCell ⟨g, 0, none⟩ u0) base ok v xs := Kd.R_mono (Rf1 (Kd.R_types h.out hb.out ht)) (fun _ h_ => h_.1)
theorem Rf2 {α : Type} {d : Kd α} {e base g : Nat} {w : World} {ok : Nat → Prop} {v u0 u1 : Value} {xs : List α} (h : d.R e w base (fun k => ok k ∧ k ≠ g) v xs) : d.R e (((w).setCell ⟨g, 0, none⟩ u0).setCell ⟨g, 1, none⟩ u1) base (fun k => ok k ∧ k ≠ g) v xs := Kd.R_far (Kd.R_far (h) (fun _ hk => hk.2) _) (fun _ hk => hk.2) _
theorem Rt2 {α : Type} {d : Kd α} {e base g t : Nat} {w : World} {ok : Nat → Prop} {v u0 u1 : Value} {xs : List α} {cells : Array Value} (h : Qa (d.R e w base ok v xs)) (hb : Qa (w.heap[g]? = some (.cells cells t (0, 0)))) (ht : ∀ q, q ∈ e :: d.E → q ≠ t := by decide) : d.R e (((w).setCell ⟨g, 0, none⟩ u0).setCell ⟨g, 1, none⟩ u1) base ok v xs := Kd.R_mono (Rf2 (Kd.R_types h.out hb.out ht)) (fun _ h_ => h_.1)
theorem Rf3 {α : Type} {d : Kd α} {e base g : Nat} {w : World} {ok : Nat → Prop} {v u0 u1 u2 : Value} {xs : List α} (h : d.R e w base (fun k => ok k ∧ k ≠ g) v xs) : d.R e ((((w).setCell ⟨g, 0, none⟩ u0).setCell ⟨g, 1, none⟩ u1).setCell ⟨g, 2, none⟩ u2) base (fun k => ok k ∧ k ≠ g) v xs := Kd.R_far (Kd.R_far (Kd.R_far (h) (fun _ hk => hk.2) _) (fun _ hk => hk.2) _) (fun _ hk => hk.2) _
theorem Rt3 {α : Type} {d : Kd α} {e base g t : Nat} {w : World} {ok : Nat → Prop} {v u0 u1 u2 : Value} {xs : List α} {cells : Array Value} (h : Qa (d.R e w base ok v xs)) (hb : Qa (w.heap[g]? = some (.cells cells t (0, 0)))) (ht : ∀ q, q ∈ e :: d.E → q ≠ t := by decide) : d.R e ((((w).setCell ⟨g, 0, none⟩ u0).setCell ⟨g, 1, none⟩ u1).setCell ⟨g, 2, none⟩ u2) base ok v xs := Kd.R_mono (Rf3 (Kd.R_types h.out hb.out ht)) (fun _ h_ => h_.1)
theorem Rf4 {α : Type} {d : Kd α} {e base g : Nat} {w : World} {ok : Nat → Prop} {v u0 u1 u2 u3 : Value} {xs : List α} (h : d.R e w base (fun k => ok k ∧ k ≠ g) v xs) : d.R e (((((w).setCell ⟨g, 0, none⟩ u0).setCell ⟨g, 1, none⟩ u1).setCell ⟨g, 2, none⟩ u2).setCell ⟨g, 3, none⟩ u3) base (fun k => ok k ∧ k ≠ g) v xs := Kd.R_far (Kd.R_far (Kd.R_far (Kd.R_far (h) (fun _ hk => hk.2) _) (fun _ hk => hk.2) _) (fun _ hk => hk.2) _) (fun _ hk => hk.2) _
theorem Rt4 {α : Type} {d : Kd α} {e base g t : Nat} {w : World} {ok : Nat → Prop} {v u0 u1 u2 u3 : Value} {xs : List α} {cells : Array Value} (h : Qa (d.R e w base ok v xs)) (hb : Qa (w.heap[g]? = some (.cells cells t (0, 0)))) (ht : ∀ q, q ∈ e :: d.E → q ≠ t := by decide) : d.R e (((((w).setCell ⟨g, 0, none⟩ u0).setCell ⟨g, 1, none⟩ u1).setCell ⟨g, 2, none⟩ u2).setCell ⟨g, 3, none⟩ u3) base ok v xs := Kd.R_mono (Rf4 (Kd.R_types h.out hb.out ht)) (fun _ h_ => h_.1)
theorem Rf5 {α : Type} {d : Kd α} {e base g : Nat} {w : World} {ok : Nat → Prop} {v u0 u1 u2 u3 u4 : Value} {xs : List α} (h : d.R e w base (fun k => ok k ∧ k ≠ g) v xs) : d.R e ((((((w).setCell ⟨g, 0, none⟩ u0).setCell ⟨g, 1, none⟩ u1).setCell ⟨g, 2, none⟩ u2).setCell ⟨g, 3, none⟩ u3).setCell ⟨g, 4, none⟩ u4) base (fun k => ok k ∧ k ≠ g) v xs := Kd.R_far (Kd.R_far (Kd.R_far (Kd.R_far (Kd.R_far (h) (fun _ hk => hk.2) _) (fun _ hk => hk.2) _) (fun _ hk => hk.2) _) (fun _ hk => hk.2) _) (fun _ hk => hk.2) _
theorem Rt5 {α : Type} {d : Kd α} {e base g t : Nat} {w : World} {ok : Nat → Prop} {v u0 u1 u2 u3 u4 : Value} {xs : List α} {cells : Array Value} (h : Qa (d.R e w base ok v xs)) (hb : Qa (w.heap[g]? = some (.cells cells t (0, 0)))) (ht : ∀ q, q ∈ e :: d.E → q ≠ t := by decide) : d.R e ((((((w).setCell ⟨g, 0, none⟩ u0).setCell ⟨g, 1, none⟩ u1).setCell ⟨g, 2, none⟩ u2).setCell ⟨g, 3, none⟩ u3).setCell ⟨g, 4, none⟩ u4) base ok v xs := Kd.R_mono (Rf5 (Kd.R_types h.out hb.out ht)) (fun _ h_ => h_.1)
theorem Rf6 {α : Type} {d : Kd α} {e base g : Nat} {w : World} {ok : Nat → Prop} {v u0 u1 u2 u3 u4 u5 : Value} {xs : List α} (h : d.R e w base (fun k => ok k ∧ k ≠ g) v xs) : d.R e (((((((w).setCell ⟨g, 0, none⟩ u0).setCell ⟨g, 1, none⟩ u1).setCell ⟨g, 2, none⟩ u2).setCell ⟨g, 3, none⟩ u3).setCell ⟨g, 4, none⟩ u4).setCell ⟨g, 5, none⟩ u5) base (fun k => ok k ∧ k ≠ g) v xs := Kd.R_far (Kd.R_far (Kd.R_far (Kd.R_far (Kd.R_far (Kd.R_far (h) (fun _ hk => hk.2) _) (fun _ hk => hk.2) _) (fun _ hk => hk.2) _) (fun _ hk => hk.2) _) (fun _ hk => hk.2) _) (fun _ hk => hk.2) _
theorem Rt6 {α : Type} {d : Kd α} {e base g t : Nat} {w : World} {ok : Nat → Prop} {v u0 u1 u2 u3 u4 u5 : Value} {xs : List α} {cells : Array Value} (h : Qa (d.R e w base ok v xs)) (hb : Qa (w.heap[g]? = some (.cells cells t (0, 0)))) (ht : ∀ q, q ∈ e :: d.E → q ≠ t := by decide) : d.R e (((((((w).setCell ⟨g, 0, none⟩ u0).setCell ⟨g, 1, none⟩ u1).setCell ⟨g, 2, none⟩ u2).setCell ⟨g, 3, none⟩ u3).setCell ⟨g, 4, none⟩ u4).setCell ⟨g, 5, none⟩ u5) base ok v xs := Kd.R_mono (Rf6 (Kd.R_types h.out hb.out ht)) (fun _ h_ => h_.1)
theorem Vf1 {α : Type} {d : Kd α} {e base g : Nat} {w : World} {ok : Nat → Prop} {v u0 : Value} {xs : List α} (h : Kd.V d e w base (fun k => ok k ∧ k ≠ g) v xs) : Kd.V d e ((w).setCell ⟨g, 0, none⟩ u0) base (fun k => ok k ∧ k ≠ g) v xs := Kd.V_far (h) (fun _ hk => hk.2) _
theorem Vf2 {α : Type} {d : Kd α} {e base g : Nat} {w : World} {ok : Nat → Prop} {v u0 u1 : Value} {xs : List α} (h : Kd.V d e w base (fun k => ok k ∧ k ≠ g) v xs) : Kd.V d e (((w).setCell ⟨g, 0, none⟩ u0).setCell ⟨g, 1, none⟩ u1) base (fun k => ok k ∧ k ≠ g) v xs := Kd.V_far (Kd.V_far (h) (fun _ hk => hk.2) _) (fun _ hk => hk.2) _
theorem Vf3 {α : Type} {d : Kd α} {e base g : Nat} {w : World} {ok : Nat → Prop} {v u0 u1 u2 : Value} {xs : List α} (h : Kd.V d e w base (fun k => ok k ∧ k ≠ g) v xs) : Kd.V d e ((((w).setCell ⟨g, 0, none⟩ u0).setCell ⟨g, 1, none⟩ u1).setCell ⟨g, 2, none⟩ u2) base (fun k => ok k ∧ k ≠ g) v xs := Kd.V_far (Kd.V_far (Kd.V_far (h) (fun _ hk => hk.2) _) (fun _ hk => hk.2) _) (fun _ hk => hk.2) _
theorem Vf4 {α : Type} {d : Kd α} {e base g : Nat} {w : World} {ok : Nat → Prop} {v u0 u1 u2 u3 : Value} {xs : List α} (h : Kd.V d e w base (fun k => ok k ∧ k ≠ g) v xs) : Kd.V d e (((((w).setCell ⟨g, 0, none⟩ u0).setCell ⟨g, 1, none⟩ u1).setCell ⟨g, 2, none⟩ u2).setCell ⟨g, 3, none⟩ u3) base (fun k => ok k ∧ k ≠ g) v xs := Kd.V_far (Kd.V_far (Kd.V_far (Kd.V_far (h) (fun _ hk => hk.2) _) (fun _ hk => hk.2) _) (fun _ hk => hk.2) _) (fun _ hk => hk.2) _
theorem Vf5 {α : Type} {d : Kd α} {e base g : Nat} {w : World} {ok : Nat → Prop} {v u0 u1 u2 u3 u4 : Value} {xs : List α} (h : Kd.V d e w base (fun k => ok k ∧ k ≠ g) v xs) : Kd.V d e ((((((w).setCell ⟨g, 0, none⟩ u0).setCell ⟨g, 1, none⟩ u1).setCell ⟨g, 2, none⟩ u2).setCell ⟨g, 3, none⟩ u3).setCell ⟨g, 4, none⟩ u4) base (fun k => ok k ∧ k ≠ g) v xs := Kd.V_far (Kd.V_far (Kd.V_far (Kd.V_far (Kd.V_far (h) (fun _ hk => hk.2) _) (fun _ hk => hk.2) _) (fun _ hk => hk.2) _) (fun _ hk => hk.2) _) (fun _ hk => hk.2) _
theorem Vf6 {α : Type} {d : Kd α} {e base g : Nat} {w : World} {ok : Nat → Prop} {v u0 u1 u2 u3 u4 u5 : Value} {xs : List α} (h : Kd.V d e w base (fun k => ok k ∧ k ≠ g) v xs) : Kd.V d e (((((((w).setCell ⟨g, 0, none⟩ u0).setCell ⟨g, 1, none⟩ u1).setCell ⟨g, 2, none⟩ u2).setCell ⟨g, 3, none⟩ u3).setCell ⟨g, 4, none⟩ u4).setCell ⟨g, 5, none⟩ u5) base (fun k => ok k ∧ k ≠ g) v xs := Kd.V_far (Kd.V_far (Kd.V_far (Kd.V_far (Kd.V_far (Kd.V_far (h) (fun _ hk => hk.2) _) (fun _ hk => hk.2) _) (fun _ hk => hk.2) _) (fun _ hk => hk.2) _) (fun _ hk => hk.2) _) (fun _ hk => hk.2) _
theorem Sf1 {α : Type} {d : Kd α} {e base g : Nat} {w : World} {ok : Nat → Prop} {v u0 : Value} {xs : List α} (h : Kd.S d e w base (fun k => ok k ∧ k ≠ g) v xs) : Kd.S d e ((w).setCell ⟨g, 0, none⟩ u0) base (fun k => ok k ∧ k ≠ g) v xs := Kd.S_far (h) (fun _ hk => hk.2) _
theorem Sf2 {α : Type} {d : Kd α} {e base g : Nat} {w : World} {ok : Nat → Prop} {v u0 u1 : Value} {xs : List α} (h : Kd.S d e w base (fun k => ok k ∧ k ≠ g) v xs) : Kd.S d e (((w).setCell ⟨g, 0, none⟩ u0).setCell ⟨g, 1, none⟩ u1) base (fun k => ok k ∧ k ≠ g) v xs := Kd.S_far (Kd.S_far (h) (fun _ hk => hk.2) _) (fun _ hk => hk.2) _
theorem Sf3 {α : Type} {d : Kd α} {e base g : Nat} {w : World} {ok : Nat → Prop} {v u0 u1 u2 : Value} {xs : List α} (h : Kd.S d e w base (fun k => ok k ∧ k ≠ g) v xs) : Kd.S d e ((((w).setCell ⟨g, 0, none⟩ u0).setCell ⟨g, 1, none⟩ u1).setCell ⟨g, 2, none⟩ u2) base (fun k => ok k ∧ k ≠ g) v xs := Kd.S_far (Kd.S_far (Kd.S_far (h) (fun _ hk => hk.2) _) (fun _ hk => hk.2) _) (fun _ hk => hk.2) _
theorem Sf4 {α : Type} {d : Kd α} {e base g : Nat} {w : World} {ok : Nat → Prop} {v u0 u1 u2 u3 : Value} {xs : List α} (h : Kd.S d e w base (fun k => ok k ∧ k ≠ g) v xs) : Kd.S d e (((((w).setCell ⟨g, 0, none⟩ u0).setCell ⟨g, 1, none⟩ u1).setCell ⟨g, 2, none⟩ u2).setCell ⟨g, 3, none⟩ u3) base (fun k => ok k ∧ k ≠ g) v xs := Kd.S_far (Kd.S_far (Kd.S_far (Kd.S_far (h) (fun _ hk => hk.2) _) (fun _ hk => hk.2) _) (fun _ hk => hk.2) _) (fun _ hk => hk.2) _
theorem Sf5 {α : Type} {d : Kd α} {e base g : Nat} {w : World} {ok : Nat → Prop} {v u0 u1 u2 u3 u4 : Value} {xs : List α} (h : Kd.S d e w base (fun k => ok k ∧ k ≠ g) v xs) : Kd.S d e ((((((w).setCell ⟨g, 0, none⟩ u0).setCell ⟨g, 1, none⟩ u1).setCell ⟨g, 2, none⟩ u2).setCell ⟨g, 3, none⟩ u3).setCell ⟨g, 4, none⟩ u4) base (fun k => ok k ∧ k ≠ g) v xs := Kd.S_far (Kd.S_far (Kd.S_far (Kd.S_far (Kd.S_far (h) (fun _ hk => hk.2) _) (fun _ hk => hk.2) _) (fun _ hk => hk.2) _) (fun _ hk => hk.2) _) (fun _ hk => hk.2) _
theorem Sf6 {α : Type} {d : Kd α} {e base g : Nat} {w : World} {ok : Nat → Prop} {v u0 u1 u2 u3 u4 u5 : Value} {xs : List α} (h : Kd.S d e w base (fun k => ok k ∧ k ≠ g) v xs) : Kd.S d e (((((((w).setCell ⟨g, 0, none⟩ u0).setCell ⟨g, 1, none⟩ u1).setCell ⟨g, 2, none⟩ u2).setCell ⟨g, 3, none⟩ u3).setCell ⟨g, 4, none⟩ u4).setCell ⟨g, 5, none⟩ u5) base (fun k => ok k ∧ k ≠ g) v xs := Kd.S_far (Kd.S_far (Kd.S_far (Kd.S_far (Kd.S_far (Kd.S_far (h) (fun _ hk => hk.2) _) (fun _ hk => hk.2) _) (fun _ hk => hk.2) _) (fun _ hk => hk.2) _) (fun _ hk => hk.2) _) (fun _ hk => hk.2) _
theorem yR {α : Type} {d : Kd α} {e base : Nat} {w : World} {ok : Nat → Prop} {v : Value} {y xs xs' : List α} (hy : Qa (y = xs')) (h : d.R e w base ok v xs) (hx : xs = xs' := by first | rfl | simp only [Int.reduceToNat]) : d.R e w base ok v y := by rw [hy.out, ← hx]; exact h
theorem rL {P : Program} {ops : Array Oper} {rest : List Oper} {o : Oper} {a : Act} {Q : Exit → Act → World → Prop} {W : World} {α : Type} (d : Kd α) (e : Nat) (N : Tmp) (xs : List α) (inner : List Value) (hp : Reps (d.M W W.heap.size fun _ => True) d.sz xs inner)
  (h : ∀ v1 w1, d.R e w1 W.heap.size (fun _ => True) v1 xs → Below W.heap.size W w1 → wpList P ops Q rest (a.put o.dst v1) w1)
  (hd : o.dst = some N := by rfl) (hg : o.guard = none := by rfl)
  (hr : (execOp a.eval o).run P W = .ok (.value (.slice (some ⟨W.heap.size, 0, none⟩) xs.length xs.length)) (W.alloc (.cells inner.toArray e)) := by first | (go_simp; done) | (go_simp; rfl))
  (hm : xs.length ≤ 9223372036854775807 := by simp) : wpList P ops Q (o :: rest) a W :=
 Kd.R_lit d _ e hg hd (ok := fun _ => True) (okp := fun _ => True) hr hp (fun _ hk => hk) trivial (Below.refl _ _) (Nat.le_refl _) hm (fun v1 w1 h1 h2 _ _ => h v1 w1 h1 h2)
theorem Qan {w : World} {g i : Nat} {t : TypeId} {cs : Array Value} {u old : Value} (h : w.heap[g]? = some (.cells (cs.setIfInBounds i old) t (0, 0))) (e : (cs.setIfInBounds i old).setIfInBounds i u = cs) : (w.setCell ⟨g, i, none⟩ u).heap[g]? = some (.cells cs t (0, 0)) := Qg h i u e
theorem pP {A B : Prop} (h : Qa A) (f : A → B := by intro h_; repeat (first | (with_reducible refine Qt ?_ _) | (with_reducible refine Qh ?_) | (with_reducible refine blk_alloc ?_ _) | apply Qan); exact h_; all_goals rfl) : B := f h.out
theorem pF {A B : Prop} (h : Qa A) (f : A → B := by intro h_; (with_reducible repeat (first | refine Qt ?_ _ | refine Qh ?_ | refine blk_alloc ?_ _ | refine Qx ?_ (Qa.out (by assumption)) _)); exact h_) : B := f h.out
theorem pR {A B : Prop} (h : A) (f : A → B := by intro h_; (with_reducible repeat (first | apply Kd.R_alloc | apply Kd.R_drewN | apply Kd.R_drew)); exact h_) : B := f h
theorem pS {A B : Prop} (h : A) (f : A → B := by intro h_; (with_reducible repeat (first | apply Kd.S_alloc | apply Kd.S_drewN | apply Kd.S_drew)); exact h_) : B := f h
theorem pV {A B : Prop} (h : A) (f : A → B := by intro h_; (with_reducible repeat (first | apply Kd.V_alloc | apply Kd.V_drewN | apply Kd.V_drew)); exact h_) : B := f h
theorem pN {A B : Prop} (h : A) (f : A → B := by intro h_; (with_reducible repeat (first | apply Kd.N_alloc | apply Kd.N_drewN | apply Kd.N_drew)); exact h_) : B := f h
theorem pE {A B : Prop} (h : Qa A) (f : A → B := by intro h_; repeat (first | (with_reducible first | exact h_ | apply QO | apply Ji | apply QM | refine Q3 ?_ (Qa.out (by assumption))) | exact h_)) : B := f h.out
section
variable {w0 w w1 w2 : World} {g g' n : Nat} {o : Obj}
theorem bb (h : Qa (w.heap[g]? = some o)) (hb : Below w1.heap.size w1 w2) (f : w.heap[g]? = some o → w1.heap[g]? = some o := by exact fun h_ => pB h_) : Qa (w2.heap[g]? = some o) := ⟨QX (f h.out) hb⟩
theorem bf (h : Qa (w.heap[g]? = some o)) (hb : Below w1.heap.size w1 w2) (f : Qa (w.heap[g]? = some o) → w1.heap[g]? = some o := by exact fun h_ => pF h_) : Qa (w2.heap[g]? = some o) := ⟨QX (f h) hb⟩
theorem bs (h : Qa (Below w0.heap.size w0 w)) (hb : Below w1.heap.size w1 w2) (f : Qa (Below w0.heap.size w0 w) → Below w0.heap.size w0 w1 := by exact fun h_ => pE h_) : Qa (Below w0.heap.size w0 w2) := ⟨QV (f h) hb⟩
theorem gs (h : Qa (Below w0.heap.size w0 w)) (hg : g = w1.heap.size) (f : Qa (Below w0.heap.size w0 w) → Below w0.heap.size w0 w1 := by exact fun h_ => pE h_) : Qa (w0.heap.size ≤ g) := ⟨by rw [hg]; exact Qr (f h)⟩
theorem nl (h : Qa (w.heap[g]? = some o)) (hg : g' = w1.heap.size) (f : w.heap[g]? = some o → w1.heap[g]? = some o := by exact fun h_ => pB h_) : Qa (g ≠ g') := ⟨by rw [hg]; exact Nat.ne_of_lt (Jh (f h.out))⟩
theorem nr (h : Qa (w.heap[g]? = some o)) (hg : g' = w1.heap.size) (f : w.heap[g]? = some o → w1.heap[g]? = some o := by exact fun h_ => pB h_) : Qa (g' ≠ g) := ⟨by rw [hg]; exact Nat.ne_of_gt (Jh (f h.out))⟩
end
section
variable {α : Type} {d : Kd α} {e base g : Nat} {ok okv : Nat → Prop} {v u : Value} {xs : List α} {w0 w w1 w2 : World}
theorem rb (h : Qa (d.R e w base ok v xs)) (hb : Below w1.heap.size w1 w2) (f : d.R e w base ok v xs → d.R e w1 base ok v xs := by exact fun h_ => pR h_) : Qa (d.R e w2 base ok v xs) := ⟨Kd.R_below (f h.out) hb⟩
theorem ve (h : Qa (Kd.V d e w base ok v xs)) (hg : g = w1.heap.size) (hb : Below w1.heap.size w1 w2) (f : Kd.V d e w base ok v xs → Kd.V d e w1 base ok v xs := by exact fun h_ => pV h_) : Qa (Kd.V d e w2 base (fun k => ok k ∧ k ≠ g) v xs) := ⟨Kd.V_below (Kd.V_elderB (f h.out) g (Nat.le_of_eq hg.symm)) hb⟩
theorem vb (h : Qa (Kd.V d e w base ok v xs)) (hb : Below w1.heap.size w1 w2) (f : Kd.V d e w base ok v xs → Kd.V d e w1 base ok v xs := by exact fun h_ => pV h_) : Qa (Kd.V d e w2 base ok v xs) := ⟨Kd.V_below (f h.out) hb⟩
theorem rl (h : d.R e w2 w1.heap.size ok v xs) (hB : Qa (Below w0.heap.size w0 w)) (f : Qa (Below w0.heap.size w0 w) → Below w0.heap.size w0 w1 := by exact fun h_ => pE h_) : Qa (d.R e w2 w0.heap.size ok v xs) := ⟨Kd.R_lower h (Qr (f hB))⟩
theorem re {β : Type} {d' : Kd β} {e' : Nat} {ys : List β} {w3 : World} (h : Qa (d.R e w base ok u xs)) (ho : d'.R e' w3 w1.heap.size okv v ys) (hb : Below w1.heap.size w1 w2) (f : d.R e w base ok u xs → d.R e w1 base ok u xs := by exact fun h_ => pR h_) : Qa (d.R e w2 base (fun k => ok k ∧ some k ≠ v.ownBlock) u xs) := ⟨Kd.R_elder' (f h.out) (Kd.R_base ho) hb⟩
end
theorem pC {A B : Prop} (h : A) (f : A → B := by intro h_; repeat (first | exact h_ | (with_reducible refine Kd.C_alloc ?_ _) | (with_reducible refine Kd.C_drewN ?_ _) | (with_reducible refine Kd.C_drew ?_))) : B := f h
theorem cr {α : Type} {d : Kd α} {A : Option Addr} {n : Nat} {xs : List α} {w w1 w2 : World} (h : Qa (d.C w A n xs)) (hb : Below w1.heap.size w1 w2) (f : d.C w A n xs → d.C w1 A n xs := by exact fun h_ => pC h_) : Qa (d.C w2 A n xs) := ⟨Kd.C_below (f h.out) hb⟩
theorem eT {A : Prop} (h : A := by first | rfl | (simp [Zz, Zy] <;> rfl) | (simp [*, Zz, Zy] <;> rfl)) : A := h
theorem dT {p : Prop} [d : Decidable p] (h : decide p = true := by first | (with_reducible assumption) | assumption) : p := of_decide_eq_true h
theorem bi {α β : Type} {x : Option α} {f : α → Option β} {r : β} (h : x.bind f = some r) : ∃ a, Qa (x = some a) ∧ f a = some r := by
 obtain ⟨a, h1, h2⟩ := Option.bind_eq_some_iff.mp h; exact ⟨a, ⟨h1⟩, h2⟩
theorem yy {A B E : Prop} (hy : E) (h : A) (f : E → A → B := by intro hy_ H; first | (rw [hy_]; with_reducible exact H) | (have H2_ := (Option.bind_some _ _).symm.trans H; rw [hy_]; with_reducible exact H2_) | (have H2_ := (Option.bind_some _ _).symm.trans H; with_reducible exact H2_) | with_reducible exact H | (rw [hy_]; exact H) | exact H) : B := f hy h
section
variable {P : Program} {ops : Array Oper} {rest : List Oper} {o : Oper} {a : Act} {Q : Exit → Act → World → Prop} {W : World}
theorem bx (N : Tmp) (cs : Array Value) (t : TypeId)
  (h : ∀ g, g = W.heap.size → ∀ w1, Qa (w1.heap[g]? = some (.cells cs t (0, 0))) → Below W.heap.size W w1 → wpList P ops Q rest (a.put o.dst (.pointer (some ⟨g, 0, none⟩))) w1)
  (hd : o.dst = some N := by rfl) (hgd : o.guard = none := by rfl)
  (hrun : (execOp a.eval o).run P W = .ok (.value (.pointer (some ⟨W.heap.size, 0, none⟩))) (W.alloc (.cells cs t (0, 0))) := by first | (go_simp; done) | (go_simp; rfl)) : wpList P ops Q (o :: rest) a W := Jl hgd hd hrun fun g hg w1 hbox hb => h g hg w1 ⟨hbox⟩ hb
theorem gc (f : FuncId) {as_ : Array Operand} {ts : Array TypeId} (ho : o.op = .call { callee := .value (.func f), args := as_, argTypes := ts }) (h : wpList P ops Q (o :: rest) a W) : wpList P ops Q (o :: rest) a W := h
theorem gL (N : Tmp) {f : FuncId} {fn : Func} {as_ : Array Operand} {ts : Array TypeId} (hf : P.funcs[f]? = some fn) (args : Array Value)
  (h : Calls P f args W fun e w' => ∃ v, e = .returned v ∧ wpList P ops Q rest (a.put (some N) v) w')
  (hd : o.dst = some N := by rfl) (hg : o.guard = none := by rfl) (hname : (fn.name == "runtime.NumGoroutine") = false := by kernel_rfl) (hb : fn.body.isSome = true := by rfl)
  (hop : o.op = .call { callee := .value (.func f), args := as_, argTypes := ts } := by rfl)
  (hargs : as_.map a.eval = args := by (try simp only [List.map_toArray, List.map_cons, List.map_nil]); first | done | rfl | (simp only [List.length_drop, List.length_take]; rfl)) : wpList P ops Q (o :: rest) a W := XE (some N) hd hg hf hname hb args hop hargs h
theorem gO {N : Option Tmp} {K : Act → World → Prop} {f : FuncId} {fn : Func} {as_ : Array Operand} {ts : Array TypeId} (hf : P.funcs[f]? = some fn) (args : Array Value)
  (h : Calls P f args W fun e w' => ∃ v, e = .returned v ∧ K (a.put N v) w')
  (hname : (fn.name == "runtime.NumGoroutine") = false := by kernel_rfl) (hb : fn.body.isSome = true := by rfl)
  (hw : Region.wanted o (yielded ops a.tmps) = true := by rfl) (hN : o.dst = N := by rfl) (hop : o.op = .call { callee := .value (.func f), args := as_, argTypes := ts } := by rfl)
  (hargs : as_.map a.eval = args := by (try simp only [List.map_toArray, List.map_cons, List.map_nil]); first | done | rfl | (simp only [List.length_drop, List.length_take]; rfl)) : if Region.wanted o (yielded ops a.tmps) = true then Oper.wp P o a W K Q else K (a.put N undef) W := Xx hf hname hb args hw hN hop hargs h
end
section
variable {P : Program} {md : Region.Mode} {ops : Array Oper} {Q : Exit → Act → World → Prop} {S : World → Prop} {ds : List Nat} {oi : Oper} {v : Value} {fuel : Nat} {l : Array Bool} {a a' : Act} {w : World}
theorem pu {l' : Array Bool} (i N : Nat) (h : QF P md ops Q S ds fuel l' a' w)
  (hl : l.setIfInBounds i true = l' := by (simp only [List.setIfInBounds_toArray, List.set_cons_zero, List.set_cons_succ]; rfl))
  (hi : ops[i]? = some oi := by rfl) (hN : oi.dst = some N := by rfl) (hc : anyB md ops l l' i = true := by first | exact Y4 HT_.out (by kernel_rfl) | kernel_rfl)
  (hQ : ∀ c a w, Q (.panic c) (a.put oi.dst v) w → Q (.panic c) a w := by exact fun _ _ _ h => h)
  (hy : Yields P ops oi v a := by (refine Or.inl ⟨by rfl, ?_⟩; intro w'; go_simp; with_reducible rfl))
  (ha : a.put (some N) v = a' := by (simp only [Act.put, List.setIfInBounds_toArray, List.set_cons_zero, List.set_cons_succ, QR, QU]; rfl)) : QF P md ops Q S ds (fuel + 1) l a w := pure_ l' hi hN hc hQ hy ha h
theorem pd {l' : Array Bool} (i N : Nat) (h : QF P md ops Q S ds fuel l' a' w)
  (hl : l.setIfInBounds i true = l' := by (simp only [List.setIfInBounds_toArray, List.set_cons_zero, List.set_cons_succ]; rfl))
  (hi : ops[i]? = some oi := by rfl) (hN : oi.dst = some N := by rfl) (hc : anyB md ops l l' i = true := by first | exact Y4 HT_.out (by kernel_rfl) | kernel_rfl)
  (hQ : ∀ c a w, Q (.panic c) (a.put oi.dst undef) w → Q (.panic c) a w := by exact fun _ _ _ h => h)
  (hy : Yields P ops oi undef a := by exact Or.inr ⟨by rfl, rfl⟩)
  (ha : a.put (some N) undef = a' := by (simp only [Act.put, List.setIfInBounds_toArray, List.set_cons_zero, List.set_cons_succ, QR, QU]; rfl)) : QF P md ops Q S ds (fuel + 1) l a w := pure_ l' hi hN hc hQ hy ha h
theorem tk {l' : Array Bool} (i N : Nat) (hS : S w) (h : QF P md ops Q S ds fuel l' a' w)
  (hl : l.setIfInBounds i true = l' := by (simp only [List.setIfInBounds_toArray, List.set_cons_zero, List.set_cons_succ]; rfl))
  (hi : ops[i]? = some oi := by rfl) (hN : oi.dst = some N := by rfl) (hc : Xq md ops ds l l' i = true := by first | exact Ye HT_.out HW_.out (by kernel_rfl) | kernel_rfl)
  (hQ : ∀ c a w, Q (.panic c) (a.put oi.dst v) w → Q (.panic c) a w := by exact fun _ _ _ h => h)
  (hy : YieldsIf P ops S oi v a := by (refine Or.inl ⟨by rfl, ?_⟩; intro w' s_; repeat (have := And.left s_; replace s_ := And.right s_); go_simp; with_reducible rfl))
  (ha : a.put (some N) v = a' := by (simp only [Act.put, List.setIfInBounds_toArray, List.set_cons_zero, List.set_cons_succ, QR, QU]; rfl)) : QF P md ops Q S ds (fuel + 1) l a w := X3 l' hi hN hc hQ hy hS ha h
theorem on {N : Option Tmp} {l' : Array Bool} (i : Nat)
  (h : ∀ K : Act → World → Prop, Shut (∀ a' w', S w' → (S w' → QF P md ops Q S ds fuel l' a' w') → K a' w') → if Region.wanted oi (yielded ops a.tmps) = true then Oper.wp P oi a w K Q else K (a.put N undef) w)
  (hl : l.setIfInBounds i true = l' := by (simp only [List.setIfInBounds_toArray, List.set_cons_zero, List.set_cons_succ]; rfl))
  (hi : ops[i]? = some oi := by rfl) (hN : oi.dst = N := by rfl) (hc : ZO md ops l l' i = true := by first | exact X9 HT_.out (by kernel_rfl) | kernel_rfl) (hd : i ∉ ds := by decide) : QF P md ops Q S ds (fuel + 1) l a w := one_ l' hi hN hc hd h
end
section
variable {w0 w w1 : World} {g t : Nat} {a0 a1 a2 a3 a4 a5 a6 a7 a8 a9 : Value} {l : List Value} {z : Nat × Nat}
theorem cut_ {p : Addr} {v : Value} (hB : Qa (Below w.heap.size w w1)) (h : w.cell? p = some v) : w1.cell? p = some v := (hB.out.cell (World.block_lt_of_cell? w _ h)).trans h
theorem cz0 (h : Qa (w.heap[g]? = some (.cells (List.toArray (a0 :: l)) t (0, 0)))) : w.cell? ⟨g, 0, none⟩ = some a0 := (Qb h.out 0).trans rfl
theorem cz1 (h : Qa (w.heap[g]? = some (.cells (List.toArray (a0 :: a1 :: l)) t (0, 0)))) : w.cell? ⟨g, 1, none⟩ = some a1 := (Qb h.out 1).trans rfl
theorem cz2 (h : Qa (w.heap[g]? = some (.cells (List.toArray (a0 :: a1 :: a2 :: l)) t (0, 0)))) : w.cell? ⟨g, 2, none⟩ = some a2 := (Qb h.out 2).trans rfl
theorem cz3 (h : Qa (w.heap[g]? = some (.cells (List.toArray (a0 :: a1 :: a2 :: a3 :: l)) t (0, 0)))) : w.cell? ⟨g, 3, none⟩ = some a3 := (Qb h.out 3).trans rfl
theorem cz4 (h : Qa (w.heap[g]? = some (.cells (List.toArray (a0 :: a1 :: a2 :: a3 :: a4 :: l)) t (0, 0)))) : w.cell? ⟨g, 4, none⟩ = some a4 := (Qb h.out 4).trans rfl
theorem cz5 (h : Qa (w.heap[g]? = some (.cells (List.toArray (a0 :: a1 :: a2 :: a3 :: a4 :: a5 :: l)) t (0, 0)))) : w.cell? ⟨g, 5, none⟩ = some a5 := (Qb h.out 5).trans rfl
theorem cz6 (h : Qa (w.heap[g]? = some (.cells (List.toArray (a0 :: a1 :: a2 :: a3 :: a4 :: a5 :: a6 :: l)) t (0, 0)))) : w.cell? ⟨g, 6, none⟩ = some a6 := (Qb h.out 6).trans rfl
theorem cz7 (h : Qa (w.heap[g]? = some (.cells (List.toArray (a0 :: a1 :: a2 :: a3 :: a4 :: a5 :: a6 :: a7 :: l)) t (0, 0)))) : w.cell? ⟨g, 7, none⟩ = some a7 := (Qb h.out 7).trans rfl
theorem cz8 (h : Qa (w.heap[g]? = some (.cells (List.toArray (a0 :: a1 :: a2 :: a3 :: a4 :: a5 :: a6 :: a7 :: a8 :: l)) t (0, 0)))) : w.cell? ⟨g, 8, none⟩ = some a8 := (Qb h.out 8).trans rfl
theorem cf1 (h : Qa (w.heap[g]? = some (.cells #[a0] t (0, 0)))) : w.cell? ⟨g, 0, none⟩ = some a0 ∧ w.frozen? ⟨g, 0, none⟩ = false := ⟨cz0 h, Qq h.out 0⟩
theorem cf2 (h : Qa (w.heap[g]? = some (.cells #[a0, a1] t (0, 0)))) : w.cell? ⟨g, 0, none⟩ = some a0 ∧ w.cell? ⟨g, 1, none⟩ = some a1 ∧ w.frozen? ⟨g, 0, none⟩ = false ∧ w.frozen? ⟨g, 1, none⟩ = false := ⟨cz0 h, cz1 h, Qq h.out 0, Qq h.out 1⟩
theorem cf3 (h : Qa (w.heap[g]? = some (.cells #[a0, a1, a2] t (0, 0)))) : w.cell? ⟨g, 0, none⟩ = some a0 ∧ w.cell? ⟨g, 1, none⟩ = some a1 ∧ w.cell? ⟨g, 2, none⟩ = some a2 ∧ w.frozen? ⟨g, 0, none⟩ = false ∧ w.frozen? ⟨g, 1, none⟩ = false ∧ w.frozen? ⟨g, 2, none⟩ = false := ⟨cz0 h, cz1 h, cz2 h, Qq h.out 0, Qq h.out 1, Qq h.out 2⟩
theorem cf4 (h : Qa (w.heap[g]? = some (.cells #[a0, a1, a2, a3] t (0, 0)))) : w.cell? ⟨g, 0, none⟩ = some a0 ∧ w.cell? ⟨g, 1, none⟩ = some a1 ∧ w.cell? ⟨g, 2, none⟩ = some a2 ∧ w.cell? ⟨g, 3, none⟩ = some a3 ∧ w.frozen? ⟨g, 0, none⟩ = false ∧ w.frozen? ⟨g, 1, none⟩ = false ∧ w.frozen? ⟨g, 2, none⟩ = false ∧ w.frozen? ⟨g, 3, none⟩ = false := ⟨cz0 h, cz1 h, cz2 h, cz3 h, Qq h.out 0, Qq h.out 1, Qq h.out 2, Qq h.out 3⟩
theorem cf5 (h : Qa (w.heap[g]? = some (.cells #[a0, a1, a2, a3, a4] t (0, 0)))) : w.cell? ⟨g, 0, none⟩ = some a0 ∧ w.cell? ⟨g, 1, none⟩ = some a1 ∧ w.cell? ⟨g, 2, none⟩ = some a2 ∧ w.cell? ⟨g, 3, none⟩ = some a3 ∧ w.cell? ⟨g, 4, none⟩ = some a4 ∧ w.frozen? ⟨g, 0, none⟩ = false ∧ w.frozen? ⟨g, 1, none⟩ = false ∧ w.frozen? ⟨g, 2, none⟩ = false ∧ w.frozen? ⟨g, 3, none⟩ = false ∧ w.frozen? ⟨g, 4, none⟩ = false := ⟨cz0 h, cz1 h, cz2 h, cz3 h, cz4 h, Qq h.out 0, Qq h.out 1, Qq h.out 2, Qq h.out 3, Qq h.out 4⟩
theorem cf6 (h : Qa (w.heap[g]? = some (.cells #[a0, a1, a2, a3, a4, a5] t (0, 0)))) : w.cell? ⟨g, 0, none⟩ = some a0 ∧ w.cell? ⟨g, 1, none⟩ = some a1 ∧ w.cell? ⟨g, 2, none⟩ = some a2 ∧ w.cell? ⟨g, 3, none⟩ = some a3 ∧ w.cell? ⟨g, 4, none⟩ = some a4 ∧ w.cell? ⟨g, 5, none⟩ = some a5 ∧ w.frozen? ⟨g, 0, none⟩ = false ∧ w.frozen? ⟨g, 1, none⟩ = false ∧ w.frozen? ⟨g, 2, none⟩ = false ∧ w.frozen? ⟨g, 3, none⟩ = false ∧ w.frozen? ⟨g, 4, none⟩ = false ∧ w.frozen? ⟨g, 5, none⟩ = false := ⟨cz0 h, cz1 h, cz2 h, cz3 h, cz4 h, cz5 h, Qq h.out 0, Qq h.out 1, Qq h.out 2, Qq h.out 3, Qq h.out 4, Qq h.out 5⟩
theorem cf7 (h : Qa (w.heap[g]? = some (.cells #[a0, a1, a2, a3, a4, a5, a6] t (0, 0)))) : w.cell? ⟨g, 0, none⟩ = some a0 ∧ w.cell? ⟨g, 1, none⟩ = some a1 ∧ w.cell? ⟨g, 2, none⟩ = some a2 ∧ w.cell? ⟨g, 3, none⟩ = some a3 ∧ w.cell? ⟨g, 4, none⟩ = some a4 ∧ w.cell? ⟨g, 5, none⟩ = some a5 ∧ w.cell? ⟨g, 6, none⟩ = some a6 ∧ w.frozen? ⟨g, 0, none⟩ = false ∧ w.frozen? ⟨g, 1, none⟩ = false ∧ w.frozen? ⟨g, 2, none⟩ = false ∧ w.frozen? ⟨g, 3, none⟩ = false ∧ w.frozen? ⟨g, 4, none⟩ = false ∧ w.frozen? ⟨g, 5, none⟩ = false ∧ w.frozen? ⟨g, 6, none⟩ = false := ⟨cz0 h, cz1 h, cz2 h, cz3 h, cz4 h, cz5 h, cz6 h, Qq h.out 0, Qq h.out 1, Qq h.out 2, Qq h.out 3, Qq h.out 4, Qq h.out 5, Qq h.out 6⟩
theorem cf8 (h : Qa (w.heap[g]? = some (.cells #[a0, a1, a2, a3, a4, a5, a6, a7] t (0, 0)))) : w.cell? ⟨g, 0, none⟩ = some a0 ∧ w.cell? ⟨g, 1, none⟩ = some a1 ∧ w.cell? ⟨g, 2, none⟩ = some a2 ∧ w.cell? ⟨g, 3, none⟩ = some a3 ∧ w.cell? ⟨g, 4, none⟩ = some a4 ∧ w.cell? ⟨g, 5, none⟩ = some a5 ∧ w.cell? ⟨g, 6, none⟩ = some a6 ∧ w.cell? ⟨g, 7, none⟩ = some a7 ∧ w.frozen? ⟨g, 0, none⟩ = false ∧ w.frozen? ⟨g, 1, none⟩ = false ∧ w.frozen? ⟨g, 2, none⟩ = false ∧ w.frozen? ⟨g, 3, none⟩ = false ∧ w.frozen? ⟨g, 4, none⟩ = false ∧ w.frozen? ⟨g, 5, none⟩ = false ∧ w.frozen? ⟨g, 6, none⟩ = false ∧ w.frozen? ⟨g, 7, none⟩ = false := ⟨cz0 h, cz1 h, cz2 h, cz3 h, cz4 h, cz5 h, cz6 h, cz7 h, Qq h.out 0, Qq h.out 1, Qq h.out 2, Qq h.out 3, Qq h.out 4, Qq h.out 5, Qq h.out 6, Qq h.out 7⟩
theorem cf9 (h : Qa (w.heap[g]? = some (.cells #[a0, a1, a2, a3, a4, a5, a6, a7, a8] t (0, 0)))) : w.cell? ⟨g, 0, none⟩ = some a0 ∧ w.cell? ⟨g, 1, none⟩ = some a1 ∧ w.cell? ⟨g, 2, none⟩ = some a2 ∧ w.cell? ⟨g, 3, none⟩ = some a3 ∧ w.cell? ⟨g, 4, none⟩ = some a4 ∧ w.cell? ⟨g, 5, none⟩ = some a5 ∧ w.cell? ⟨g, 6, none⟩ = some a6 ∧ w.cell? ⟨g, 7, none⟩ = some a7 ∧ w.cell? ⟨g, 8, none⟩ = some a8 ∧ w.frozen? ⟨g, 0, none⟩ = false ∧ w.frozen? ⟨g, 1, none⟩ = false ∧ w.frozen? ⟨g, 2, none⟩ = false ∧ w.frozen? ⟨g, 3, none⟩ = false ∧ w.frozen? ⟨g, 4, none⟩ = false ∧ w.frozen? ⟨g, 5, none⟩ = false ∧ w.frozen? ⟨g, 6, none⟩ = false ∧ w.frozen? ⟨g, 7, none⟩ = false ∧ w.frozen? ⟨g, 8, none⟩ = false := ⟨cz0 h, cz1 h, cz2 h, cz3 h, cz4 h, cz5 h, cz6 h, cz7 h, cz8 h, Qq h.out 0, Qq h.out 1, Qq h.out 2, Qq h.out 3, Qq h.out 4, Qq h.out 5, Qq h.out 6, Qq h.out 7, Qq h.out 8⟩
end
end Go.Proofs.Ytjaapkkpmegkfaa.P
namespace Go.Proofs.YtjaapkkpmegkfaaW.PrintLast
open Go.Proofs.YtjaapkkpmegkfaaW.PrintWords (Qa)
def ZI (md : Region.Mode) (o : Oper) : List Nat := (o.after.toList.filter (fun e => Region.binds md e)).map (fun e => e.on)
def XN (md : Region.Mode) (ops : Array Oper) (i : Nat) (oi : Oper) : List Nat := (List.range ops.size).filter fun j => !(j == i) && match ops[j]? with
 | some oj => !(oj.after.any (fun e => Region.binds md e && e.on == i) || oi.apart ops oj)
 | none => false
def rtab (md : Region.Mode) (ops : Array Oper) : Bool × List (List Nat × List Nat) := (Region.noSelect ops, (List.range ops.size).map fun i => match ops[i]? with
 | some o => (ZI md o, XN md ops i o)
 | none => ([], []))
def Zo (T : List (List Nat × List Nat)) (l : List Bool) (i : Nat) : Bool := !l.getD i true && match T[i]? with
 | some r => r.1.all (fun j => l.getD j false)
 | none => false
def Z0 (T : List (List Nat × List Nat)) (l : List Bool) : List Nat := (List.range T.length).filter (Zo T l)
def XC (T : List (List Nat × List Nat)) (l : List Bool) (i : Nat) : Bool := match T[i]? with
 | some r => r.2.all (fun j => l.getD j true)
 | none => false
def Xn (T : List (List Nat × List Nat)) (l : List Bool) : Bool := (List.range T.length).all fun j => !l.getD j false || match T[j]? with
 | some r => r.1.all (fun k => l.getD k false)
 | none => true
def ZY (T : List (List Nat × List Nat)) (i : Nat) : Nat → Nat → Bool
 | 0, _ => false
 | fuel + 1, d => match T[d]? with
  | some r => r.1.any fun j => j == i || ZY T i fuel j
  | none => false
def X4 (T : List (List Nat × List Nat)) (l : List Bool) (ds : List Nat) (i : Nat) : Bool := ds.all fun d => l.getD d true || ZY T i T.length d
section
variable {md : Region.Mode} {ops : Array Oper} {T : Bool × List (List Nat × List Nat)} {l l' li lj lk : Array Bool} {ds : List Nat} {i j k : Nat}
theorem gd (l : Array Bool) (j : Nat) (b : Bool) : l.getD j b = l.toList.getD j b := by simp [Array.getD_eq_getD_getElem?, List.getD_eq_getElem?_getD]
theorem XS (o : Oper) (p : Nat → Bool) : o.after.all (fun e => !Region.binds md e || p e.on) = (ZI md o).all p := by
 unfold ZI; rw [← Array.all_toList]
 induction o.after.toList with
 | nil => rfl
 | cons e r ih =>
  rw [List.all_cons, ih, List.filter_cons]
  cases h : Region.binds md e <;> simp
theorem Y7 (o : Oper) (p : Nat → Bool) : o.after.any (fun e => Region.binds md e && p e.on) = (ZI md o).any p := by
 unfold ZI; rw [← Array.any_toList]
 induction o.after.toList with
 | nil => rfl
 | cons e r ih =>
  rw [List.any_cons, ih, List.filter_cons]
  cases h : Region.binds md e <;> simp
theorem Zu : (rtab md ops).2.length = ops.size := by simp [rtab]
theorem ZQ {o : Oper} (h : ops[i]? = some o) : (rtab md ops).2[i]? = some (ZI md o, XN md ops i o) := by
 have hi := (Array.getElem?_eq_some_iff.1 h).1; unfold rtab; rw [List.getElem?_map, List.getElem?_range hi, Option.map_some, h]
theorem ZT (h : ops[i]? = none) : (rtab md ops).2[i]? = none := by
 have hi : ops.size ≤ i := Array.getElem?_eq_none_iff.1 h; exact List.getElem?_eq_none (by rw [Zu]; exact hi)
theorem YO : Zo (rtab md ops).2 l.toList i = (!l.getD i true && ((ops[i]?).map (·.after.all fun e => !Region.binds md e || l.getD e.on false)).getD false) := by
 unfold Zo; rw [gd]
 cases h : ops[i]? with
 | none => rw [ZT h]; rfl
 | some o =>
  rw [ZQ h]; simp only [Option.map_some, Option.getD_some]; rw [← XS]; simp only [gd]
theorem Z8 : Region.ready md ops l = Z0 (rtab md ops).2 l.toList := by
 unfold Region.ready Z0; rw [Zu]; refine List.filter_congr (fun i _ => ?_); rw [YO]
theorem Yv : Region.free md ops l i = XC (rtab md ops).2 l.toList i := by
 unfold Region.free XC
 cases h : ops[i]? with
 | none => rw [ZT h]
 | some oi =>
  rw [ZQ h]; simp only [XN]; rw [List.all_filter]
  congr 1
  funext j
  rw [gd]
  cases hj : ops[j]? with
  | none => cases (j == i) <;> cases (l.toList.getD j true) <;> simp
  | some oj =>
   cases (j == i) <;> cases (l.toList.getD j true) <;> cases (oj.after.any (fun e => Region.binds md e && e.on == i) || oi.apart ops oj) <;> simp_all
theorem Qaa : Region.closedB md ops l = Xn (rtab md ops).2 l.toList := by
 unfold Region.closedB Xn; rw [Zu]
 congr 1
 funext j
 rw [gd]
 cases h : ops[j]? with
 | none => rw [ZT h]
 | some o =>
  rw [ZQ h]; simp only; rw [← XS]; simp only [gd]
theorem Yh : ∀ (fuel d : Nat), Region.reachB md ops i fuel d = ZY (rtab md ops).2 i fuel d
 | 0, _ => rfl
 | fuel + 1, d => by
  unfold Region.reachB ZY
  cases h : ops[d]? with
  | none => rw [ZT h]
  | some o =>
   rw [ZQ h]; simp only; rw [← Y7]
   congr 1
   funext e
   rw [Yh fuel]
theorem last_eq : Region.lastB md ops l ds i = X4 (rtab md ops).2 l.toList ds i := by
 unfold Region.lastB X4; rw [Zu]
 congr 1
 funext d
 rw [gd, Yh]
theorem Xr (h : Zo T.2 l.toList i = true) (hT : rtab md ops = T) : (Region.ready md ops l).contains i = true := by
 subst hT; rw [Z8]; unfold Z0; rw [List.contains_iff_mem, List.mem_filter, List.mem_range]; refine ⟨?_, h⟩; unfold Zo at h; rw [Bool.and_eq_true] at h
 cases hq : (rtab md ops).2[i]? with
 | none => rw [hq] at h; simp at h
 | some r => exact (List.getElem?_eq_some_iff.1 hq).1
theorem Xh (h : (l.toList.set i true == l'.toList) = true) : (l.setIfInBounds i true == l') = true := by
 rw [beq_iff_eq] at h ⊢; apply Array.ext'
 rw [Array.toList_setIfInBounds]; exact h
def anyT (T : Bool × List (List Nat × List Nat)) (l l' : List Bool) (i : Nat) : Bool := T.1 && XC T.2 l i && Zo T.2 l i && (l.set i true == l')
theorem Y4 (hT : rtab md ops = T) (h : anyT T l.toList l'.toList i = true) : anyB md ops l l' i = true := by
 simp only [anyT, Bool.and_eq_true] at h; obtain ⟨⟨⟨h1, h2⟩, h3⟩, h4⟩ := h; have h5 := Xr h3 hT; have h6 := Xh h4; subst hT; simp only [anyB, Bool.and_eq_true]; exact ⟨⟨⟨h1, by rw [Yv]; exact h2⟩, h5⟩, h6⟩
def YF (T : Bool × List (List Nat × List Nat)) (ds : List Nat) (l l' : List Bool) (i : Nat) : Bool := T.1 && XC T.2 l i && Zo T.2 l i && Xn T.2 l && X4 T.2 l ds i && (l.set i true == l')
theorem take_of (hT : rtab md ops = T) (h : YF T ds l.toList l'.toList i = true) : Xq md ops ds l l' i = true := by
 simp only [YF, Bool.and_eq_true] at h; obtain ⟨⟨⟨⟨⟨h1, h2⟩, h3⟩, h4⟩, h5⟩, h6⟩ := h; have h7 := Xr h3 hT; have h8 := Xh h6; subst hT; simp only [Xq, Bool.and_eq_true]; exact ⟨⟨⟨⟨⟨h1, by rw [Yv]; exact h2⟩, h7⟩, by rw [Qaa]; exact h4⟩, by rw [last_eq]; exact h5⟩, h8⟩
theorem X9 (hT : rtab md ops = T) (h : (Z0 T.2 l.toList == [i] && l.toList.set i true == l'.toList) = true) : ZO md ops l l' i = true := by
 simp only [Bool.and_eq_true] at h; obtain ⟨h1, h2⟩ := h; subst hT; simp only [ZO, Bool.and_eq_true]; exact ⟨by rw [Z8]; exact h1, Xh h2⟩
theorem YY (hT : rtab md ops = T) (h : (Z0 T.2 l.toList == [i, j] && l.toList.set i true == li.toList && l.toList.set j true == lj.toList) = true) : (Region.ready md ops l == [i, j] && l.setIfInBounds i true == li && l.setIfInBounds j true == lj) = true := by
 simp only [Bool.and_eq_true] at h ⊢; obtain ⟨⟨h1, h2⟩, h3⟩ := h; subst hT; exact ⟨⟨by rw [Z8]; exact h1, Xh h2⟩, Xh h3⟩
theorem JM (hT : rtab md ops = T) (h : (Z0 T.2 l.toList == []) = true) : (Region.ready md ops l == []) = true := by
 subst hT; rw [Z8]; exact h
def upM (B : List Nat) (d : Nat) : List Nat → Nat
 | [] => 0
 | n :: r => (2 ^ n ||| (if n < d then B.getD n 0 else 0)) ||| upM B d r
def J0 (T : List (List Nat × List Nat)) (B : List Nat) : Bool := (List.range T.length).all fun d => match T[d]? with
 | some r => (B.getD d 0 ||| upM B d r.1) == upM B d r.1
 | none => false
theorem Yu {B : List Nat} {d i : Nat} : ∀ {ns : List Nat}, (upM B d ns).testBit i = true → ∃ n ∈ ns, n = i ∨ (n < d ∧ (B.getD n 0).testBit i = true)
 | [], h => by simp [upM] at h
 | n :: r, h => by
  unfold upM at h; rw [Nat.testBit_or, Nat.testBit_or, Bool.or_eq_true, Bool.or_eq_true] at h
  rcases h with (h | h) | h
  ·rw [Nat.testBit_two_pow] at h
   exact ⟨n, List.mem_cons_self, .inl (by simpa using h)⟩
  ·by_cases hn : n < d
   ·rw [if_pos hn] at h
    exact ⟨n, List.mem_cons_self, .inr ⟨hn, h⟩⟩
   ·rw [if_neg hn] at h
    simp at h
  ·obtain ⟨m, hm, h2⟩ := Yu h
   exact ⟨m, List.mem_cons_of_mem _ hm, h2⟩
theorem XR {T : List (List Nat × List Nat)} {B : List Nat} (hB : J0 T B = true) : ∀ (fuel d : Nat), d < fuel → d < T.length → (B.getD d 0).testBit i = true → ZY T i fuel d = true
 | 0, d, h, _, _ => by omega
 | fuel + 1, d, h, hd, hb => by
  have h1 := List.all_eq_true.1 hB d (List.mem_range.2 hd)
  cases hr : T[d]? with
  | none => rw [hr] at h1; simp at h1
  | some r =>
   rw [hr] at h1; simp only [beq_iff_eq] at h1; have h2 : (upM B d r.1).testBit i = true := by rw [← h1, Nat.testBit_or, hb, Bool.true_or]
   obtain ⟨n, hn, h3⟩ := Yu h2; unfold ZY; rw [hr]; simp only; rw [List.any_eq_true]; refine ⟨n, hn, ?_⟩
   rcases h3 with rfl | ⟨h4, h5⟩
   ·simp
   ·rw [XR hB fuel n (by omega) (by omega) h5, Bool.or_true]
def lastW (T : List (List Nat × List Nat)) (B : List Nat) (l : List Bool) (ds : List Nat) (i : Nat) : Bool := ds.all fun d => l.getD d true || (decide (d < T.length) && (B.getD d 0).testBit i)
def takeW (T : Bool × List (List Nat × List Nat)) (B : List Nat) (ds : List Nat) (l l' : List Bool) (i : Nat) : Bool := T.1 && XC T.2 l i && Zo T.2 l i && Xn T.2 l && lastW T.2 B l ds i && (l.set i true == l')
theorem Ye {B : List Nat} (hT : rtab md ops = T) (hB : J0 T.2 B = true) (h : takeW T B ds l.toList l'.toList i = true) : Xq md ops ds l l' i = true := by
 refine take_of hT ?_; simp only [takeW, YF, Bool.and_eq_true] at h ⊢; obtain ⟨⟨⟨⟨⟨h1, h2⟩, h3⟩, h4⟩, h5⟩, h6⟩ := h; refine ⟨⟨⟨⟨⟨h1, h2⟩, h3⟩, h4⟩, ?_⟩, h6⟩; unfold lastW at h5; unfold X4; rw [List.all_eq_true] at h5 ⊢; intro d hd; have h7 := h5 d hd; rw [Bool.or_eq_true, Bool.and_eq_true, decide_eq_true_eq] at h7
 rcases h7 with h7 | ⟨h8, h9⟩
 ·rw [h7, Bool.true_or]
 ·rw [XR hB _ d h8 h8 h9, Bool.or_true]
theorem Jk {P : Program} {Q : Exit → Act → World → Prop} {S : World → Prop} {n : Nat} {a : Act} {w : World} {B : List Nat} (hT : rtab md ops = T) (hB : J0 T.2 B = true) (h : Qa (rtab md ops = T) → Qa (J0 T.2 B = true) → QF P md ops Q S ds n l a w) : QF P md ops Q S ds n l a w := h ⟨hT⟩ ⟨hB⟩
end
def Zv : Code → Nat → Option (Array Oper)
 | .region id ops _, k => if id == k then some ops else none
 | .seq a b, k => match Zv a k with
  | some o => some o
  | none => Zv b k
 | .cond _ a b, k => match Zv a k with
  | some o => some o
  | none => Zv b k
 | .block _ c, k => Zv c k
 | .loop c, k => Zv c k
 | .scope c, k => Zv c k
 | .rangeFunc _ _ a b, k => match Zv a k with
  | some o => some o
  | none => Zv b k
 | _, _ => none
def ZG (f : Func) (k : Nat) : Array Oper := ((f.body.bind fun c => Zv c k)).getD #[]
end Go.Proofs.YtjaapkkpmegkfaaW.PrintLast
namespace Go.Proofs.YtjaapkkpmegkfaaW.PrintLast
end Go.Proofs.YtjaapkkpmegkfaaW.PrintLast
namespace Go.Proofs.YtjaapkkpmegkfaaW.PrintWords
open Go.RowKit
namespace Kd
end Kd
end Go.Proofs.YtjaapkkpmegkfaaW.PrintWords
namespace Go.Proofs.YtjaapkkpmegkfaaW.PrintWords
open Go.RowKit
namespace Kd
end Kd
end Go.Proofs.YtjaapkkpmegkfaaW.PrintWords
namespace Go.Proofs.YtjaapkkpmegkfaaW.PrintWords
open Go.RowKit
section
variable {P : Program} {d : Nat} {xs ys : Array Value} {f : Field} {fs : List Field} {a b : Value} {r s : Bool} {w : World}
theorem Qah (hn : (f.name == "_") = false) (ha : (part f.type xs f.offset).run P w = .ok a w) (hb : (part f.type ys f.offset).run P w = .ok b w) (he : (Op.equalIn d f.type a b).run P w = .ok r w) : (Op.eqFields d xs ys [f]).run P w = .ok r w := by
 have hn' : f.name ≠ "_" := by simpa using hn
 simp only [Op.eqFields, if_pos hn', Sem.run_bind, ha, hb, he, Result.andThen_ok]
 cases r <;> simp
theorem Qab (hn : (f.name == "_") = false) (ha : (part f.type xs f.offset).run P w = .ok a w) (hb : (part f.type ys f.offset).run P w = .ok b w) (he : (Op.equalIn d f.type a b).run P w = .ok r w) (hr : (Op.eqFields d xs ys fs).run P w = .ok s w) : (Op.eqFields d xs ys (f :: fs)).run P w = .ok (r && s) w := by
 have hn' : f.name ≠ "_" := by simpa using hn
 rw [Op.eqFields]; simp only [if_pos hn', Sem.run_bind, ha, hb, he, Result.andThen_ok]
 cases r
 ·simp
 ·simpa using hr
theorem eqA_of {t : TypeId} {fs : Array Field} (hu : P.underlying t = some (.struct fs)) (hp : P.stoodInHeld t = false) (h : (Op.eqFields d xs ys fs.toList).run P w = .ok r w) : (Op.equalIn (d + 1) t (.agg xs) (.agg ys)).run P w = .ok r w := by
 have hf : P.fieldsOf t = fs := by simp [Program.fieldsOf, hu]
 rw [run_equalIn_struct (P := P) w d t xs ys (by rw [hf]; exact hu) hp, hf]; exact h
end
end Go.Proofs.YtjaapkkpmegkfaaW.PrintWords
namespace Go.Proofs.YtjaapkkpmegkfaaW.PrintWords
theorem Reps.one {α : Type} {R : α → List Value → Prop} {ps : List α} {cs : List Value} {p : α} {v : Value} (hp : R p [v]) (h : Reps R 1 ps cs) : Reps R 1 (p :: ps) (v :: cs) := by
 refine ⟨by simp [h.1], fun j q hq => ?_⟩
 cases j with
 | zero =>
  simp only [List.getElem?_cons_zero, Option.some.injEq] at hq; subst hq
  simpa using hp
 | succ j =>
  simp only [List.getElem?_cons_succ] at hq; have h1 := h.2 j q hq
  simpa [Nat.mul_one] using h1
theorem Reps.front {α : Type} {R : α → List Value → Prop} {size : Nat} {ps : List α} {cs c all : List Value} {p : α} (hp : R p c) (hc : c.length = size) (h : Reps R size ps cs) (ha : c ++ cs = all) : Reps R size (p :: ps) all := by
 subst ha; refine ⟨by rw [List.length_append, hc, h.1, List.length_cons, Nat.succ_mul, Nat.add_comm], fun j q hq => ?_⟩
 cases j with
 | zero =>
  simp only [List.getElem?_cons_zero, Option.some.injEq] at hq; subst hq; rw [Nat.zero_mul, List.drop_zero, List.take_append_of_le_length (by omega), List.take_of_length_le (by omega)]; exact hp
 | succ j =>
  simp only [List.getElem?_cons_succ] at hq; have h1 := h.2 j q hq; rw [Nat.succ_mul, List.drop_append, List.drop_of_length_le (by rw [hc]; exact Nat.le_add_left _ _), List.nil_append, hc, Nat.add_sub_cancel]; exact h1
theorem Reps.c2 {α : Type} {R : α → List Value → Prop} {ps : List α} {cs : List Value} {p : α} {va vb : Value} (hp : R p [va, vb]) (h : Reps R 2 ps cs) : Reps R 2 (p :: ps) (va :: vb :: cs) := Reps.front hp rfl h rfl
theorem Reps.c3 {α : Type} {R : α → List Value → Prop} {ps : List α} {cs : List Value} {p : α} {va vb vc : Value} (hp : R p [va, vb, vc]) (h : Reps R 3 ps cs) : Reps R 3 (p :: ps) (va :: vb :: vc :: cs) := Reps.front hp rfl h rfl
theorem Reps.c4 {α : Type} {R : α → List Value → Prop} {ps : List α} {cs : List Value} {p : α} {va vb vc vd : Value} (hp : R p [va, vb, vc, vd]) (h : Reps R 4 ps cs) : Reps R 4 (p :: ps) (va :: vb :: vc :: vd :: cs) := Reps.front hp rfl h rfl
theorem Reps.c5 {α : Type} {R : α → List Value → Prop} {ps : List α} {cs : List Value} {p : α} {va vb vc vd ve : Value} (hp : R p [va, vb, vc, vd, ve]) (h : Reps R 5 ps cs) : Reps R 5 (p :: ps) (va :: vb :: vc :: vd :: ve :: cs) := Reps.front hp rfl h rfl
theorem Reps.c6 {α : Type} {R : α → List Value → Prop} {ps : List α} {cs : List Value} {p : α} {va vb vc vd ve vf : Value} (hp : R p [va, vb, vc, vd, ve, vf]) (h : Reps R 6 ps cs) : Reps R 6 (p :: ps) (va :: vb :: vc :: vd :: ve :: vf :: cs) := Reps.front hp rfl h rfl
theorem Reps.c7 {α : Type} {R : α → List Value → Prop} {ps : List α} {cs : List Value} {p : α} {va vb vc vd ve vf vg : Value} (hp : R p [va, vb, vc, vd, ve, vf, vg]) (h : Reps R 7 ps cs) : Reps R 7 (p :: ps) (va :: vb :: vc :: vd :: ve :: vf :: vg :: cs) := Reps.front hp rfl h rfl
theorem Reps.c8 {α : Type} {R : α → List Value → Prop} {ps : List α} {cs : List Value} {p : α} {va vb vc vd ve vf vg vh : Value} (hp : R p [va, vb, vc, vd, ve, vf, vg, vh]) (h : Reps R 8 ps cs) : Reps R 8 (p :: ps) (va :: vb :: vc :: vd :: ve :: vf :: vg :: vh :: cs) := Reps.front hp rfl h rfl
theorem Reps.c9 {α : Type} {R : α → List Value → Prop} {ps : List α} {cs : List Value} {p : α} {va vb vc vd ve vf vg vh vi : Value} (hp : R p [va, vb, vc, vd, ve, vf, vg, vh, vi]) (h : Reps R 9 ps cs) : Reps R 9 (p :: ps) (va :: vb :: vc :: vd :: ve :: vf :: vg :: vh :: vi :: cs) := Reps.front hp rfl h rfl
theorem Reps.c10 {α : Type} {R : α → List Value → Prop} {ps : List α} {cs : List Value} {p : α} {va vb vc vd ve vf vg vh vi vj : Value} (hp : R p [va, vb, vc, vd, ve, vf, vg, vh, vi, vj]) (h : Reps R 10 ps cs) : Reps R 10 (p :: ps) (va :: vb :: vc :: vd :: ve :: vf :: vg :: vh :: vi :: vj :: cs) := Reps.front hp rfl h rfl
end Go.Proofs.YtjaapkkpmegkfaaW.PrintWords
namespace Go.Proofs.YtjaapkkpmegkfaaW.PrintLast
end Go.Proofs.YtjaapkkpmegkfaaW.PrintLast
namespace Go.Proofs.YtjaapkkpmegkfaaW.PrintWords
open Go.RowKit
end Go.Proofs.YtjaapkkpmegkfaaW.PrintWords
namespace Go.Proofs.YtjaapkkpmegkfaaW.PrintLast
end Go.Proofs.YtjaapkkpmegkfaaW.PrintLast
namespace Go.Proofs.YtjaapkkpmegkfaaW.PrintWords
open Go.RowKit
section
variable {P : Program} {ops : Array Oper} {rest : List Oper} {o : Oper} {a : Act} {Q : Exit → Act → World → Prop} {W : World}
theorem QG (hw : Region.wanted o (yielded ops a.tmps) = true) (h : wpList P ops Q ({ o with guard := none } :: rest) a W) : wpList P ops Q (o :: rest) a W := by
 have h1 : Region.wanted { o with guard := none } (yielded ops a.tmps) = true := rfl; unfold wpList at h ⊢; rw [if_pos h1] at h; rw [if_pos hw]; exact h
end
end Go.Proofs.YtjaapkkpmegkfaaW.PrintWords
namespace Go.Proofs.Ytjaapkkpmegkfaa.P
open Go.RowKit Go.Proofs.YtjaapkkpmegkfaaW.PrintWords Go.Proofs.YtjaapkkpmegkfaaW.PrintLast Go.Proofs.YtjaapkkpmegkfaaW.PrintMore
attribute [local go_sem] JG JH JY JX Jv Ju JJ JK
def errW : Option Int → Value
 | none => .nilIface
 | some c => .iface 0 (.int .i64 c)
theorem Zz : errW none = .nilIface := rfl
theorem Zy (c : Int) : errW (some c) = .iface 0 (.int .i64 c) := rfl
theorem J5 : (Try.prog.info? 3).map (fun i => (i.zero, i.size, i.bytes)) = some (some (.int .i64 0), 1, 8) := by kernel_rfl
theorem info24 : (Try.prog.info? 24).map (fun i => (i.zero, i.size, i.bytes)) = some (some (.slice none 0 0), 1, 24) := by kernel_rfl
theorem info59 : (Try.prog.info? 59).map (fun i => (i.zero, i.size, i.bytes)) = some (some (.agg #[(.int .i64 0), (.int .i64 0), (.int .i64 0), (.int .i64 0), (.int .i64 0)]), 5, 40) := by kernel_rfl
theorem info83 : (Try.prog.info? 83).map (fun i => (i.zero, i.size, i.bytes)) = some (some (.agg #[(.int .i64 0), (.int .i64 0), (.int .i64 0), (.int .i64 0), (.int .i64 0)]), 5, 40) := by kernel_rfl
structure S36 where
 f0 : Int
 f1 : Int
def z36 : S36 := ⟨(0 : Int), (0 : Int)⟩
def k36 : Kd S36 := Kd.iso (Kd.pair (Kd.int .i64) (Kd.int .i64)) (fun x : S36 => (x.f0, x.f1))
theorem Qaf : Kd.Heap k36 := Kd.heap_iso _ (Kd.heap_pair (Kd.heap_int .i64) (Kd.heap_int .i64))
theorem Z6 {w : World} {x : S36} {cs : List Value} (h : k36.K w x cs) : cs = [.int .i64 x.f0, .int .i64 x.f1] := by
 obtain ⟨_, _, rfl, rfl, rfl⟩ := h; exact rfl
theorem Y6 {w : World} {base : Nat} {ok : Nat → Prop} {x : S36} {cs : List Value} (h : k36.M w base ok x cs) : cs = [.int .i64 x.f0, .int .i64 x.f1] := by
 obtain ⟨_, _, rfl, rfl, rfl⟩ := h; exact rfl
theorem Xo (w : World) (base : Nat) (ok : Nat → Prop) (x : S36)  : k36.M w base ok x [.int .i64 x.f0, .int .i64 x.f1] := ⟨[.int .i64 x.f0], [.int .i64 x.f1], rfl, rfl, rfl⟩
structure S83 where
 f0 : S36
 f1 : Int
 f2 : Int
 f3 : Int
def z83 : S83 := ⟨z36, (0 : Int), (0 : Int), (0 : Int)⟩
def k83 : Kd S83 := Kd.iso (Kd.pair k36 (Kd.pair (Kd.int .i64) (Kd.pair (Kd.int .i64) (Kd.int .i64)))) (fun x : S83 => (x.f0, x.f1, x.f2, x.f3))
theorem JT : Kd.Heap k83 := Kd.heap_iso _ (Kd.heap_pair Qaf (Kd.heap_pair (Kd.heap_int .i64) (Kd.heap_pair (Kd.heap_int .i64) (Kd.heap_int .i64))))
theorem YS {w : World} {x : S83} {cs : List Value} (h : k83.K w x cs) : cs = [.int .i64 x.f0.f0, .int .i64 x.f0.f1, .int .i64 x.f1, .int .i64 x.f2, .int .i64 x.f3] := by
 obtain ⟨_, _, rfl, s0, ⟨_, _, rfl, rfl, ⟨_, _, rfl, rfl, rfl⟩⟩⟩ := h; obtain rfl := Z6 s0; exact rfl
theorem ZH {w : World} {base : Nat} {ok : Nat → Prop} {x : S83} {cs : List Value} (h : k83.M w base ok x cs) : cs = [.int .i64 x.f0.f0, .int .i64 x.f0.f1, .int .i64 x.f1, .int .i64 x.f2, .int .i64 x.f3] := by
 obtain ⟨_, _, rfl, s0, ⟨_, _, rfl, rfl, ⟨_, _, rfl, rfl, rfl⟩⟩⟩ := h; obtain rfl := Y6 s0; exact rfl
theorem ZM (w : World) (base : Nat) (ok : Nat → Prop) (x : S83)  : k83.M w base ok x [.int .i64 x.f0.f0, .int .i64 x.f0.f1, .int .i64 x.f1, .int .i64 x.f2, .int .i64 x.f3] := ⟨[.int .i64 x.f0.f0, .int .i64 x.f0.f1], [.int .i64 x.f1, .int .i64 x.f2, .int .i64 x.f3], rfl, (Xo w base ok x.f0 ), ⟨[.int .i64 x.f1], [.int .i64 x.f2, .int .i64 x.f3], rfl, rfl, ⟨[.int .i64 x.f2], [.int .i64 x.f3], rfl, rfl, rfl⟩⟩⟩
def Qf (xs : List S83) (i : Int) : S83 := xs.getD i.toNat z83
theorem Zf {w : World} {A : Option Addr} {n : Nat} {xs : List S83} (h : Kd.C k83 w A n xs) (i : Int) (h0 : 0 ≤ i) (h1 : i < n) : ∃ ad , A = some ad ∧ w.cell? (ad.add (i.toNat * 5)) = some (.int .i64 (Qf xs i).f0.f0) ∧ w.cell? ⟨(ad.add (i.toNat * 5)).block, (ad.add (i.toNat * 5)).off + 1, none⟩ = some (.int .i64 (Qf xs i).f0.f1) ∧ w.cell? ⟨(ad.add (i.toNat * 5)).block, (ad.add (i.toNat * 5)).off + 2, none⟩ = some (.int .i64 (Qf xs i).f1) ∧ w.cell? ⟨(ad.add (i.toNat * 5)).block, (ad.add (i.toNat * 5)).off + 3, none⟩ = some (.int .i64 (Qf xs i).f2) ∧ w.cell? ⟨(ad.add (i.toNat * 5)).block, (ad.add (i.toNat * 5)).off + 4, none⟩ = some (.int .i64 (Qf xs i).f3) := by
 obtain ⟨ad, c, e, _, hK, hc0⟩ := Kd.C_get h z83 i h0 h1; have hc : ∀ j u, c[j]? = some u → w.cell? (ad.add (i.toNat * 5 + j)) = some u := hc0
 obtain rfl := YS hK; exact ⟨ad, e, hc 0 _ rfl, by rw [← Jt _ _ 1 (by omega)]; exact hc 1 _ rfl, by rw [← Jt _ _ 2 (by omega)]; exact hc 2 _ rfl, by rw [← Jt _ _ 3 (by omega)]; exact hc 3 _ rfl, by rw [← Jt _ _ 4 (by omega)]; exact hc 4 _ rfl⟩
structure S40 where
 f0 : S36
 f1 : S36
 f2 : Int
def z40 : S40 := ⟨z36, z36, (0 : Int)⟩
def k40 : Kd S40 := Kd.iso (Kd.pair k36 (Kd.pair k36 (Kd.int .i64))) (fun x : S40 => (x.f0, x.f1, x.f2))
theorem Qai {w : World} {x : S40} {cs : List Value} (h : k40.K w x cs) : cs = [.int .i64 x.f0.f0, .int .i64 x.f0.f1, .int .i64 x.f1.f0, .int .i64 x.f1.f1, .int .i64 x.f2] := by
 obtain ⟨_, _, rfl, s0, ⟨_, _, rfl, s2, rfl⟩⟩ := h; obtain rfl := Z6 s0; obtain rfl := Z6 s2; exact rfl
theorem Xp (w : World) (base : Nat) (ok : Nat → Prop) (x : S40)  : k40.M w base ok x [.int .i64 x.f0.f0, .int .i64 x.f0.f1, .int .i64 x.f1.f0, .int .i64 x.f1.f1, .int .i64 x.f2] := ⟨[.int .i64 x.f0.f0, .int .i64 x.f0.f1], [.int .i64 x.f1.f0, .int .i64 x.f1.f1, .int .i64 x.f2], rfl, (Xo w base ok x.f0 ), ⟨[.int .i64 x.f1.f0, .int .i64 x.f1.f1], [.int .i64 x.f2], rfl, (Xo w base ok x.f1 ), rfl⟩⟩
def Qy (xs : List S40) (i : Int) : S40 := xs.getD i.toNat z40
theorem Yb {w : World} {A : Option Addr} {n : Nat} {xs : List S40} (h : Kd.C k40 w A n xs) (i : Int) (h0 : 0 ≤ i) (h1 : i < n) : ∃ ad , A = some ad ∧ w.cell? (ad.add (i.toNat * 5)) = some (.int .i64 (Qy xs i).f0.f0) ∧ w.cell? ⟨(ad.add (i.toNat * 5)).block, (ad.add (i.toNat * 5)).off + 1, none⟩ = some (.int .i64 (Qy xs i).f0.f1) ∧ w.cell? ⟨(ad.add (i.toNat * 5)).block, (ad.add (i.toNat * 5)).off + 2, none⟩ = some (.int .i64 (Qy xs i).f1.f0) ∧ w.cell? ⟨(ad.add (i.toNat * 5)).block, (ad.add (i.toNat * 5)).off + 3, none⟩ = some (.int .i64 (Qy xs i).f1.f1) ∧ w.cell? ⟨(ad.add (i.toNat * 5)).block, (ad.add (i.toNat * 5)).off + 4, none⟩ = some (.int .i64 (Qy xs i).f2) := by
 obtain ⟨ad, c, e, _, hK, hc0⟩ := Kd.C_get h z40 i h0 h1; have hc : ∀ j u, c[j]? = some u → w.cell? (ad.add (i.toNat * 5 + j)) = some u := hc0
 obtain rfl := Qai hK; exact ⟨ad, e, hc 0 _ rfl, by rw [← Jt _ _ 1 (by omega)]; exact hc 1 _ rfl, by rw [← Jt _ _ 2 (by omega)]; exact hc 2 _ rfl, by rw [← Jt _ _ 3 (by omega)]; exact hc 3 _ rfl, by rw [← Jt _ _ 4 (by omega)]; exact hc 4 _ rfl⟩
structure S75 where
 f0 : S40
 f1 : (List S83)
def Jo (xs : List (List Int)) (i : Int) : (List Int) := xs.getD i.toNat ([] : List Int)
theorem XZ {w : World} {A : Option Addr} {n : Nat} {xs : List (List Int)} (h : Kd.C (Kd.slice 3 (Kd.int .i64)) w A n xs) (i : Int) (h0 : 0 ≤ i) (h1 : i < n) : ∃ ad A0 c0, A = some ad ∧ w.cell? (ad.add i.toNat) = some (.slice A0 (Jo xs i).length c0) ∧ (Jo xs i).length ≤ c0 ∧ (Kd.int .i64).C w A0 (Jo xs i).length (Jo xs i) := by
 obtain ⟨ad, c, e, _, hK, hc0⟩ := Kd.C_get h ([] : List Int) i h0 h1; have hc : ∀ j u, c[j]? = some u → w.cell? (ad.add (i.toNat * 1 + j)) = some u := hc0
 obtain ⟨A0, c0, rfl, l0, g0⟩ := hK; exact ⟨ad, A0, c0, e, by have hq := hc 0 _ rfl; rwa [Nat.mul_one, Nat.add_zero] at hq, l0, g0⟩
structure S59 where
 f0 : Int
 f1 : Int
 f2 : Int
 f3 : S36
def z59 : S59 := ⟨(0 : Int), (0 : Int), (0 : Int), z36⟩
def k59 : Kd S59 := Kd.iso (Kd.pair (Kd.int .i64) (Kd.pair (Kd.int .i64) (Kd.pair (Kd.int .i64) k36))) (fun x : S59 => (x.f0, x.f1, x.f2, x.f3))
theorem Qal {w : World} {x : S59} {cs : List Value} (h : k59.K w x cs) : cs = [.int .i64 x.f0, .int .i64 x.f1, .int .i64 x.f2, .int .i64 x.f3.f0, .int .i64 x.f3.f1] := by
 obtain ⟨_, _, rfl, rfl, ⟨_, _, rfl, rfl, ⟨_, _, rfl, rfl, s3⟩⟩⟩ := h; obtain rfl := Z6 s3; exact rfl
theorem Yx (w : World) (base : Nat) (ok : Nat → Prop) (x : S59)  : k59.M w base ok x [.int .i64 x.f0, .int .i64 x.f1, .int .i64 x.f2, .int .i64 x.f3.f0, .int .i64 x.f3.f1] := ⟨[.int .i64 x.f0], [.int .i64 x.f1, .int .i64 x.f2, .int .i64 x.f3.f0, .int .i64 x.f3.f1], rfl, rfl, ⟨[.int .i64 x.f1], [.int .i64 x.f2, .int .i64 x.f3.f0, .int .i64 x.f3.f1], rfl, rfl, ⟨[.int .i64 x.f2], [.int .i64 x.f3.f0, .int .i64 x.f3.f1], rfl, rfl, (Xo w base ok x.f3 )⟩⟩⟩
def Qu (xs : List S59) (i : Int) : S59 := xs.getD i.toNat z59
theorem Xz {w : World} {A : Option Addr} {n : Nat} {xs : List S59} (h : Kd.C k59 w A n xs) (i : Int) (h0 : 0 ≤ i) (h1 : i < n) : ∃ ad , A = some ad ∧ w.cell? (ad.add (i.toNat * 5)) = some (.int .i64 (Qu xs i).f0) ∧ w.cell? ⟨(ad.add (i.toNat * 5)).block, (ad.add (i.toNat * 5)).off + 1, none⟩ = some (.int .i64 (Qu xs i).f1) ∧ w.cell? ⟨(ad.add (i.toNat * 5)).block, (ad.add (i.toNat * 5)).off + 2, none⟩ = some (.int .i64 (Qu xs i).f2) ∧ w.cell? ⟨(ad.add (i.toNat * 5)).block, (ad.add (i.toNat * 5)).off + 3, none⟩ = some (.int .i64 (Qu xs i).f3.f0) ∧ w.cell? ⟨(ad.add (i.toNat * 5)).block, (ad.add (i.toNat * 5)).off + 4, none⟩ = some (.int .i64 (Qu xs i).f3.f1) := by
 obtain ⟨ad, c, e, _, hK, hc0⟩ := Kd.C_get h z59 i h0 h1; have hc : ∀ j u, c[j]? = some u → w.cell? (ad.add (i.toNat * 5 + j)) = some u := hc0
 obtain rfl := Qal hK; exact ⟨ad, e, hc 0 _ rfl, by rw [← Jt _ _ 1 (by omega)]; exact hc 1 _ rfl, by rw [← Jt _ _ 2 (by omega)]; exact hc 2 _ rfl, by rw [← Jt _ _ 3 (by omega)]; exact hc 3 _ rfl, by rw [← Jt _ _ 4 (by omega)]; exact hc 4 _ rfl⟩
structure S64 where
 f0 : (List Int)
 f1 : (List Int)
 f2 : Int
def z64 : S64 := ⟨([] : List Int), ([] : List Int), (0 : Int)⟩
def k64 : Kd S64 := Kd.iso (Kd.pair (Kd.slice 3 (Kd.int .i64)) (Kd.pair (Kd.slice 3 (Kd.int .i64)) (Kd.int .i64))) (fun x : S64 => (x.f0, x.f1, x.f2))
theorem Qaj {w : World} {x : S64} {cs : List Value} (h : k64.K w x cs) : ∃ A0 c0 A1 c1, cs = [.slice A0 x.f0.length c0, .slice A1 x.f1.length c1, .int .i64 x.f2] ∧ x.f0.length ≤ c0 ∧ (Kd.int .i64).C w A0 x.f0.length x.f0 ∧ x.f1.length ≤ c1 ∧ (Kd.int .i64).C w A1 x.f1.length x.f1 := by
 obtain ⟨_, _, rfl, ⟨A0, c0, rfl, l0, g0⟩, ⟨_, _, rfl, ⟨A1, c1, rfl, l1, g1⟩, rfl⟩⟩ := h; exact ⟨A0, c0, A1, c1, rfl, l0, g0, l1, g1⟩
theorem k64_mk (w : World) (x : S64) {A0 : Option Addr} {c0 : Nat} (l0 : x.f0.length ≤ c0) (g0 : (Kd.int .i64).C w A0 x.f0.length x.f0) {A1 : Option Addr} {c1 : Nat} (l1 : x.f1.length ≤ c1) (g1 : (Kd.int .i64).C w A1 x.f1.length x.f1) : k64.K w x [.slice A0 x.f0.length c0, .slice A1 x.f1.length c1, .int .i64 x.f2] := ⟨[.slice A0 x.f0.length c0], [.slice A1 x.f1.length c1, .int .i64 x.f2], rfl, ⟨A0, c0, rfl, l0, g0⟩, ⟨[.slice A1 x.f1.length c1], [.int .i64 x.f2], rfl, ⟨A1, c1, rfl, l1, g1⟩, rfl⟩⟩
theorem Ys (W : World) (ok : Nat → Prop) (x : S64) {A0 : Option Addr} {c0 : Nat} (l0 : x.f0.length ≤ c0) (g0 : Kd.F (Kd.int .i64) W ok A0 x.f0.length x.f0) {A1 : Option Addr} {c1 : Nat} (l1 : x.f1.length ≤ c1) (g1 : Kd.F (Kd.int .i64) W ok A1 x.f1.length x.f1) : Kd.FK k64 W ok x [.slice A0 x.f0.length c0, .slice A1 x.f1.length c1, .int .i64 x.f2] := fun W2 hW => k64_mk W2 x l0 (g0 W2 hW) l1 (g1 W2 hW)
def Ql (xs : List S64) (i : Int) : S64 := xs.getD i.toNat z64
theorem Xl {w : World} {A : Option Addr} {n : Nat} {xs : List S64} (h : Kd.C k64 w A n xs) (i : Int) (h0 : 0 ≤ i) (h1 : i < n) : ∃ ad A0 c0 A1 c1, A = some ad ∧ w.cell? (ad.add (i.toNat * 3)) = some (.slice A0 (Ql xs i).f0.length c0) ∧ w.cell? ⟨(ad.add (i.toNat * 3)).block, (ad.add (i.toNat * 3)).off + 1, none⟩ = some (.slice A1 (Ql xs i).f1.length c1) ∧ w.cell? ⟨(ad.add (i.toNat * 3)).block, (ad.add (i.toNat * 3)).off + 2, none⟩ = some (.int .i64 (Ql xs i).f2) ∧ (Ql xs i).f0.length ≤ c0 ∧ (Kd.int .i64).C w A0 (Ql xs i).f0.length (Ql xs i).f0 ∧ (Ql xs i).f1.length ≤ c1 ∧ (Kd.int .i64).C w A1 (Ql xs i).f1.length (Ql xs i).f1 := by
 obtain ⟨ad, c, e, _, hK, hc0⟩ := Kd.C_get h z64 i h0 h1; have hc : ∀ j u, c[j]? = some u → w.cell? (ad.add (i.toNat * 3 + j)) = some u := hc0
 obtain ⟨A0, c0, A1, c1, rfl, l0, g0, l1, g1⟩ := Qaj hK; exact ⟨ad, A0, c0, A1, c1, e, hc 0 _ rfl, by rw [← Jt _ _ 1 (by omega)]; exact hc 1 _ rfl, by rw [← Jt _ _ 2 (by omega)]; exact hc 2 _ rfl, l0, g0, l1, g1⟩
structure S7 where
 f0 : Int
 f1 : Int
 f2 : Bool
 f3 : Int
structure S8 where
 f0 : Int
 f1 : Int
 f2 : Bool
 f3 : Int
structure S13 where
 f0 : ByteArray
 f1 : Int
structure S14 where
 f0 : ByteArray
 f1 : Int
structure S35 where
 f0 : Int
 f1 : Int
structure S39 where
 f0 : S36
 f1 : S36
 f2 : Int
structure S58 where
 f0 : Int
 f1 : Int
 f2 : Int
 f3 : S36
structure S63 where
 f0 : (List Int)
 f1 : (List Int)
 f2 : Int
structure S82 where
 f0 : S36
 f1 : Int
 f2 : Int
 f3 : Int
structure S74 where
 f0 : S40
 f1 : (List S83)
def Qm.l0 : Nat → List Int → List Int → Int → Option Bool
 | 0, _, _, _ => none
 | k + 1, x0, x1, x5 => if x5 < (x0.length : Int) then (if 0 ≤ x5 then (if x5 < (x1.length : Int) then (if (rd x0 x5) = (rd x1 x5) then (Qm.l0 k x0 x1 (wrap64 (x5 + 1))) else (some false)) else (none)) else (none)) else (some true)
def Qm.f (k : Nat) (l0 l1 : List Int) : Option Bool := if (l0.length : Int) = (l1.length : Int) then (Qm.l0 k l0 l1 0) else (some false)
theorem Qm.mono_l : ∀ k, (∀ y0 y1 y2, LeO (Qm.l0 k y0 y1 y2) (Qm.l0 (k + 1) y0 y1 y2))
 | 0 => fun _ _ _ r h => by simp [Qm.l0] at h
 | k + 1 => by
  have ih0 := Qm.mono_l k
  ·intro y0 y1 y2
   unfold Qm.l0
   repeat' first
   | (with_reducible exact ih0 _ _ _)
   | (with_reducible exact LeO.refl _)
   | (with_reducible exact LeO.none _)
   | (with_reducible refine LeO.ite ?_ ?_)
   | (with_reducible refine LeO.bind ?_ (fun _ => ?_))
theorem Qm.mono : ∀ a0 a1 k, LeO (Qm.f k a0 a1) (Qm.f (k + 1) a0 a1) := by
 intro a0 a1 k; have ih0 := Qm.mono_l k; unfold Qm.f
 repeat' first
   | (with_reducible exact ih0 _ _ _)
   | (with_reducible exact LeO.refl _)
   | (with_reducible exact LeO.none _)
   | (with_reducible refine LeO.ite ?_ ?_)
   | (with_reducible refine LeO.bind ?_ (fun _ => ?_))
set_option maxHeartbeats 8000000 in
set_option maxRecDepth 100000 in
theorem Qm.calls (k : Nat) (A0 : Option Addr) (c0 : Nat) (l0 : List Int) (A1 : Option Addr) (c1 : Nat) (l1 : List Int) (r : Bool) (w : World) (hr0 : Kd.C (Kd.int .i64) w A0 l0.length l0) (hc0 : l0.length ≤ c0) (hr1 : Kd.C (Kd.int .i64) w A1 l1.length l1) (hc1 : l1.length ≤ c1) (h : Qm.f k l0 l1 = some r) :
  Calls Try.prog 24 #[.slice A0 l0.length c0, .slice A1 l1.length c1] w fun e w' => e = .returned (.bool r) ∧ JB w w' := by
 have HR0 := Qa.mk hr0; have HC0 := Qa.mk hc0; clear hr0 hc0; have HR1 := Qa.mk hr1; have HC1 := Qa.mk hc1; clear hr1 hc1; have H : (if (l0.length : Int) = (l1.length : Int) then (Qm.l0 k l0 l1 0) else (some false)) = some r := h; clear h; by_cases c3 : (l0.length : Int) = (l1.length : Int)
 ·rw [if_pos c3] at H
  have c3b0 : ((l0.length : Int) == (l1.length : Int)) = true := beq_iff_eq.mpr c3; have c3b1 : ((l0.length : Int) != (l1.length : Int)) = false := bne_eq_false_iff_eq.mpr c3; have c3b2 : (l0.length == l1.length) = true := by first | simpa using c3 | (simp at c3 ⊢; omega)
  clear c3; have H' := Qa.mk H; clear H; go_enter Try.func24, Try.ntmps24; go_wp2
  repeat (go_quiet (fail); try go_wp2)
  go_loopg [5] k (fun kq v5 w' => ∃ (x5_1 : Int), v5 = .int .i64 x5_1 ∧ Qa (Qm.l0 kq l0 l1 x5_1 = some r) ∧ Qa (kq ≤ k) ∧ JB w w')
  case atStart => exact ⟨(0), eS, H', ⟨Nat.le_refl _⟩, dS⟩
  case round =>
   clear H'; try clear c1
   try clear c2
   try clear p2
   try clear c3
   try clear c3b0
   try clear c3b1
   try clear c3b2
   obtain ⟨x5_1, rfl, HA, HK1, ⟨m1, rfl⟩⟩ := hrel
   cases gk with
   | zero => exact absurd HA.out (by simp [Qm.l0])
   | succ k1 =>
    have H := HA.out; clear HA; simp only [Qm.l0] at H; by_cases c4 : x5_1 < (l0.length : Int)
    ·rw [if_pos c4] at H
     have c4b0 : decide (x5_1 < (l0.length : Int)) = true := decide_eq_true c4; clear c4; by_cases c5 : 0 ≤ x5_1
     ·rw [if_pos c5] at H
      have c5b0 : decide (0 ≤ x5_1) = true := decide_eq_true c5; clear c5; by_cases c6 : x5_1 < (l1.length : Int)
      ·rw [if_pos c6] at H
       have c6b0 : decide (x5_1 < (l1.length : Int)) = true := decide_eq_true c6; clear c6; by_cases c7 : (rd l0 x5_1) = (rd l1 x5_1)
       ·rw [if_pos c7] at H
        have c7b0 : ((rd l0 x5_1) == (rd l1 x5_1)) = true := beq_iff_eq.mpr c7; have c7b1 : ((rd l0 x5_1) != (rd l1 x5_1)) = false := bne_eq_false_iff_eq.mpr c7; clear c7; have H' := Qa.mk H; clear H; have p101 : 0 ≤ (x5_1 : Int) := dT; have q101 : x5_1 < (l0.length : Int) := dT; obtain ⟨ad101, e101, hx101_0⟩ := Kd.at_int HR0.out x5_1 p101 q101
        cases e101
        replace p101 := eq_true p101; replace q101 := eq_true q101; have p102 : 0 ≤ (x5_1 : Int) := dT; have q102 : x5_1 < (l1.length : Int) := dT; obtain ⟨ad102, e102, hx102_0⟩ := Kd.at_int HR1.out x5_1 p102 q102
        cases e102
        replace p102 := eq_true p102; replace q102 := eq_true q102; go_wp2
        repeat (go_quiet (fail); try go_wp2)
        go_roundg k1
        case measure => have := HK1.out; omega
        case rel => exact ⟨(wrap64 (x5_1 + 1)), eS, H', ⟨by have := HK1.out; omega⟩, dS⟩
       ·rw [if_neg c7] at H
        have c7b0 : ((rd l0 x5_1) == (rd l1 x5_1)) = false := beq_eq_false_iff_ne.mpr c7; have c7b1 : ((rd l0 x5_1) != (rd l1 x5_1)) = true := bne_iff_ne.mpr c7; obtain rfl := Option.some.inj H; have p101 : 0 ≤ (x5_1 : Int) := dT; have q101 : x5_1 < (l0.length : Int) := dT; obtain ⟨ad101, e101, hx101_0⟩ := Kd.at_int HR0.out x5_1 p101 q101
        cases e101
        replace p101 := eq_true p101; replace q101 := eq_true q101; have p102 : 0 ≤ (x5_1 : Int) := dT; have q102 : x5_1 < (l1.length : Int) := dT; obtain ⟨ad102, e102, hx102_0⟩ := Kd.at_int HR1.out x5_1 p102 q102
        cases e102
        replace p102 := eq_true p102; replace q102 := eq_true q102; go_wp2
        repeat (go_quiet (fail); try go_wp2)
        go_ret; exact ⟨eS, dS⟩
      ·rw [if_neg c6] at H
       exact absurd H (by simp)
     ·rw [if_neg c5] at H
      exact absurd H (by simp)
    ·rw [if_neg c4] at H
     have c4b0 : decide (x5_1 < (l0.length : Int)) = false := decide_eq_false c4; clear c4; obtain rfl := Option.some.inj H; go_wp2
     repeat (go_quiet (fail); try go_wp2)
     go_ret; exact ⟨eS, dS⟩
 ·rw [if_neg c3] at H
  have c3b0 : ((l0.length : Int) == (l1.length : Int)) = false := beq_eq_false_iff_ne.mpr c3; have c3b1 : ((l0.length : Int) != (l1.length : Int)) = true := bne_iff_ne.mpr c3; have c3b2 : (l0.length == l1.length) = false := by first | simpa using c3 | (simp at c3 ⊢; omega)
  obtain rfl := Option.some.inj H; go_enter Try.func24, Try.ntmps24; go_wp2
  repeat (go_quiet (fail); try go_wp2)
  go_ret; exact ⟨eS, dS⟩
def J2.f (a0 a1_0 a2_0 : Int) : Option Bool := if a0 < a1_0 then (some true) else (some (decide (a0 > a2_0)))
set_option maxHeartbeats 8000000 in
set_option maxRecDepth 100000 in
theorem J2.calls (a0 : Int) (B1 : Nat) (a1_0 : Int) (B2 : Nat) (a2_0 : Int) (r : Bool) (w : World) (hb1 : w.heap[B1]? = some (.cells #[.int .i64 a1_0] 3 (0, 0))) (hb2 : w.heap[B2]? = some (.cells #[.int .i64 a2_0] 3 (0, 0))) (nb1_2 : B1 ≠ B2) (h : J2.f a0 a1_0 a2_0 = some r) :
  Calls Try.prog 27 #[.int .i64 a0, .pointer (some ⟨B1, 0, none⟩), .pointer (some ⟨B2, 0, none⟩)] w fun e w' => e = .returned (.bool r) ∧ JB w w' := by
 have BK1 := Qa.mk hb1; clear hb1; have BK2 := Qa.mk hb2; clear hb2; have NB1_2 := Qa.mk nb1_2; have NB2_1 := Qa.mk nb1_2.symm; clear nb1_2; have H : (if a0 < a1_0 then (some true) else (some (decide (a0 > a2_0)))) = some r := h; clear h; by_cases c4 : a0 < a1_0
 ·rw [if_pos c4] at H
  have c4b0 : decide (a0 < a1_0) = true := decide_eq_true c4; clear c4; obtain rfl := Option.some.inj H; have hnb5 := NB1_2.out; have hnc5 := NB2_1.out; obtain ⟨_, _⟩ := cf1 BK1; go_enter Try.func27, Try.ntmps27; go_wp2; go_ret; exact ⟨eS, dS⟩
 ·rw [if_neg c4] at H
  have c4b0 : decide (a0 < a1_0) = false := decide_eq_false c4; clear c4; obtain rfl := Option.some.inj H; have hnb7 := NB1_2.out; have hnc7 := NB2_1.out; obtain ⟨_, _⟩ := cf1 BK1; obtain ⟨_, _⟩ := cf1 BK2; go_enter Try.func27, Try.ntmps27; go_wp2; go_ret; exact ⟨eS, dS⟩
def idxO {α : Type} (q : α → Option Bool) : List α → Nat → Option Int
 | [], _ => some (-1)
 | x :: r, i => (q x).bind fun b => if b = true then some (i : Int) else idxO q r (i + 1)
def anyO {α : Type} (q : α → Option Bool) : List α → Option Bool
 | [] => some false
 | x :: r => (q x).bind fun b => if b = true then some true else anyO q r
theorem Y9 {P : Program} {ops : Array Oper} {Q : Exit → Act → World → Prop} {oi : Oper} {N : Option Tmp} {a : Act} {w : World} {K : Act → World → Prop} {f : FuncId} {fn : Func} {o : Operand} {xs : Array Operand} {ts : Array TypeId} {lb : Array Value} (hf : P.funcs[f]? = some fn) (hname : (fn.name == "runtime.NumGoroutine") = false) (hb : fn.body.isSome = true) (args : Array Value)
  (hw : Region.wanted oi (yielded ops a.tmps) = true) (hN : oi.dst = N) (hop : oi.op = .call { callee := .value o, args := xs, argTypes := ts }) (ho : a.eval o = .func (.func f) #[] lb) (hargs : xs.map a.eval ++ lb = args)
  (h : Calls P f args w fun e w' => ∃ v, e = .returned v ∧ K (a.put N v) w') : if Region.wanted oi (yielded ops a.tmps) = true then Oper.wp P oi a w K Q else K (a.put N undef) w := by
 refine call_ f args hw hN ?_ h; have he := Zt hf hname hb args w; unfold execOp
 simp [hop, resolve, Deferred.ofValue, invoke, ho, hargs, he]
theorem Zs {α : Type} (q : α → Option Bool) : ∀ (l : List α) (i : Nat) (r : Bool), anyO q l = some r → ∃ j, idxO q l i = some j ∧ decide (j ≥ 0) = r
 | [], i, r, h => ⟨-1, rfl, by simpa [anyO] using h⟩
 | x :: l, i, r, h => by
  unfold anyO at h; unfold idxO; obtain ⟨b, hb, h⟩ := Option.bind_eq_some_iff.mp h; rw [hb]
  cases b with
  | true =>
   simp at h
   subst h; exact ⟨i, rfl, by simp⟩
  | false =>
   simp at h
   obtain ⟨j, h1, h2⟩ := Zs q l (i + 1) r h; exact ⟨j, by simpa using h1, h2⟩
theorem Zx {α : Type} (q : α → Option Bool) (l : List α) (k : Nat) (h : k < l.length) : idxO q (l.drop k) k = (q l[k]).bind fun b => if b = true then some (k : Int) else idxO q (l.drop (k + 1)) (k + 1) := by
 rw [List.drop_eq_getElem_cons h]; rfl
theorem YA {α : Type} {q : α → Option Bool} {p : α → Bool} : ∀ {l : List α}, (∀ x ∈ l, q x = some (p x)) → anyO q l = some (l.any p)
 | [], _ => rfl
 | x :: l, h => by
  unfold anyO; rw [h x (by simp)]; have ih := YA (q := q) (p := p) (l := l) (fun y hy => h y (by simp [hy]))
  cases hp : p x <;> simp [hp, ih]
set_option maxHeartbeats 4000000 in
set_option maxRecDepth 100000 in
theorem hof56.callsO (q : Int → Option Bool) (g : Nat) (lb : Array Value) (eg : ∀ args w, (callFunc g args).run Try.prog w = .ok (.enter g args) w) (Ad : Option Addr) (c : Nat) (l : List Int) (r : Int) (w : World) (hr : Kd.C (Kd.int .i64) w Ad l.length l)
  (hp : ∀ x ∈ l, ∀ b, q x = some b → ∀ (W : World), Below w.heap.size w W → Calls Try.prog g (#[.int .i64 x] ++ lb) W fun e w' => e = .returned (.bool b) ∧ Below W.heap.size W w') (h : idxO q l 0 = some r) :
  Calls Try.prog 56 #[.slice Ad l.length c, .func (.func g) #[] lb] w fun e w' => e = .returned (.int .i64 r) ∧ Below w.heap.size w w' := by
 have hbig : l.length ≤ 9223372036854775807 := hr.2.1; have e0 := Lib.hid (Zx q l); have hr' := Lib.hid hr; have hp' := Lib.hid hp; have H0 : Hid (idxO q (l.drop 0) 0 = some r) := Lib.hid (by rw [List.drop_zero]; exact h); clear hr hp h; go_enter Try.func56, Try.ntmps56; go_wp2
 go_loopg [5, 8] l.length (fun gg _ s8 wr => ∃ kk : Nat, kk ≤ l.length ∧ l.length - kk ≤ gg ∧ s8 = .int .i64 kk ∧ Aside (Below w.heap.size w wr) ∧ Aside (idxO q (l.drop kk) kk = some r))
 case atStart => exact ⟨0, Nat.zero_le _, by omega, rfl, Below.refl _ w, H0.out⟩
 case round =>
  obtain ⟨kk, hkk, hg, rfl, BW, HE⟩ := hrel; by_cases hlt : kk < l.length
  ·have hltz : (kk : Int) < (l.length : Int) := by omega
   obtain ⟨ad, rfl, h0_⟩ := Kd.at_int (Kd.C_below hr'.out BW.out) (kk : Int) (by omega) (by omega); simp only [Int.toNat_natCast] at h0_; have hrd : rd l (kk : Int) = l[kk] := by simp [rd, rdOf, List.getD_eq_getElem?_getD, List.getElem?_eq_getElem hlt]
   rw [hrd] at h0_; clear hrd; have H1 := HE.out; rw [e0.out kk hlt] at H1; obtain ⟨b, hb, H2⟩ := Option.bind_eq_some_iff.mp H1; have hcall := hp'.out l[kk] (List.getElem_mem hlt) b hb wr BW.out; generalize hy : l[kk] = y at h0_ hcall; have H2' := Lib.hid H2; clear hy H2 H1 hb
   cases b with
   | true =>
    go_wp2_with (go_at_fn g; refine hcall.mono ?_; rintro e w' ⟨rfl, hb'⟩); go_ret; refine ⟨?_, Below.trans BW.out (hb'.mono BW.out.size)⟩; have H3 := H2'.out; simp only [if_true] at H3; rw [← Option.some.inj H3]; rfl
   | false =>
    go_wp2_with (go_at_fn g; refine hcall.mono ?_; rintro e w' ⟨rfl, hb'⟩)
    go_roundg (l.length - (kk + 1))
    case measure => omega
    case rel =>
     refine ⟨kk + 1, by omega, by omega, by go_num, Below.trans BW.out (hb'.mono BW.out.size), (show Aside _ from ?_)⟩; have H3 := H2'.out; have H4 : idxO q (l.drop (kk + 1)) (kk + 1) = some r := by simpa using H3
     exact H4
  ·have hltz : ¬ (kk : Int) < (l.length : Int) := by omega
   have HK := Lib.hid (show l.length ≤ kk by omega); go_wp2; go_ret; refine ⟨?_, BW.out⟩; have H3 := HE.out; rw [List.drop_eq_nil_of_le HK.out] at H3; have H4 : some (-1 : Int) = some r := H3; rw [← Option.some.inj H4]; rfl
set_option maxHeartbeats 4000000 in
theorem hof26.callsO (q : Int → Option Bool) (g : Nat) (lb : Array Value) (eg : ∀ args w, (callFunc g args).run Try.prog w = .ok (.enter g args) w) (Ad : Option Addr) (c : Nat) (l : List Int) (r : Bool) (w : World) (hr : Kd.C (Kd.int .i64) w Ad l.length l)
  (hp : ∀ x ∈ l, ∀ b, q x = some b → ∀ (W : World), Below w.heap.size w W → Calls Try.prog g (#[.int .i64 x] ++ lb) W fun e w' => e = .returned (.bool b) ∧ Below W.heap.size W w') (h : anyO q l = some r) :
  Calls Try.prog 26 #[.slice Ad l.length c, .func (.func g) #[] lb] w fun e w' => e = .returned (.bool r) ∧ Below w.heap.size w w' := by
 obtain ⟨j, h1, rfl⟩ := Zs q l 0 r h; have hcon := Lib.hid (hof56.callsO q g lb eg Ad c l j w hr hp h1); clear hr hp h1 h; go_enter Try.func26, Try.ntmps26; go_wp2_with (go_at_call 56; refine hcon.out.mono ?_; rintro e w' ⟨rfl, hb'⟩); go_ret; exact ⟨rfl, hb'⟩
def Jr.f (l : List Int) (v0_ v1_ : Int) : Option Bool := anyO (fun x => J2.f x v0_ v1_) l
theorem Jr.calls (Ad : Option Addr) (c : Nat) (l : List Int) (B0 : Nat) (v0_ : Int) (B1 : Nat) (v1_ : Int) (r : Bool) (w : World) (hr : Kd.C (Kd.int .i64) w Ad l.length l) (hc : l.length ≤ c) (hb0 : w.heap[B0]? = some (.cells #[.int .i64 v0_] 3 (0, 0))) (hb1 : w.heap[B1]? = some (.cells #[.int .i64 v1_] 3 (0, 0))) (nb0_1 : B0 ≠ B1) (h : Jr.f l v0_ v1_ = some r) :
  Calls Try.prog 26 #[.slice Ad l.length c, .func (.func 27) #[] #[.pointer (some ⟨B0, 0, none⟩), .pointer (some ⟨B1, 0, none⟩)]] w fun e w' => e = .returned (.bool r) ∧ Below w.heap.size w w' :=
 hof26.callsO (fun x => J2.f x v0_ v1_) 27 _ (enters_of Try.func27 (by kernel_rfl) rfl) Ad c l r w hr (fun x hx b hq W hbW => by
  have hcl := J2.calls x B0 v0_ B1 v1_ b W (QX hb0 hbW) (QX hb1 hbW) nb0_1 hq; exact hcl.mono fun e w' h' => ⟨h'.1, h'.2.below⟩) h
def Qk.f (a0 a1 : Int) (l2 : List Int) : Option Bool := (Jr.f l2 a0 a1).bind fun t103 => (some (!t103))
set_option maxHeartbeats 8000000 in
set_option maxRecDepth 100000 in
theorem Qk.calls (a0 a1 : Int) (A2 : Option Addr) (c2 : Nat) (l2 : List Int) (r : Bool) (w : World) (hr2 : Kd.C (Kd.int .i64) w A2 l2.length l2) (hc2 : l2.length ≤ c2) (h : Qk.f a0 a1 l2 = some r) :
  Calls Try.prog 7 #[.int .i64 a0, .int .i64 a1, .slice A2 l2.length c2] w fun e w' => e = .returned (.bool r) ∧ Below w.heap.size w w' := by
 have HR2 := Qa.mk hr2; have HC2 := Qa.mk hc2; clear hr2 hc2; have HB := Qa.mk (Below.refl w.heap.size w); have H : ((Jr.f l2 a0 a1).bind fun t103 => (some (!t103))) = some r := h; clear h; obtain ⟨t103, A4, H⟩ := bi H; obtain rfl := Option.some.inj H; go_enter Try.func7, Try.ntmps7; go_wp2_with (first | (refine bx 3 #[.int .i64 a0] 3 ?_; intro gb101 hg w5 BK101 hb; have GW101 := gs HB hg; replace HB := bs HB hb; clear hb hg) | (refine bx 4 #[.int .i64 a1] 3 ?_; intro gb102 hg w6 BK102 hb; have GW102 := gs HB hg; replace HB := bs HB hb; have NB101_102 := nl BK101 hg; have NB102_101 := nr BK101 hg; replace BK101 := bb BK101 hb; clear hb hg) | ((with_reducible refine gc 26 rfl ?_); refine gL 9 Try.func26 #[.slice A2 l2.length c2, .func (.func 27) #[] #[.pointer (some ⟨gb101, 0, none⟩), .pointer (some ⟨gb102, 0, none⟩)]] ?_; (with_reducible refine (Jr.calls _ _ l2 gb101 a0 gb102 a1 t103 _ ?side1 ?side2 ?side3 ?side4 ?side5 A4.out).mono ?_); (case side1 => exact pC (Kd.C_below HR2.out HB.out)); (case side2 => exact HC2.out); (case side3 => exact pB BK101.out); (case side4 => exact pB BK102.out); (case side5 => exact NB101_102.out); rintro e w7 ⟨rfl, hb⟩; refine ⟨_, rfl, ?_⟩; replace BK101 := bb BK101 hb; replace BK102 := bb BK102 hb; replace HB := bs HB hb; clear hb)); go_ret; exact ⟨eT, pE HB⟩
def Q1.f (a0_0 a0_1 a1 a2 : Int) : Option Bool := (Qk.f a1 a2 (([a0_0, a0_1] : List Int))).bind fun t105 => (if t105 = true then (some (decide (a0_0 ≤ a0_1))) else (some false))
set_option maxHeartbeats 8000000 in
set_option maxRecDepth 100000 in
theorem Q1.calls (a0_0 a0_1 a1 a2 : Int) (r : Bool) (w : World) (h : Q1.f a0_0 a0_1 a1 a2 = some r) :
  Calls Try.prog 48 #[.agg #[.int .i64 a0_0, .int .i64 a0_1], .int .i64 a1, .int .i64 a2] w fun e w' => e = .returned (.bool r) ∧ Below w.heap.size w w' := by
 have hu36 := Try.underlying36; have HB := Qa.mk (Below.refl w.heap.size w); have H : ((Qk.f a1 a2 (([a0_0, a0_1] : List Int))).bind fun t105 => (if t105 = true then (some (decide (a0_0 ≤ a0_1))) else (some false))) = some r := h; clear h; obtain ⟨y102, hy102⟩ : ∃ y_ : List Int, y_ = (([a0_0, a0_1] : List Int)) := ⟨_, rfl⟩
 replace H : Option.bind (Qk.f a1 a2 y102) _ = some r := yy hy102 H; have Ny102 := Qa.mk hy102; clear hy102; obtain ⟨t105, A4, H⟩ := bi H; by_cases c5 : t105 = true
 ·subst c5
  rw [if_pos rfl] at H; obtain rfl := Option.some.inj H; go_enter Try.func48, Try.ntmps48; go_wp2_with (first | (refine bx 3 #[.int .i64 a0_0, .int .i64 a0_1] 36 ?_; intro gb101 hg w6 BK101 hb; have GW101 := gs HB hg; replace HB := bs HB hb; clear hb hg; obtain ⟨_, _, _, _⟩ := cf2 BK101) | ((with_reducible refine gd 13 ?_); refine rL (Kd.int .i64) 3 13 ([a0_0, a0_1] : List Int) [.int .i64 a0_0, .int .i64 a0_1] (Reps.one (show Kd.M (Kd.int .i64) _ _ _ a0_0 [.int .i64 a0_0] from rfl) (Reps.one (show Kd.M (Kd.int .i64) _ _ _ a0_1 [.int .i64 a0_1] from rfl) (Reps.none _ _))) ?_; intro v103 w8 ho9 hb; replace ho9 := yR Ny102 ho9; have HO104 := rl ho9 HB; replace BK101 := bb BK101 hb; replace HB := bs HB hb; clear hb ho9; obtain ⟨Ao10, co10, eo10⟩ := Kd.R_slice HO104.out; subst eo10) | ((with_reducible refine gc 7 rfl ?_); refine gL 14 Try.func7 #[.int .i64 a1, .int .i64 a2, .slice Ao10 y102.length co10] ?_; (with_reducible refine (Qk.calls a1 a2 _ _ y102 true _ ?side1 ?side2 A4.out).mono ?_); (case side1 => exact pC (Kd.R_reads' HO104.out).2.2); (case side2 => exact (Kd.R_reads' HO104.out).2.1); rintro e w11 ⟨rfl, hb⟩; refine ⟨_, rfl, ?_⟩; replace HO104 := rb HO104 hb; replace BK101 := bb BK101 hb; replace HB := bs HB hb; clear hb; obtain ⟨_, _, _, _⟩ := cf2 BK101)); go_ret; exact ⟨eT, pE HB⟩
 ·replace c5 := Bool.eq_false_iff.mpr c5
  subst c5; rw [if_neg (show ¬ (false = true) by decide)] at H; obtain rfl := Option.some.inj H; go_enter Try.func48, Try.ntmps48; go_wp2_with (first | (refine bx 3 #[.int .i64 a0_0, .int .i64 a0_1] 36 ?_; intro gb101 hg w13 BK101 hb; have GW101 := gs HB hg; replace HB := bs HB hb; clear hb hg; obtain ⟨_, _, _, _⟩ := cf2 BK101) | ((with_reducible refine gd 13 ?_); refine rL (Kd.int .i64) 3 13 ([a0_0, a0_1] : List Int) [.int .i64 a0_0, .int .i64 a0_1] (Reps.one (show Kd.M (Kd.int .i64) _ _ _ a0_0 [.int .i64 a0_0] from rfl) (Reps.one (show Kd.M (Kd.int .i64) _ _ _ a0_1 [.int .i64 a0_1] from rfl) (Reps.none _ _))) ?_; intro v103 w15 ho16 hb; replace ho16 := yR Ny102 ho16; have HO104 := rl ho16 HB; replace BK101 := bb BK101 hb; replace HB := bs HB hb; clear hb ho16; obtain ⟨Ao17, co17, eo17⟩ := Kd.R_slice HO104.out; subst eo17) | ((with_reducible refine gc 7 rfl ?_); refine gL 14 Try.func7 #[.int .i64 a1, .int .i64 a2, .slice Ao17 y102.length co17] ?_; (with_reducible refine (Qk.calls a1 a2 _ _ y102 false _ ?side1 ?side2 A4.out).mono ?_); (case side1 => exact pC (Kd.R_reads' HO104.out).2.2); (case side2 => exact (Kd.R_reads' HO104.out).2.1); rintro e w18 ⟨rfl, hb⟩; refine ⟨_, rfl, ?_⟩; replace HO104 := rb HO104 hb; replace BK101 := bb BK101 hb; replace HB := bs HB hb; clear hb)); go_ret; exact ⟨eT, pE HB⟩
def Jp.f (a0 a1 a2 : Int) : Option Bool := if a0 ≥ a1 then (some (decide (a0 ≤ a2))) else (some false)
def J4.f (a0_0 a0_1 a1 a2 : Int) : Option Bool := (Jp.f a0_0 a1 a0_1).bind fun t102 => (if t102 = true then (some (decide (a0_1 ≤ a2))) else (some false))
end Go.Proofs.Ytjaapkkpmegkfaa.P
