/- Part 6 of what the law's proof needs: words, walks of functions and plain facts. -/
import Derived.OrdersIn
import Derived.RangeFuncNested
import Derived.Test.YtlmglnobdcgbeaaGreatG05
set_option linter.unusedVariables false
set_option linter.unusedSimpArgs false
namespace Go.Proofs.YtlmglnobdcgbeaaGreat.D
open Go Go.RowKit
noncomputable section
def cnt (listed : Array Bool) : Nat → Nat
  | 0 => 0
  | m + 1 => cnt listed m + (if listed.getD m true = true then 0 else 1)
theorem cnt_set (listed : Array Bool) (i : Nat) (hi : listed.getD i true = false) : ∀ m, cnt (listed.setIfInBounds i true) m + (if i < m then 1 else 0) = cnt listed m
  | 0 => by simp [cnt]
  | m + 1 => by
    have ih := cnt_set listed i hi m
    have hs : i < listed.size := by
      rcases Nat.lt_or_ge i listed.size with h | h
      · exact h
      · simp [Array.getElem?_eq_none h] at hi
    simp only [cnt]
    by_cases e : i = m
    · subst e
      have h1 : (listed.setIfInBounds i true).getD i true = true := by simp [hs]
      rw [h1, hi]
      simp only [Nat.lt_irrefl, if_false, Nat.lt_succ_self, if_true, Bool.false_eq_true] at ih ⊢
      omega
    · have h1 : (listed.setIfInBounds i true).getD m true = listed.getD m true := getD_set_ne true e
      rw [h1]
      by_cases hl : i < m
      · rw [if_pos hl] at ih; rw [if_pos (show i < m + 1 by omega)]; omega
      · rw [if_neg hl] at ih; rw [if_neg (show ¬ i < m + 1 by omega)]; omega
theorem cnt_zero {listed : Array Bool} : ∀ {m : Nat}, cnt listed m = 0 → ∀ i, i < m → listed.getD i true = true
  | 0, _, _, h => by omega
  | m + 1, h, i, hi => by
    simp only [cnt] at h
    by_cases e : i = m
    · subst e
      cases hl : listed.getD i true with
      | true => rfl
      | false => rw [hl] at h; simp at h
    · exact cnt_zero (m := m) (by omega) i (by omega)
section
variable {P : Program} {G : Glob} {n0 : Nat}
structure Inv (P : Program) (G : Glob) (n0 : Nat) (ops : Array Oper) (φ0 : Phi) (H0 : AH) (w0 : World) (todo : List Nat) (log : Log) (act : AAct) (H : AH) (listed : Array Bool) (φ : Phi) (a : Act) (w : World) : Prop where
  sim : Sim P G n0 φ0 H0 w0 φ H w
  lsz : listed.size = ops.size
  inr : ∀ i ∈ todo, i < ops.size
  lt : ∀ i, i < ops.size → listed.getD i true = true → i ∉ todo
  plog : ∀ i, i < ops.size → i ∉ todo → listed.getD i true = false → ∃ p, (i, p) ∈ log
  size : a.tmps.size = act.n
  le : act.n ≤ 1000
  tmps : ∀ t, (∀ i o, i < ops.size → i ∉ todo → listed.getD i true = false → ops[i]? = some o → o.dst ≠ some t) → VR φ (act.get t) (a.tmps.getD t undef)
  up : ∀ t, act.n ≤ t → VR φ (act.get t) undef
  df : DR φ act.defs a.defers
  logE : ∀ i p, (i, p) ∈ log → i ∉ todo ∧ ∃ o, ops[i]? = some o ∧ isE o = false
  blkL : ∀ i p, (i, some p) ∈ log → p < H.size ∧ H0.size ≤ p
  blk : ∀ i p, (i, some p) ∈ log → listed.getD i true = false → φ p = none
  blkU : ∀ i j p, (i, some p) ∈ log → (j, some p) ∈ log → i = j
theorem readyB_iff {todo : List Nat} {o : Oper} : readyB todo o = true ↔ ∀ e ∈ o.after, Region.binds .any e = true → e.on ∉ todo := by
  unfold readyB
  rw [List.all_eq_true]
  constructor
  · intro h e he hb
    have := h e (by simpa using he)
    simp [hb] at this
    exact this
  · intro h e he
    have := h e (by simpa using he)
    cases hb : Region.binds .any e
    · simp
    · simp [this hb]
variable {ops : Array Oper} {φ0 : Phi} {H0 : AH} {w0 : World}
theorem eager_sound : ∀ (n : Nat) (todo : List Nat) (log : Log) (act : AAct) (H : AH) (todo' : List Nat) (log' : Log) (act' : AAct) (H' : AH) (listed : Array Bool) (φ : Phi) (a : Act) (w : World),
    Inv P G n0 ops φ0 H0 w0 todo log act H listed φ a w → eager P G ops.toList n todo log act H = some (todo', log', act', H') →
    Inv P G n0 ops φ0 H0 w0 todo' log' act' H' listed φ a w
  | 0, todo, log, act, H, _, _, _, _, listed, φ, a, w, hI, h => by cases h; exact hI
  | n + 1, todo, log, act, H, todo', log', act', H', listed, φ, a, w, hI, h => by
    simp only [eager] at h
    split at h
    · cases h; exact hI
    rename_i i hfind
    split at h
    · cases h
    rename_i o hoi
    have hoi' : ops[i]? = some o := by simpa using hoi
    have himem : i ∈ todo := List.mem_of_find?_eq_some hfind
    have hfl := List.find?_some hfind
    have hE : isE o = false := by
      unfold floats at hfl
      rw [hoi] at hfl
      simp at hfl
      exact hfl.1
    have hilt : i < ops.size := hI.inr i himem
    have hiun : listed.getD i true = false := by
      cases hl : listed.getD i true with
      | false => rfl
      | true => exact absurd himem (hI.lt i hilt hl)
    split at h
    · cases h
    rename_i v K p hfa
    have hstep : Sim P G n0 φ H w φ K w ∧ (∀ q, p = some q → q = H.size ∧ q < K.size) := by
      unfold floatA at hfa
      split at hfa
      · cases hfa
      · cases hfa; exact ⟨Sim.refl hI.sim.r, fun q e => by cases e⟩
      · split at hfa
        · cases hfa; exact ⟨Sim.refl hI.sim.r, fun q e => by cases e⟩
        · split at hfa
          · split at hfa
            · rename_i K' hK
              cases hfa
              exact ⟨hI.sim.r.pushU hK, fun q e => by cases e; exact ⟨rfl, by rw [AH.push_size hK]; omega⟩⟩
            · cases hfa
          · cases hfa
    refine eager_sound n _ _ _ _ todo' log' act' H' listed φ a w ?_ h
    have hfm : ∀ j, j ∈ todo.filter (· != i) ↔ j ∈ todo ∧ j ≠ i := fun j => by simp
    have hsz : H.size ≤ K.size := hstep.1.sz
    refine ⟨hI.sim.trans hstep.1, hI.lsz, fun j hj => hI.inr j ((hfm j).1 hj).1, fun j hj hl hm => hI.lt j hj hl ((hfm j).1 hm).1, ?_, ?_, ?_, ?_, ?_, ?_, ?_, ?_, ?_, ?_⟩
    · intro j hj hn hl
      by_cases e : j = i
      · subst e; exact ⟨p, List.mem_cons_self⟩
      · obtain ⟨q, hq⟩ := hI.plog j hj (fun hm => hn ((hfm j).2 ⟨hm, e⟩)) hl
        exact ⟨q, List.mem_cons_of_mem _ hq⟩
    · rw [AAct.n_put]; exact hI.size
    · rw [AAct.n_put]; exact hI.le
    · intro t ht
      have hne : o.dst ≠ some t := ht i o hilt (fun hm => ((hfm i).1 hm).2 rfl) hiun hoi'
      rw [AAct.get_put_ne _ _ _ hne]
      refine hI.tmps t fun j oj hj hn hl hoj => ht j oj hj (fun hm => hn ((hfm j).1 hm).1) hl hoj
    · intro t ht
      rw [AAct.n_put] at ht
      rw [AAct.get_put_ge _ _ _ ht]; exact hI.up t ht
    · rw [AAct.defs_put]; exact hI.df
    · intro j q hm
      rcases List.mem_cons.1 hm with e | hm
      · cases e; exact ⟨fun hm => ((hfm i).1 hm).2 rfl, o, hoi', hE⟩
      · obtain ⟨h1, h2⟩ := hI.logE j q hm
        exact ⟨fun hm => h1 ((hfm j).1 hm).1, h2⟩
    · intro j q hm
      rcases List.mem_cons.1 hm with e | hm
      · obtain ⟨rfl, e2⟩ : j = i ∧ some q = p := by simpa using e
        exact ⟨(hstep.2 q e2.symm).2, by rw [(hstep.2 q e2.symm).1]; exact hI.sim.sz⟩
      · exact ⟨Nat.lt_of_lt_of_le (hI.blkL j q hm).1 hsz, (hI.blkL j q hm).2⟩
    · intro j q hm hl
      rcases List.mem_cons.1 hm with e | hm
      · obtain ⟨rfl, e2⟩ : j = i ∧ some q = p := by simpa using e
        rw [(hstep.2 q e2.symm).1]
        exact hI.sim.r.none_ge (Nat.le_refl _)
      · exact hI.blk j q hm hl
    · intro j k q h1 h2
      have hnew : ∀ j', (j', some q) ∈ log → ∀ i', (i', some q) = (i, p) → False := fun j' hm i' e => by
        obtain ⟨_, e2⟩ : i' = i ∧ some q = p := by simpa using e
        have := (hI.blkL j' q hm).1
        rw [(hstep.2 q e2.symm).1] at this
        omega
      rcases List.mem_cons.1 h1 with e1 | h1 <;> rcases List.mem_cons.1 h2 with e2 | h2
      · have a1 : j = i := by simpa using congrArg Prod.fst e1
        have a2 : k = i := by simpa using congrArg Prod.fst e2
        rw [a1, a2]
      · exact (hnew k h2 j e1).elim
      · exact (hnew j h1 k e2).elim
      · exact hI.blkU j k q h1 h2
theorem recheck_mem {opsL : List Oper} {act : AAct} {H : AH} : ∀ {log : Log}, recheck P G opsL act H log = true → ∀ {i : Nat} {p : Option Nat}, (i, p) ∈ log → ∀ {o : Oper}, opsL[i]? = some o →
    (wantA opsL o act = some false ∧ p = none ∧ ∀ d, o.dst = some d → act.get d = .lit undef) ∨
    (wantA opsL o act = some true ∧ p = none ∧ ∃ v, qop P G H act.ev o = some v ∧ ∀ d, o.dst = some d → act.get d = v) ∨
    (wantA opsL o act = some true ∧ ∃ b d ao mk, p = some b ∧ o.dst = some d ∧ lop P act.ev o = some (ao, mk) ∧ H.get b = some ao ∧ act.get d = mk b)
  | [], _, _, _, hm, _, _ => by cases hm
  | (j, q) :: log, h, i, p, hm, o, ho => by
    simp only [recheck, Bool.and_eq_true] at h
    rcases List.mem_cons.1 hm with e | hm
    · cases e
      have h1 := h.1
      rw [ho] at h1
      simp only at h1
      split at h1
      · rename_i hw
        refine .inl ⟨hw, rfl, fun d hd => ?_⟩
        rw [hd] at h1
        exact AV.same_eq _ _ h1
      · rename_i hw
        split at h1
        · rename_i v hq
          refine .inr (.inl ⟨hw, rfl, v, hq, fun d hd => ?_⟩)
          rw [hd] at h1
          exact AV.same_eq _ _ h1
        · cases h1
      · rename_i b hw
        split at h1
        · rename_i ao mk ao' d hl hg hd
          simp only [Bool.and_eq_true] at h1
          refine .inr (.inr ⟨hw, b, d, ao, mk, rfl, hd, hl, ?_, AV.same_eq _ _ h1.2⟩)
          rw [hg, AO.same_eq h1.1]
        · cases h1
      · cases h1
    · exact recheck_mem h.2 hm ho
def evO (act : AAct) (bad : Tmp → Prop) [DecidablePred bad] : Ev
  | .tmp t => if bad t then .any else act.get t
  | x => act.ev x
theorem draw_sound (hreg : regOk ops = true) {C : CC} (hP : C.P = P) (hG : C.G = G) (hC : CallOK P G n0 C.call) (hD : RndOK P G n0 C.rnd) {rd : Option Nat} {Q : Exit → Act → World → Prop} {actF : AAct} {HF : AH}
    (hk : ∀ ψ a' u, Sim P G n0 φ0 H0 w0 ψ HF u → AR ψ actF a' → Q .normal a' u) :
    ∀ (fuel : Nat) (k : Nat) (todo : List Nat) (log : Log) (act : AAct) (H : AH) (listed : Array Bool) (φ : Phi) (a : Act) (w : World), Inv P G n0 ops φ0 H0 w0 todo log act H listed φ a w →
      stageF C ops.toList (drawF C ops.toList k) todo log act H = some (actF, HF) → cnt listed ops.size ≤ fuel → wpAnyIn (wd rd) 0 P .any ops Q fuel listed a w := by
  classical
  have hfin : ∀ (k : Nat) (todo : List Nat) (log : Log) (act : AAct) (H : AH) (listed : Array Bool) (φ : Phi) (a : Act) (w : World), Inv P G n0 ops φ0 H0 w0 todo log act H listed φ a w →
      stageF C ops.toList (drawF C ops.toList k) todo log act H = some (actF, HF) → (∀ i, i < ops.size → listed.getD i true = true) → Q .normal a w := by
    intro k todo log act H listed φ a w hI hs hall
    have htodo : todo = [] := by
      cases todo with
      | nil => rfl
      | cons j l => exact absurd List.mem_cons_self (hI.lt j (hI.inr j List.mem_cons_self) (hall j (hI.inr j List.mem_cons_self)))
    subst htodo
    unfold stageF at hs
    split at hs
    · cases hs
    split at hs
    case isFalse => cases hs
    simp only [List.filter_nil, List.isEmpty_nil, if_true] at hs
    cases hs
    refine hk φ a w hI.sim ⟨⟨hI.size, hI.le, fun t => ?_⟩, hI.df⟩
    refine hI.tmps t fun i o hi _ hl _ => ?_
    rw [hall i hi] at hl; cases hl
  have hready : ∀ (listed : Array Bool), listed.size = ops.size → Region.ready .any ops listed = [] → ∀ i, i < ops.size → listed.getD i true = true := by
    intro listed hsz hr i
    induction i using Nat.strongRecOn with
    | _ i ih =>
      intro hi
      cases hl : listed.getD i true with
      | true => rfl
      | false =>
        exfalso
        obtain ⟨o, ho⟩ : ∃ o, ops[i]? = some o := ⟨ops[i], Array.getElem?_eq_getElem hi⟩
        have : i ∈ Region.ready .any ops listed := mem_ready.2 ⟨hl, o, ho, fun e he hb => by
          have hlt := regOk_before hreg ho e he hb
          have := ih e.on hlt (by omega)
          have hes : e.on < listed.size := by omega
          simp [hes] at this ⊢
          exact this⟩
        rw [hr] at this
        cases this
  intro fuel
  induction fuel with
  | zero =>
    intro k todo log act H listed φ a w hI hs hc
    have hall := cnt_zero (listed := listed) (m := ops.size) (by omega)
    refine ⟨?_, hfin k todo log act H listed φ a w hI hs hall⟩
    cases hr : Region.ready .any ops listed with
    | nil => rfl
    | cons j l =>
      have hj : j ∈ Region.ready .any ops listed := by rw [hr]; exact List.mem_cons_self
      obtain ⟨h1, o, ho, _⟩ := mem_ready.1 hj
      rw [hall j (Array.getElem?_eq_some_iff.1 ho).1] at h1
      cases h1
  | succ fuel ih =>
    intro k todo log act H listed φ a w hI hs hc
    refine ⟨fun hr => hfin k todo log act H listed φ a w hI hs (hready listed hI.lsz hr), fun i hi => ?_⟩
    obtain ⟨hun, o, ho, hdeps⟩ := mem_ready.1 hi
    have hilt : i < ops.size := (Array.getElem?_eq_some_iff.1 ho).1
    have hoL : ops.toList[i]? = some o := by simpa using ho
    have hdepT : ∀ j, depB o j = true → listed.getD j true = true := by
      intro j hj
      obtain ⟨e, he, hb, rfl⟩ := depB_iff hj
      have := hdeps e he hb
      have hs' : e.on < listed.size := by
        rcases Nat.lt_or_ge e.on listed.size with h | h
        · exact h
        · simp [Array.getElem?_eq_none h] at this
      simp [hs'] at this ⊢
      exact this
    let bad : Tmp → Prop := fun t => ∃ j oj, j < ops.size ∧ j ∉ todo ∧ listed.getD j true = false ∧ ops[j]? = some oj ∧ oj.dst = some t
    have hgood : ∀ t, ¬ bad t → VR φ (act.get t) (a.tmps.getD t undef) := fun t hb => hI.tmps t fun j oj h1 h2 h3 h4 h5 => hb ⟨j, oj, h1, h2, h3, h4, h5⟩
    have hreads : ∀ t ∈ o.looksAt ops, ¬ bad t := by
      rintro t ht ⟨j, oj, h1, h2, h3, h4, h5⟩
      obtain ⟨p, hp⟩ := hI.plog j h1 h2 h3
      obtain ⟨_, oj', ho', hE⟩ := hI.logE j p hp
      rw [h4] at ho'; cases ho'
      obtain ⟨_, hd⟩ := regOk_reads hreg ho h4 hE h5 ht
      rw [hdepT j hd] at h3
      cases h3
    have hevO : ∀ x, VR φ (evO act bad x) (a.eval x) := by
      intro x
      cases x with
      | tmp t =>
        show VR φ (if bad t then .any else act.get t) (a.tmps.getD t undef)
        split
        · trivial
        · rename_i hb; exact hgood t hb
      | const v => exact rfl
      | global g => exact rfl
      | func f => exact ⟨#[], #[], rfl, VRs.nil, VRs.nil⟩
    have hcong : ∀ x ∈ o.op.operands, act.ev x = evO act bad x := by
      intro x hx
      cases x with
      | tmp t =>
        have : ¬ bad t := hreads t (by
          unfold Oper.looksAt
          exact List.mem_append_left _ (List.mem_filterMap.2 ⟨.tmp t, by simpa using hx, rfl⟩))
        show act.get t = if bad t then .any else act.get t
        rw [if_neg this]
      | const v => rfl
      | global g => rfl
      | func f => rfl
    have hall := all_congr (P := P) (G := G) (H := H) o hcong
    have hwant : ∀ b, wantA ops.toList o act = some b → Region.wanted o (yielded ops a.tmps) = b := fun b hb => want_sound (φ := φ) hb fun t ht => hgood t (hreads t ht)
    have hlsz' : (listed.setIfInBounds i true).size = ops.size := by simp [hI.lsz]
    have hcnt : cnt (listed.setIfInBounds i true) ops.size ≤ fuel := by
      have := cnt_set listed i hun ops.size
      rw [if_pos hilt] at this
      omega
    have hl' : ∀ j, (listed.setIfInBounds i true).getD j true = true → j ≠ i → listed.getD j true = true := fun j h hne => by rw [getD_set_ne true (Ne.symm hne)] at h; exact h
    have hlf : ∀ j, (listed.setIfInBounds i true).getD j true = false → j ≠ i ∧ listed.getD j true = false := fun j h => by
      have hne : j ≠ i := by
        intro e; subst e
        have : j < listed.size := by rw [hI.lsz]; exact hilt
        simp [this] at h
      exact ⟨hne, by rw [getD_set_ne true (Ne.symm hne)] at h; exact h⟩
    have hli : (listed.setIfInBounds i true).getD i true = true := by
      have : i < listed.size := by rw [hI.lsz]; exact hilt
      simp [this]
    unfold wpOpIn
    simp only [ho]
    by_cases hmem : i ∈ todo
    ·
      unfold stageF at hs
      split at hs
      · cases hs
      rename_i hany
      split at hs
      case isFalse => cases hs
      rename_i hre
      have hrdy : readyB todo o = true := readyB_iff.2 fun e he hb => by
        have h1 : listed.getD e.on true = true := hdepT e.on (by
          unfold depB
          exact List.any_eq_true.2 ⟨e, by simpa using he, by simp [hb]⟩)
        exact hI.lt e.on (by have := regOk_before hreg ho e he hb; omega) h1
      have hif : i ∈ todo.filter (readyAt ops.toList todo) := List.mem_filter.2 ⟨hmem, by unfold readyAt; rw [hoL]; exact hrdy⟩
      split at hs
      · rename_i hnil; rw [hnil] at hif; cases hif
      case h_3 => cases hs
      rename_i i' hone
      rw [hone] at hif
      obtain rfl : i = i' := by simpa using hif
      rw [hoL] at hs
      simp only at hs
      have hfm : ∀ j, j ∈ todo.filter (· != i) ↔ j ∈ todo ∧ j ≠ i := fun j => by simp
      have hnext : ∀ (v : AV) (K : AH) (ψ : Phi) (x : Value) (u : World), Sim P G n0 φ H w ψ K u → VR ψ v x →
          Inv P G n0 ops φ0 H0 w0 (todo.filter (· != i)) (log.filter fun p => !depB o p.1) (act.put o.dst v) K (listed.setIfInBounds i true) ψ (a.put o.dst x) u := by
        intro v K ψ x u hsim hv
        refine ⟨hI.sim.trans hsim, hlsz', fun j hj => hI.inr j ((hfm j).1 hj).1, ?_, ?_, ?_, ?_, ?_, ?_, ?_, ?_, ?_, ?_, ?_⟩
        · intro j hj hl hm
          exact hI.lt j hj (hl' j hl ((hfm j).1 hm).2) ((hfm j).1 hm).1
        · intro j hj hn hl
          obtain ⟨hne, hlj⟩ := hlf j hl
          obtain ⟨p, hp⟩ := hI.plog j hj (fun hm => hn ((hfm j).2 ⟨hm, hne⟩)) hlj
          refine ⟨p, List.mem_filter.2 ⟨hp, ?_⟩⟩
          cases hd : depB o j with
          | false => simp [hd]
          | true => rw [hdepT j hd] at hlj; cases hlj
        · rw [size_put, AAct.n_put]; exact hI.size
        · rw [AAct.n_put]; exact hI.le
        · intro t ht
          have hb : ¬ bad t := by
            rintro ⟨j, oj, h1, h2, h3, h4, h5⟩
            have hne : j ≠ i := fun e => by subst e; exact h2 hmem
            exact ht j oj h1 (fun hm => h2 ((hfm j).1 hm).1) (by rw [getD_set_ne true (Ne.symm hne)]; exact h3) h4 h5
          by_cases e : o.dst = some t
          · rw [e]
            exact put_slot hI.size hI.le (fun _ => (hgood t hb).mono hsim.le) hv
          · rw [AAct.get_put_ne _ _ _ e, getD_put_ne _ _ _ e]
            exact (hgood t hb).mono hsim.le
        · intro t ht
          rw [AAct.n_put] at ht
          rw [AAct.get_put_ge _ _ _ ht]; exact (hI.up t ht).mono hsim.le
        · rw [AAct.defs_put, defers_put]; exact hI.df.mono hsim.le
        · intro j p hm
          obtain ⟨h1, h2⟩ := hI.logE j p (List.mem_filter.1 hm).1
          exact ⟨fun hm => h1 ((hfm j).1 hm).1, h2⟩
        · intro j p hm
          have := hI.blkL j p (List.mem_filter.1 hm).1
          exact ⟨Nat.lt_of_lt_of_le this.1 hsim.sz, this.2⟩
        · intro j p hm hl
          obtain ⟨_, hlj⟩ := hlf j hl
          have hm' := (List.mem_filter.1 hm).1
          exact hsim.new p (hI.blk j p hm' hlj) (hI.blkL j p hm').1
        · intro j q p h1 h2
          exact hI.blkU j q p (List.mem_filter.1 h1).1 (List.mem_filter.1 h2).1
      have hgo : ∀ (v : AV) (K : AH) (ψ : Phi) (x : Value) (u : World), Sim P G n0 φ H w ψ K u → VR ψ v x →
          drawF C ops.toList k (todo.filter (· != i)) (log.filter fun p => !depB o p.1) (act.put o.dst v) K = some (actF, HF) → wpAnyIn (wd rd) 0 P .any ops Q fuel (listed.setIfInBounds i true) (a.put o.dst x) u := by
        intro v K ψ x u hsim hv hdr
        cases k with
        | zero => cases hdr
        | succ k =>
          simp only [drawF] at hdr
          split at hdr
          · cases hdr
          rename_i todo' log' act' H' heag
          rw [hP, hG] at heag
          exact ih k todo' log' act' H' _ ψ _ u (eager_sound _ _ _ _ _ _ _ _ _ _ _ _ _ (hnext v K ψ x u hsim hv) heag) hdr hcnt
      cases hw : wantA ops.toList o act with
      | none => rw [hw] at hs; cases hs
      | some b =>
        rw [hw] at hs
        have hwc := hwant b hw
        cases b with
        | false =>
          rw [hwc, if_neg (by simp)]
          exact ⟨fun _ _ => trivial, hgo _ _ φ undef w (Sim.refl hI.sim.r) (show VR φ (.lit undef) undef from rfl) hs⟩
        | true =>
          rw [hwc, if_pos rfl]
          simp only at hs
          split at hs
          case h_2 => cases hs
          rename_i v K hop
          have hop' : opF C o (evO act bad) H = some (v, K) := by
            rw [← hop]; exact (opF_congr C o hcong).symm
          refine opF_sound hP hG hC hD hI.sim.r hevO hop' fun ψ x u hsim hv => ?_
          exact hgo v K ψ x u hsim hv hs
    ·
      obtain ⟨p, hp⟩ := hI.plog i hilt hmem hun
      have hre : recheck C.P C.G ops.toList act H log = true := by
        unfold stageF at hs
        split at hs
        · cases hs
        split at hs
        · rename_i hre; exact hre
        · cases hs
      rw [hP, hG] at hre
      have hstay : ∀ (ψ : Phi) (x : Value) (u : World), φ.le ψ → Sim P G n0 φ0 H0 w0 ψ H u → (∀ d, o.dst = some d → VR ψ (act.get d) x) → (∀ j q, (j, some q) ∈ log → j ≠ i → listed.getD j true = false → ψ q = none) →
          Inv P G n0 ops φ0 H0 w0 todo log act H (listed.setIfInBounds i true) ψ (a.put o.dst x) u := by
        intro ψ x u hle hsim hv hbl
        refine ⟨hsim, hlsz', hI.inr, ?_, ?_, ?_, hI.le, ?_, fun t ht => (hI.up t ht).mono hle, ?_, hI.logE, hI.blkL, ?_, hI.blkU⟩
        · intro j hj hl hm
          by_cases e : j = i
          · subst e; exact hmem hm
          · exact hI.lt j hj (hl' j hl e) hm
        · intro j hj hn hl
          exact hI.plog j hj hn (hlf j hl).2
        · rw [size_put]; exact hI.size
        · intro t ht
          by_cases e : o.dst = some t
          · have hvt := hv t e
            by_cases hlt : t < a.tmps.size
            · have : (a.put o.dst x).tmps.getD t undef = x := by rw [e]; simp [Act.put, hlt]
              rw [this]; exact hvt
            · have hge : a.tmps.size ≤ t := Nat.le_of_not_lt hlt
              have hx : (a.put o.dst x).tmps.getD t undef = undef := by
                rw [e]; simp only [Act.put]; rw [Array.setIfInBounds_eq_of_size_le hge]
                simp [Array.getElem?_eq_none hge]
              rw [hx]
              exact (hI.up t (by rw [← hI.size]; exact hge)).mono hle
          · rw [getD_put_ne _ _ _ e]
            have hb : ¬ bad t := by
              rintro ⟨j, oj, h1, h2, h3, h4, h5⟩
              have hne : j ≠ i := fun e' => by subst e'; rw [ho] at h4; cases h4; exact e h5
              exact ht j oj h1 h2 (by rw [getD_set_ne true (Ne.symm hne)]; exact h3) h4 h5
            exact (hgood t hb).mono hle
        · rw [defers_put]; exact hI.df.mono hle
        · intro j q hm hl
          obtain ⟨hne, hlj⟩ := hlf j hl
          exact hbl j q hm hne hlj
      have hgo : ∀ (ψ : Phi) (x : Value) (u : World), φ.le ψ → Sim P G n0 φ0 H0 w0 ψ H u → (∀ d, o.dst = some d → VR ψ (act.get d) x) → (∀ j q, (j, some q) ∈ log → j ≠ i → listed.getD j true = false → ψ q = none) →
          wpAnyIn (wd rd) 0 P .any ops Q fuel (listed.setIfInBounds i true) (a.put o.dst x) u :=
        fun ψ x u h0 h1 h2 h3 => ih k todo log act H _ ψ _ u (hstay ψ x u h0 h1 h2 h3) hs hcnt
      rcases recheck_mem hre hp hoL with ⟨hw, _, hd⟩ | ⟨hw, _, v, hq, hd⟩ | ⟨hw, b, d, ao, mk, rfl, hd, hlop, hgb, hgd⟩
      · rw [hwant _ hw, if_neg (by simp)]
        exact ⟨fun _ _ => trivial, hgo φ undef w (Phi.le_refl _) hI.sim (fun d h => by rw [hd d h]; exact rfl) (fun j q hm _ hl => hI.blk j q hm hl)⟩
      · rw [hwant _ hw, if_pos rfl]
        rw [hall.2.2.2.1] at hq
        obtain ⟨x, h1, h2⟩ := qop_sound hI.sim.r hevO hq
        refine ⟨fun _ _ => trivial, ?_⟩
        rw [Oper.semAt_eq _ _ _ (fun c e => by
          have : execOp a.eval o = (do pure (.defer (← resolve a.eval c o.type))) := by simp only [execOp, e]
          rw [this] at h2
          simp only [Sem.run_bind] at h2
          generalize (resolve a.eval c o.type).run P w = res at h2
          cases res <;> simp [Result.andThen] at h2), h2]
        exact hgo φ x w (Phi.le_refl _) hI.sim (fun d h => by rw [hd d h]; exact h1) (fun j q hm _ hl => hI.blk j q hm hl)
      · rw [hwant _ hw, if_pos rfl]
        rw [hall.2.2.2.2.1] at hlop
        obtain ⟨co, x, h1, h2⟩ := lop_sound hevO hlop w
        have hnone := hI.blk i b hp hun
        have hle := Phi.le_put (w.heap.size, 0) hnone
        obtain ⟨g1, g2⟩ := h2 (φ.put b (w.heap.size, 0)) b hle (Phi.put_same _ _ _)
        obtain ⟨hR', hB⟩ := hI.sim.r.late hnone hgb g1 (New.alloc w co)
        refine ⟨fun _ _ => trivial, ?_⟩
        rw [Oper.semAt_eq _ _ _ (fun c e => by
          have : execOp a.eval o = (do pure (.defer (← resolve a.eval c o.type))) := by simp only [execOp, e]
          rw [this] at h1
          simp only [Sem.run_bind] at h1
          generalize (resolve a.eval c o.type).run P w = res at h1
          cases res <;> simp [Result.andThen] at h1), h1]
        have hbL := hI.blkL i b hp
        refine hgo (φ.put b (w.heap.size, 0)) x (w.alloc co) hle ⟨Phi.le_trans hI.sim.le hle, fun c hc hs => ?_, hI.sim.sz, hR', hI.sim.bel.trans hB⟩ (fun d' h => ?_) (fun j q hm hne hl => ?_)
        · unfold Phi.put
          rw [if_neg (by omega)]
          exact hI.sim.new c hc hs
        · rw [hd] at h; cases h; rw [hgd]; exact g2
        · unfold Phi.put
          rw [if_neg (fun e => hne (by subst e; exact hI.blkU j i q hm hp))]
          exact hI.blk j q hm hl
end
end
end Go.Proofs.YtlmglnobdcgbeaaGreat.D
namespace Go.Proofs.YtlmglnobdcgbeaaGreat.D
open Go Go.RowKit
noncomputable section
theorem cnt_le (listed : Array Bool) : ∀ m, cnt listed m ≤ m
  | 0 => Nat.le_refl _
  | m + 1 => by
    have := cnt_le listed m
    simp only [cnt]
    split <;> omega
def exOf : AEx → Exit
  | .normal => .normal
  | .exit id => .exit id
  | .ret => .ret
def RdOK (φ : Phi) : Option Nat → Option Nat → Prop
  | none, none => True
  | some l, some c => ∃ m, φ l = some (c, m)
  | _, _ => False
theorem RdOK.mono {φ ψ : Phi} (h : φ.le ψ) {r s : Option Nat} (hr : RdOK φ r s) : RdOK ψ r s := by
  cases r <;> cases s <;> first | exact hr | exact (let ⟨m, hm⟩ := hr; ⟨m, h _ _ hm⟩)
theorem exists_min (p : Nat → Prop) (h : ∃ n, p n) : ∃ n, p n ∧ ∀ m, p m → n ≤ m := by
  obtain ⟨n, hn⟩ := h
  induction n using Nat.strongRecOn with
  | _ n ih =>
    by_cases hm : ∃ m, m < n ∧ p m
    · obtain ⟨m, hlt, hp⟩ := hm; exact ih m hlt hp
    · exact ⟨n, hn, fun m hp => Nat.le_of_not_lt fun hlt => hm ⟨m, hlt, hp⟩⟩
def leastOr (p : Nat → Prop) : Nat := by classical exact if h : ∃ n, p n then Classical.choose (exists_min p h) else 0
theorem leastOr_spec {p : Nat → Prop} (h : ∃ n, p n) : p (leastOr p) ∧ ∀ m, p m → leastOr p ≤ m := by
  unfold leastOr
  rw [dif_pos h]
  exact Classical.choose_spec (exists_min p h)
theorem DR.append {φ : Phi} : ∀ {bs cs : List Nat} {l k : List Deferred}, DR φ bs l → DR φ cs k → DR φ (bs ++ cs) (l ++ k)
  | [], _, _, _, h, hk => by cases h; exact hk
  | _ :: _, _, _, _, ⟨c, m, r, h1, h2, h3⟩, hk => by subst h1; exact ⟨c, m, _, rfl, h2, DR.append h3 hk⟩
section
variable {P : Program} {G : Glob} {n0 : Nat} {φ : Phi} {H K : AH} {w : World}
def Goes (P : Program) (G : Glob) (n0 : Nat) (rd : Option Nat) (c : Code) (r : RC) (φ : Phi) (act : AAct) (H : AH) : Prop :=
  ∀ ex act' K, r = some (ex, act', K) → ∀ (rdc : Option Nat) (a : Act) (w : World), RdOK φ rd rdc → R P G n0 φ H w → AR φ act a →
    ∀ Q : Exit → Act → World → Prop, (∀ ψ a' u, Sim P G n0 φ H w ψ K u → AR ψ act' a' → Q (exOf ex) a' u) → c.wpIn (wd rdc) 0 P Q a w
theorem region_sound {C : CC} (hP : C.P = P) (hG : C.G = G) (hmix : P.follows .mixedOrders = true) (hC : CallOK P G n0 C.call) (hD : RndOK P G n0 C.rnd) {id : Nat} {ops : Array Oper} {d : Bool} (hok : codeOk (.region id ops d) = true)
    (act : AAct) (H : AH) : Goes P G n0 C.rd (.region id ops d) (codeTab (.region id ops d) C act H) φ act H := by
  intro ex act' K h rdc a w hrd hR hA Q hk
  change okN (regionF C ops d act H) = some (ex, act', K) at h
  cases hr : regionF C ops d act H with
  | none => rw [hr] at h; cases h
  | some p =>
    rw [hr] at h
    cases h
    cases d with
    | false =>
      refine wpIn_region ?_
      rw [List.range_eq_range']
      have := seq_sound hP hG hC hD (rd := rdc) (ops := ops) (Q := Q) ops.toList 0 (by simp) φ act H a w hr hR hA hk
      simpa using this
    | true =>
      have hreg : regOk ops = true := by simpa [codeOk] using hok
      refine wpIn_region_any hmix ?_
      change drawF C ops.toList (ops.size + 1) (List.range ops.size) [] act H = some _ at hr
      simp only [drawF] at hr
      split at hr
      · cases hr
      rename_i todo log act1 H1 heag
      rw [hP, hG] at heag
      have hsim := Sim.same hR (SameHeap.drew w)
      have hrep : ∀ i, i < ops.size → (Array.replicate ops.size false).getD i true = false := fun i hi => by simp [hi]
      have hI : Inv P G n0 ops φ H w (List.range ops.size) [] act H (Array.replicate ops.size false) φ a { w with drawn := w.drawn + 1 } :=
        ⟨hsim, by simp, fun i hi => List.mem_range.1 hi, fun i hi hl => (by rw [hrep i hi] at hl; cases hl), fun i hi hn => absurd (List.mem_range.2 hi) hn, hA.tr.size, hA.tr.le, fun t _ => hA.tr.get t,
          fun t ht => (by
            have h1 := hA.tr.get t
            have hz : a.tmps.getD t undef = undef := by
              have : a.tmps.size ≤ t := by rw [hA.tr.size]; exact ht
              simp [Array.getElem?_eq_none this]
            rw [hz] at h1
            exact h1),
          hA.df, fun i p hm => (by cases hm), fun i p hm => (by cases hm), fun i p hm => (by cases hm), fun i j p hm => (by cases hm)⟩
      exact draw_sound hreg hP hG hC hD hk ops.size ops.size todo log act1 H1 _ φ a _ (eager_sound _ _ _ _ _ _ _ _ _ _ _ _ _ hI heag) hr (cnt_le _ _)
theorem thenF_some {r : RC} {k : AAct → AH → RC} {ex : AEx} {a' : AAct} {K : AH} (h : thenF r k = some (ex, a', K)) :
    (∃ a1 H1, r = some (.normal, a1, H1) ∧ k a1 H1 = some (ex, a', K)) ∨ (r = some (ex, a', K) ∧ ex ≠ .normal) := by
  cases r with
  | none => cases h
  | some p =>
    obtain ⟨e, a1, H1⟩ := p
    cases e with
    | normal => exact .inl ⟨a1, H1, rfl, h⟩
    | exit id => cases h; exact .inr ⟨rfl, fun e => by cases e⟩
    | ret => cases h; exact .inr ⟨rfl, fun e => by cases e⟩
theorem code_sound {C : CC} (hP : C.P = P) (hG : C.G = G) (hmix : P.follows .mixedOrders = true) (hC : CallOK P G n0 C.call) (hD : RndOK P G n0 C.rnd) :
    ∀ (c : Code), codeOk c = true → ∀ (φ : Phi) (act : AAct) (H : AH), Goes P G n0 C.rd c (codeTab c C act H) φ act H := by
  intro c
  induction c with
  | skip => intro _ φ act H ex act' K h rdc a w hrd hR hA Q hk; cases h; exact wpIn_skip (hk φ a w (Sim.refl hR) hA)
  | label l => intro _ φ act H ex act' K h rdc a w hrd hR hA Q hk; cases h; exact wpIn_label (hk φ a w (Sim.refl hR) hA)
  | ret => intro _ φ act H ex act' K h rdc a w hrd hR hA Q hk; cases h; exact wpIn_ret (hk φ a w (Sim.refl hR) hA)
  | exit id => intro _ φ act H ex act' K h rdc a w hrd hR hA Q hk; cases h; exact wpIn_exit (hk φ a w (Sim.refl hR) hA)
  | scope b ih => intro _ φ act H ex act' K h; cases h
  | goto l => intro _ φ act H ex act' K h; cases h
  | refuse why => intro _ φ act H ex act' K h; cases h
  | region id ops d => intro hok φ act H; exact region_sound hP hG hmix hC hD hok act H
  | seq x y ihx ihy =>
    intro hok φ act H ex act' K h rdc a w hrd hR hA Q hk
    simp only [codeOk, Bool.and_eq_true] at hok
    refine wpIn_seq ?_
    rcases thenF_some h with ⟨a1, H1, h1, h2⟩ | ⟨h1, hne⟩
    · refine ihx hok.1 φ act H _ _ _ h1 rdc a w hrd hR hA _ fun ψ a2 u hs hA2 => ?_
      exact ihy hok.2 ψ a1 H1 _ _ _ h2 rdc a2 u (hrd.mono hs.le) hs.r hA2 Q fun χ a3 v hs2 hA3 => hk χ a3 v (hs.trans hs2) hA3
    · refine ihx hok.1 φ act H _ _ _ h1 rdc a w hrd hR hA _ fun ψ a2 u hs hA2 => ?_
      have := hk ψ a2 u hs hA2
      cases ex with
      | normal => exact absurd rfl hne
      | exit id => exact this
      | ret => exact this
  | cond x t e iht ihe =>
    intro hok φ act H ex act' K h rdc a w hrd hR hA Q hk
    simp only [codeOk, Bool.and_eq_true] at hok
    change condF (act.ev x) (fun _ => codeTab t C act H) (fun _ => codeTab e C act H) = some (ex, act', K) at h
    unfold condF at h
    split at h
    case h_2 => cases h
    rename_i b hb
    have hx := hA.ev x
    rw [hb] at hx
    refine wpIn_cond (t := b) hx ?_
    cases b with
    | true => exact iht hok.1 φ act H _ _ _ h rdc a w hrd hR hA Q hk
    | false => exact ihe hok.2 φ act H _ _ _ h rdc a w hrd hR hA Q hk
  | block id b ih =>
    intro hok φ act H ex act' K h rdc a w hrd hR hA Q hk
    refine wpIn_block ?_
    change catchF id (codeTab b C act H) = some (ex, act', K) at h
    cases hr : codeTab b C act H with
    | none => rw [hr] at h; cases h
    | some p =>
      rw [hr] at h
      obtain ⟨e, a1, H1⟩ := p
      refine ih hok φ act H _ _ _ hr rdc a w hrd hR hA _ fun ψ a2 u hs hA2 => ?_
      cases e with
      | normal => cases h; exact hk ψ a2 u hs hA2
      | ret => cases h; exact hk ψ a2 u hs hA2
      | exit id' =>
        change Bool.rec (motive := fun _ => RC) (some (.exit id', a1, H1)) (some (.normal, a1, H1)) (Nat.beq id' id) = _ at h
        rw [nbeq] at h
        show (if id' = id then Q .normal a2 u else Q (.exit id') a2 u)
        by_cases e : id' = id
        · rw [if_pos e]
          rw [decide_eq_true e] at h
          cases h
          exact hk ψ a2 u hs hA2
        · rw [if_neg e]
          rw [decide_eq_false e] at h
          cases h
          exact hk ψ a2 u hs hA2
  | loop b ih =>
    intro hok φ act H ex act' K h rdc a w hrd hR hA Q hk
    change loopTab C.N (codeTab b C) act H = some (ex, act', K) at h
    let I : Nat → Act → World → Prop := fun n a u => ∃ ψ act1 H1, Sim P G n0 φ H w ψ H1 u ∧ AR ψ act1 a ∧ loopTab n (codeTab b C) act1 H1 = some (ex, act', K)
    refine wpIn_loop (fun a u => ∃ n, I n a u) (fun a u => leastOr fun n => I n a u) ⟨C.N, φ, act, H, Sim.refl hR, hA, h⟩ ?_
    intro a1 u1 hI
    obtain ⟨hmin, _⟩ := leastOr_spec hI
    generalize hμ : (leastOr fun n => I n a1 u1) = n at hmin
    obtain ⟨ψ, act1, H1, hs, hA1, hl⟩ := hmin
    cases n with
    | zero => cases hl
    | succ n =>
      change thenF (codeTab b C act1 H1) (loopTab n (codeTab b C)) = some (ex, act', K) at hl
      rcases thenF_some hl with ⟨a2, H2, h1, h2⟩ | ⟨h1, hne⟩
      · refine ih hok ψ act1 H1 _ _ _ h1 rdc a1 u1 (hrd.mono hs.le) hs.r hA1 _ fun χ a3 v hs2 hA3 => ?_
        have hI' : I n a3 v := ⟨χ, a2, H2, hs.trans hs2, hA3, h2⟩
        refine ⟨⟨n, hI'⟩, ?_⟩
        exact Nat.lt_succ_of_le ((leastOr_spec (p := fun n => I n a3 v) ⟨n, hI'⟩).2 n hI')
      · refine ih hok ψ act1 H1 _ _ _ h1 rdc a1 u1 (hrd.mono hs.le) hs.r hA1 _ fun χ a3 v hs2 hA3 => ?_
        have := hk χ a3 v (hs.trans hs2) hA3
        cases ex with
        | normal => exact absurd rfl hne
        | exit id => exact this
        | ret => exact this
  | rangeFunc g ps asg b iha ihb =>
    intro hok φ act H ex act' K h rdc a w hrd hR hA Q hk
    simp only [codeOk, Bool.and_eq_true] at hok
    change rangeF C g ps asg b act H = some (ex, act', K) at h
    unfold rangeF at h
    split at h
    · cases h
    rename_i d mark H1 hent
    split at h
    case h_2 => cases h
    rename_i H2 f first captured hpush hg
    split at h
    · cases h
    rename_i rv H3 hcall
    split at h
    case h_2 => cases h
    rename_i r hget
    split at h
    · cases h
    rename_i hbusy
    have hent' : ∃ (dc : Nat) (markc : List Deferred) (φ1 : Phi) (w1 : World) (m' : Nat), Sim P G n0 φ H w φ1 H1 w1 ∧ φ1 d = some (dc, m') ∧ DR φ1 mark markc ∧
        ∀ fn tm, (Instr.enterLoop fn tm ps asg b rdc).run P w = .ok (w1.heap.size, markc) (w1.alloc (.loop { state := .ready, pending := none, fn, tmps := tm, params := ps, assign := asg, body := b, defers := dc })) := by
      cases hrdv : C.rd with
      | none =>
        rw [hrdv] at hent hrd
        cases rdc with
        | some c => exact hrd.elim
        | none =>
          simp only [enterF] at hent
          split at hent
          case h_2 => cases hent
          rename_i K1 hK1
          cases hent
          have hs := hR.push (m := 0) hK1 (ao := .defd true) (o := .deferred (some [])) rfl (New.alloc w _)
          refine ⟨w.heap.size, [{ target := .collected w.heap.size, args := #[] }], _, w.alloc (.deferred (some [])), 0, hs, Phi.put_same _ _ _, ⟨_, _, [], rfl, Phi.put_same _ _ _, rfl⟩, fun fn tm => ?_⟩
          have := run_enterLoop_outer (P := P) (w := w) fn tm ps asg b
          simpa using this
      | some l0 =>
        rw [hrdv] at hent hrd
        cases rdc with
        | none => exact hrd.elim
        | some c0 =>
          simp only [enterF] at hent
          split at hent
          case h_2 => cases hent
          rename_i r0 hg0
          cases hent
          obtain ⟨m0, hl0⟩ := hrd
          obtain ⟨ao, o, g1, g2, g3, _⟩ := hR.obj l0 c0 m0 hl0
          rw [hg0] at g1; cases g1
          obtain ⟨fn0, tm0, dc, m', hd, rfl, _⟩ := g3
          refine ⟨dc, [], φ, w, m', Sim.refl hR, hd, rfl, fun fn tm => ?_⟩
          exact run_enterLoop_inner (P := P) g2 fn tm ps asg b
    obtain ⟨dc, markc, φ1, w1, m', hs1, hd1, hmark, hrun⟩ := hent'
    have hA1 := hA.mono hs1.le
    have hnone := hs1.r.none_ge (b := H1.size) (Nat.le_refl _)
    have hle2 := Phi.le_put (w1.heap.size, 0) hnone
    refine wpIn_rangeFunc fun fn _ => ?_
    have hs2 := hs1.r.push (m := 0) hpush (o := .loop { state := .ready, pending := none, fn := fn, tmps := a.tmps, params := ps, assign := asg, body := b, defers := dc })
      ⟨fn, a.tmps, dc, m', hle2 _ _ hd1, rfl, hA1.tr.mono hle2, hok.1, hok.2⟩ (New.alloc w1 _)
    generalize hw2 : w1.alloc (.loop { state := .ready, pending := none, fn := fn, tmps := a.tmps, params := ps, assign := asg, body := b, defers := dc }) = w2 at hs2
    have hgv := ((hA1.mono hs2.le).ev g).view
    rw [hg] at hgv
    obtain ⟨as_, bs, hgx, has, hbs⟩ := hgv
    obtain ⟨⟨⟨fnc, body⟩, hbody⟩, hc⟩ := hC _ _ _ _ _ hcall
    have hb' := hbody
    unfold bodyOf at hb'
    split at hb'
    case h_2 => cases hb'
    rename_i fn' hfn
    split at hb'
    case h_2 => cases hb'
    rename_i cc hcc
    split at hb'
    · cases hb'
    rename_i hname
    cases hb'
    have hl2 : (φ1.put H1.size (w1.heap.size, 0)) H1.size = some (w1.heap.size, 0) := Phi.put_same _ _ _
    have hall : VRs (φ1.put H1.size (w1.heap.size, 0)) (first ++ [.yield H1.size] ++ captured) ((as_ ++ #[Value.func (.yield w1.heap.size) #[] #[]]) ++ bs).toList := by
      rw [Array.toList_append, Array.toList_append]
      exact (has.append (VRs.cons (show VR _ (.yield H1.size) (Value.func (.yield w1.heap.size) #[] #[]) from ⟨_, _, hl2, rfl⟩) VRs.nil)).append hbs
    refine ⟨w1.heap.size, markc, w2, { target := .fn (.func f) bs, args := as_ ++ #[Value.func (.yield w1.heap.size) #[] #[]] }, w2, f, (as_ ++ #[Value.func (.yield w1.heap.size) #[] #[]]) ++ bs, w2, ?_, ?_, fun _ _ => trivial, ?_, fun e => (by cases e), ?_⟩
    · show (Instr.enterLoop fn a.tmps ps asg b rdc).run P w = _
      rw [hrun, hw2]
    · simp only [rangeCall, resolve, hgx, Deferred.ofValue, Sem.run_pure]
      simp [Act.eval]
    · simp only [invoke, callFunc, Sem.run_bind, run_program, Result.andThen_ok, hfn]
      rw [if_neg (by simpa using hname)]
      simp [hcc]
    · have hx : CallsIn (wd rdc) 0 P f ((as_ ++ #[Value.func (.yield w1.heap.size) #[] #[]]) ++ bs) w2 (Ends P G n0 (φ1.put H1.size (w1.heap.size, 0)) H2 w2 rv H3) := hc _ w2 _ hs2.r hall
      refine CallsIn.mono hx fun e u he => ?_
      obtain ⟨v, ψ, rfl, _, hs3⟩ := he
      have hl3 : ψ H1.size = some (w1.heap.size, 0) := hs3.le _ _ hl2
      obtain ⟨ao, o, g1, g2, g3, _⟩ := hs3.r.obj _ _ _ hl3
      rw [hget] at g1; cases g1
      obtain ⟨fn3, tm3, d3, m3, hd3, rfl, ht3, hc3⟩ := g3
      have hend := run_endLoop (P := P) g2 (by simpa using hbusy)
      have hs4 : Sim P G n0 ψ H3 u ψ (H3.set H1.size (.loop { r with state := .exhausted })) (u.putObj w1.heap.size (.loop { state := .exhausted, pending := r.pending, fn := fn3, tmps := tm3, params := r.params, assign := r.assign, body := r.body, defers := d3 })) :=
        hs3.r.set hl3 hget (by intro e; cases e) (by intro _ _ e; cases e) ⟨fn3, tm3, d3, m3, hd3, rfl, ht3, hc3⟩ (Upd.putObj _ (hs3.r.lt hl3).2)
      have hsF := hs1.trans (hs2.trans (hs3.trans hs4))
      have hAF : AR ψ { act with defs := mark ++ act.defs } { a with defers := markc ++ a.defers } := by
        have hle : φ1.le ψ := Phi.le_trans hs2.le hs3.le
        refine ⟨(hA1.tr).mono hle, ?_⟩
        exact (hmark.mono hle).append (hA1.df.mono hle)
      obtain ⟨jp, hjp⟩ : ∃ jp, jp = r.pending := ⟨_, rfl⟩
      refine ⟨jp, _, by rw [hjp]; exact hend, ?_⟩
      split at h
      · rename_i hp
        cases h
        obtain rfl := hjp.trans hp
        exact hk ψ _ _ hsF hAF
      · rename_i hp
        cases h
        obtain rfl := hjp.trans hp
        exact wpIn_ret (hk ψ _ _ hsF hAF)
      · rename_i id hp
        cases h
        obtain rfl := hjp.trans hp
        exact wpIn_exit (hk ψ _ _ hsF hAF)
      · cases h
end
end
end Go.Proofs.YtlmglnobdcgbeaaGreat.D
namespace Go.Proofs.YtlmglnobdcgbeaaGreat.D
open Go Go.RowKit
noncomputable section
theorem putAll_spec : ∀ (vs : List AV) (a : AAct) (k : Nat), k + vs.length ≤ a.n → a.n ≤ 1000 → (putAll a k vs).n = a.n ∧ (putAll a k vs).defs = a.defs ∧
    (∀ i v, vs[i]? = some v → (putAll a k vs).get (k + i) = v) ∧ (∀ i, i < k ∨ k + vs.length ≤ i → (putAll a k vs).get i = a.get i)
  | [], a, k, _, _ => ⟨rfl, rfl, fun i v h => by simp at h, fun _ _ => rfl⟩
  | v :: vs, a, k, h, hn => by
    simp only [List.length_cons] at h
    obtain ⟨h1, h2, h3, h4⟩ := putAll_spec vs (a.set k v) (k + 1) (by rw [AAct.n_set]; omega) (by rw [AAct.n_set]; exact hn)
    have hk : (a.set k v).get k = v := by
      show (a.set k v).tmps.get k = v
      rw [AAct.tmps_set_lt a v (by omega), TT.get_set_eq _ _ _ (by omega)]
    refine ⟨h1, h2, fun i u hu => ?_, fun i hi => ?_⟩
    · cases i with
      | zero =>
        simp at hu; subst hu
        show (putAll (a.set k v) (k + 1) vs).get k = v
        rw [h4 k (.inl (by omega)), hk]
      | succ i =>
        simp at hu
        show (putAll (a.set k v) (k + 1) vs).get (k + (i + 1)) = u
        rw [show k + (i + 1) = k + 1 + i by omega]
        exact h3 i u hu
    · simp only [List.length_cons] at hi
      show (putAll (a.set k v) (k + 1) vs).get i = a.get i
      rw [h4 i (by omega)]
      have hne : some k ≠ some i := by intro e; cases e; omega
      exact AAct.get_put_ne a (some k) v hne
section
variable {P : Program} {G : Glob} {n0 : Nat} {φ : Phi} {H K : AH} {w : World}
theorem args_AR {args : List AV} {as_ : Array Value} {n : Nat} (hv : VRs φ args as_.toList) (hn : args.length ≤ n) (h1 : n ≤ 1000) :
    AR φ (putAll ⟨n, .tip, []⟩ 0 args) { tmps := as_ ++ Array.replicate (n - as_.size) undef, defers := [] } := by
  obtain ⟨h2, h3, h4, h5⟩ := putAll_spec args ⟨n, .tip, []⟩ 0 (by simpa using hn) h1
  have hl := hv.length
  simp only [Array.length_toList] at hl
  refine ⟨⟨?_, by rw [h2]; exact h1, fun i => ?_⟩, by rw [h3]; exact rfl⟩
  · rw [h2]; simp; omega
  · rw [← AAct.get_eq]
    rcases Nat.lt_or_ge i args.length with hi | hi
    · have := h4 i args[i] (List.getElem?_eq_getElem hi)
      rw [Nat.zero_add] at this
      rw [this]
      obtain ⟨x, hx, hvx⟩ := hv.get (List.getElem?_eq_getElem hi)
      have : (as_ ++ Array.replicate (n - as_.size) undef).getD i undef = x := by
        have hi' : i < as_.size := by omega
        have hx' : as_[i]? = some x := by simpa using hx
        have : as_[i] = x := by
          rw [Array.getElem?_eq_getElem hi'] at hx'
          exact Option.some.inj hx'
        simp [Array.getElem?_append, hi', this]
      rw [this]; exact hvx
    · rw [h5 i (.inr (by omega))]
      have : (as_ ++ Array.replicate (n - as_.size) undef).getD i undef = undef := by
        have hi' : ¬ i < as_.size := by omega
        simp only [Array.getD_eq_getD_getElem?, Array.getElem?_append, if_neg hi', Array.getElem?_replicate]
        split <;> rfl
      rw [this]
      exact (rfl : VR φ (.lit undef) undef)
theorem loadA_addr {a : AV} {x : Value} (ha : VR φ a x) {t : TypeId} {r : AV} (h : loadA P G H t a = some r) : ∃ q, x = .pointer (some q) := by
  unfold loadA at h
  split at h
  · obtain ⟨c, m, _, rfl⟩ := ha; exact ⟨_, rfl⟩
  · cases ha; exact ⟨_, rfl⟩
  · cases h
def resG (tm : Array Value) (r : ResultVar) : Sem Value :=
  match r with
  | .tmp t => pure (tm.getD t undef)
  | .cell a t => do loadVar t (← asAddr (tm.getD a undef))
theorem results_eq (fn : Func) (tm : Array Value) : results fn tm = (do
    let vs ← fn.results.mapM (resG tm)
    pure (if h : vs.size = 1 then vs[0] else .tuple vs)) := by
  unfold results
  congr 2
  try (funext r; cases r <;> rfl)
theorem resA_sound (hR : R P G n0 φ H w) {act : AAct} {tm : Array Value} (hT : ∀ i, VR φ (act.get i) (tm.getD i undef)) : ∀ {rs : List ResultVar} {l : List AV}, resA P G H act rs = some l →
    ∃ vs, (rs.mapM (resG tm)).run P w = .ok vs w ∧ VRs φ l vs
  | [], l, h => by cases h; exact ⟨[], by simp, VRs.nil⟩
  | .tmp t :: rs, l, h => by
    simp only [resA] at h
    split at h
    case h_2 => cases h
    rename_i l' hl
    cases h
    obtain ⟨vs, h1, h2⟩ := resA_sound hR hT hl
    exact ⟨tm.getD t undef :: vs, by simp only [List.mapM_cons, resG, Sem.run_bind, Sem.run_pure, Result.andThen_ok, h1], VRs.cons (hT t) h2⟩
  | .cell p t :: rs, l, h => by
    simp only [resA] at h
    split at h
    case h_2 => cases h
    rename_i v l' hv hl
    cases h
    obtain ⟨vs, h1, h2⟩ := resA_sound hR hT hl
    obtain ⟨x, hx, hr⟩ := loadA_sound hR (hT p) hv
    obtain ⟨q, hq⟩ := loadA_addr (hT p) hv
    rw [hq] at hr
    have hr' : (loadVar t q).run P w = .ok x w := by simpa [Instr.loadAt, Instr.sureAddr] using hr
    exact ⟨x :: vs, by simp only [List.mapM_cons, resG, Sem.run_bind, hq, asAddr, Sem.run_pure, Result.andThen_ok, hr', h1], VRs.cons hx h2⟩
theorem results_sound (hR : R P G n0 φ H w) {fn : Func} {act : AAct} {tm : Array Value} (hT : ∀ i, VR φ (act.get i) (tm.getD i undef)) {l : List AV} (h : resA P G H act fn.results.toList = some l) :
    ∃ v, (results fn tm).run P w = .ok v w ∧ VR φ (match l with | [x] => x | vs => .tuple vs) v := by
  obtain ⟨vs, h1, h2⟩ := resA_sound hR hT h
  have hl := h2.length
  have hm : (fn.results.mapM (resG tm)).run P w = .ok vs.toArray w := by
    rw [Array.mapM_eq_mapM_toList, Sem.run_map, h1]; rfl
  refine ⟨if h : vs.toArray.size = 1 then vs.toArray[0] else .tuple vs.toArray, ?_, ?_⟩
  · rw [results_eq, Sem.run_bind, hm]; rfl
  · match l, vs, h2, hl with
    | [], [], h2, _ => exact ⟨_, rfl, h2⟩
    | [x], [v], h2, _ =>
      obtain ⟨y, ys, e, hy, _⟩ := h2
      cases e
      exact hy
    | x :: y :: l, u :: v :: vs, h2, _ =>
      have : ¬ ((u :: v :: vs).toArray.size = 1) := by simp
      rw [dif_neg this]
      exact ⟨_, rfl, h2⟩
theorem leaves_sound {fn : Func} {tm : Array Value} {Rr : Ending → World → Prop} : ∀ (bs : List Nat) (ds : List Deferred) (φ : Phi) (H H2 : AH) (w : World), DR φ bs ds → R P G n0 φ H w → shutA bs H = some H2 →
    (∀ u, Sim P G n0 φ H w φ H2 u → LeavesIn (wd none) 0 P fn tm Rr [] .returning u) → LeavesInM (wd none) 0 P fn tm Rr ds .returning w
  | [], ds, φ, H, H2, w, hD, hR, h, hk => by
    cases hD
    cases h
    exact hk w (Sim.refl hR)
  | b :: bs, ds, φ, H, H2, w, hD, hR, h, hk => by
    obtain ⟨c, m, rest, rfl, hb, hrest⟩ := hD
    simp only [shutA] at h
    split at h
    case h_2 => cases h
    rename_i hg
    obtain ⟨ao, o, g1, g2, g3, _⟩ := hR.obj b c m hb
    rw [hg] at g1; cases g1
    have g3' : o = .deferred (some []) := g3
    subst g3'
    have hs := hR.set (ao' := .defd false) (o := .deferred none) hb hg (by intro e; cases e) (by intro _ _ e; cases e) rfl (Upd.putObj _ (hR.lt hb).2)
    refine ⟨(by intro e; cases e), .inl ⟨c, w.putObj c (.deferred none), rfl, run_takeDeferred g2, ?_⟩⟩
    exact leaves_sound bs rest φ _ H2 _ hrest hs.r h fun u hu => hk u (hs.trans hu)
theorem callF_sound (hmix : P.follows .mixedOrders = true) {call : CallF} {rnd : RndF} (hC : CallOK P G n0 call) (hD : RndOK P G n0 rnd) (N : Nat) : CallOK P G n0 (callF P G call rnd N) := by
  intro f args H r K h
  unfold callF at h
  split at h
  · cases h
  rename_i fn c hbody
  refine ⟨⟨_, hbody⟩, fun φ w as_ hR hv => ?_⟩
  split at h
  · cases h
  rename_i hcond
  simp only [not_or, Nat.not_lt, Bool.not_eq_false] at hcond
  obtain ⟨hn1, hn2, hok⟩ := hcond
  unfold bodyOf at hbody
  split at hbody
  case h_2 => cases hbody
  rename_i fn' hfn
  split at hbody
  case h_2 => cases hbody
  rename_i cc hcc
  split at hbody
  · cases hbody
  cases hbody
  have hA := args_AR hv hn2 hn1
  have hfw : Fence.wide = wd none := rfl
  rw [hfw]
  have hgo : ∀ ex act' H1, codeTab c ⟨P, G, call, rnd, N, none⟩ (putAll ⟨fn.ntmps, .tip, []⟩ 0 args) H = some (ex, act', H1) → (exOf ex = .normal ∨ exOf ex = .ret) → outF P G fn act' H1 = some (r, K) →
      CallsIn (wd none) 0 P f as_ w (Ends P G n0 φ H w r K) := by
    intro ex act' H1 hc hex hout
    refine callsIn_of_wp_marks hfn hcc trivial ?_
    refine code_sound (P := P) (G := G) (C := ⟨P, G, call, rnd, N, none⟩) rfl rfl hmix hC hD c hok φ _ H ex act' H1 hc none _ w trivial hR hA _ fun ψ a' u hs hA' => ?_
    have hl : LeavesInM (wd none) 0 P fn a'.tmps (Ends P G n0 φ H w r K) a'.defers .returning u := by
      unfold outF at hout
      split at hout
      · cases hout
      rename_i H2 hsh
      refine leaves_sound act'.defs a'.defers ψ H1 H2 u hA'.df hs.r hsh fun u2 hs2 => ?_
      split at hout
      · rename_i v hres
        cases hout
        obtain ⟨x, h1, h2⟩ := results_sound hs2.r (fun i => hA'.tr.get i) hres
        exact ⟨x, h1, x, ψ, rfl, h2, hs.trans hs2⟩
      · rename_i vs hne hres
        cases hout
        obtain ⟨x, h1, h2⟩ := results_sound hs2.r (fun i => hA'.tr.get i) hres
        refine ⟨x, h1, x, ψ, rfl, ?_, hs.trans hs2⟩
        split at h2
        · exact absurd rfl (hne _)
        · exact h2
      · cases hout
    rcases hex with e | e <;> rw [e] <;> exact hl
  split at h
  · rename_i a1 H1 hc; exact hgo _ _ _ hc (.inl rfl) h
  · rename_i a1 H1 hc; exact hgo _ _ _ hc (.inr rfl) h
  · cases h
theorem putArgs_AR : ∀ (ps : List Tmp) (args : List AV) (as_ : List Value) (act : AAct) (a : Act), VRs φ args as_ → AR φ act a → ps.length = as_.length →
    AR φ (putArgs act ps args) { a with tmps := (ps.zip as_).foldl (fun tmps (p : Tmp × Value) => tmps.setIfInBounds p.1 p.2) a.tmps }
  | [], [], _, act, a, h, hA, _ => by cases h; exact hA
  | [], _ :: _, _, act, a, ⟨x, xs, e, _, _⟩, hA, hl => by subst e; simp at hl
  | _ :: _, [], _, act, a, h, hA, hl => by cases h; simp at hl
  | p :: ps, v :: args, _, act, a, ⟨x, xs, e, hv, hvs⟩, hA, hl => by
    subst e
    have h1 := hA.put (some p) hv
    exact putArgs_AR ps args xs (act.set p v) (a.put (some p) x) hvs h1 (by simpa using hl)
theorem roundF_sound (hmix : P.follows .mixedOrders = true) {call : CallF} {rnd : RndF} (hC : CallOK P G n0 call) (hD : RndOK P G n0 rnd) (N : Nat) : RndOK P G n0 (roundF P G call rnd N) := by
  intro l args H r K h φ w as_ c m hR hl hv
  unfold roundF at h
  split at h
  case h_2 => cases h
  rename_i rec hg
  split at h
  case isFalse => cases h
  rename_i hlen
  obtain ⟨ao, o, g1, g2, g3, _⟩ := hR.obj l c m hl
  rw [hg] at g1; cases g1
  obtain ⟨fn, tm, d, m', hd, rfl, hT, hok1, hok2⟩ := g3
  have hvl := hv.length
  simp only [Array.length_toList] at hvl
  refine ⟨_, g2, by show as_.size = rec.params.size; omega, ?_⟩
  split at h
  case h_2 => cases h
  rename_i a1 H1 hasg
  split at h
  case h_2 => cases h
  rename_i r1 hg1
  split at h
  case isFalse => cases h
  rename_i hready
  split at h
  case h_2 => cases h
  rename_i ex a2 H3 hbody
  split at h
  case h_2 => cases h
  rename_i r3 hg3
  cases h
  have hA0 : AR φ (putArgs ⟨rec.n, rec.tmps, []⟩ rec.params.toList args) { tmps := (rec.params.zip as_).foldl (fun tmps (t, a) => tmps.setIfInBounds t a) tm, defers := [] } := by
    have hA : AR φ ⟨rec.n, rec.tmps, []⟩ { tmps := tm, defers := [] } := ⟨hT, rfl⟩
    have := putArgs_AR rec.params.toList args as_.toList _ _ hv hA (by simp; omega)
    have e : (rec.params.zip as_).foldl (fun tmps (t, a) => tmps.setIfInBounds t a) tm = (rec.params.toList.zip as_.toList).foldl (fun tmps (p : Tmp × Value) => tmps.setIfInBounds p.1 p.2) tm := by
      rw [← Array.foldl_toList, Array.toList_zip]
    rw [e]
    exact this
  refine roundIn_of_wpIn (F := Fence.wide) trivial ?_
  show rec.assign.wpIn (wd (some c)) 0 P _ _ w
  refine code_sound (P := P) (G := G) (C := ⟨P, G, call, rnd, N, some l⟩) rfl rfl hmix hC hD rec.assign hok1 φ _ H _ _ _ hasg (some c) _ w ⟨m, hl⟩ hR hA0 _ fun ψ a' u hs hA' => ?_
  have hl1 := hs.le _ _ hl
  obtain ⟨ao, o, g1, g2', g3', _⟩ := hs.r.obj l c m hl1
  rw [hg1] at g1; cases g1
  obtain ⟨fn1, tm1, d1, m1, hd1, rfl, hT1, hok3, hok4⟩ := g3'
  have hbr := run_beginRound (P := P) g2' hready
  refine ⟨_, hbr, ?_⟩
  have hs1 : Sim P G n0 ψ H1 u ψ (H1.set l (.loop { r1 with state := .busy })) (u.putObj c (.loop { state := .busy, pending := r1.pending, fn := fn1, tmps := tm1, params := r1.params, assign := r1.assign, body := r1.body, defers := d1 })) :=
    hs.r.set hl1 hg1 (by intro e; cases e) (by intro _ _ e; cases e) ⟨fn1, tm1, d1, m1, hd1, rfl, hT1, hok3, hok4⟩ (Upd.putObj _ (hs.r.lt hl1).2)
  show rec.body.wpIn (wd (some c)) 0 P _ _ _
  refine code_sound (P := P) (G := G) (C := ⟨P, G, call, rnd, N, some l⟩) rfl rfl hmix hC hD rec.body hok2 ψ a1 _ _ _ _ hbody (some c) a' _ ⟨m, hl1⟩ hs1.r hA' _ fun χ a3 v hs2 hA3 => ?_
  have hl2 := hs2.le _ _ hl1
  obtain ⟨ao, o, g1, g2'', g3'', _⟩ := hs2.r.obj l c m hl2
  rw [hg3] at g1; cases g1
  obtain ⟨fn3, tm3, d3, m3, hd3, rfl, hT3, hok5, hok6⟩ := g3''
  have hend := run_endRound (P := P) (jumpOf ex) g2''
  have hs3 : Sim P G n0 χ H3 v χ (H3.set l (.loop { r3 with state := if (jumpOf ex).isNone then .ready else .done, pending := jumpOf ex })) (v.putObj c (.loop { state := if (jumpOf ex).isNone then .ready else .done, pending := jumpOf ex, fn := fn3, tmps := tm3, params := r3.params, assign := r3.assign, body := r3.body, defers := d3 })) :=
    hs2.r.set hl2 hg3 (by intro e; cases e) (by intro _ _ e; cases e) ⟨fn3, tm3, d3, m3, hd3, rfl, hT3, hok5, hok6⟩ (Upd.putObj _ (hs2.r.lt hl2).2)
  have hE : Ends P G n0 φ H w (.lit (.bool (jumpOf ex).isNone)) (H3.set l (.loop { r3 with state := if (jumpOf ex).isNone then .ready else .done, pending := jumpOf ex })) (.returned (.bool (jumpOf ex).isNone)) _ :=
    ⟨_, χ, rfl, rfl, hs.trans (hs1.trans (hs2.trans hs3))⟩
  cases ex with
  | normal => exact ⟨_, _, hend, hE⟩
  | ret => exact ⟨_, _, hend, hE⟩
  | exit id => exact ⟨_, _, hend, hE⟩
theorem den_sound (hmix : P.follows .mixedOrders = true) (N : Nat) : ∀ k, CallOK P G n0 (dCall P G N k) ∧ RndOK P G n0 (dRound P G N k)
  | 0 => ⟨fun f args H r K h => by simp [dCall] at h, fun l args H r K h => by simp [dRound] at h⟩
  | k + 1 => by
    obtain ⟨h1, h2⟩ := den_sound hmix N k
    have e1 : dCall P G N (k + 1) = callF P G (dCall P G N k) (dRound P G N k) N := by funext f args H; simp [dCall]
    have e2 : dRound P G N (k + 1) = roundF P G (dCall P G N k) (dRound P G N k) N := by funext f args H; simp [dRound]
    rw [e1, e2]
    exact ⟨callF_sound hmix h1 h2 N, roundF_sound hmix h1 h2 N⟩
mutual
theorem AV.VR_of {φ : Phi} : ∀ (a : AV) (x : Value), a.toV = some x → VR φ a x
  | .any, _, h => by simp [AV.toV] at h
  | .lit _, _, h => by simp [AV.toV] at h; subst h; exact rfl
  | .ptr _ _, _, h => by simp [AV.toV] at h
  | .gptr _ _, _, h => by simp [AV.toV] at h; subst h; exact rfl
  | .slice _ _ _ _, _, h => by simp [AV.toV] at h
  | .empty, _, h => by simp [AV.toV] at h
  | .map _, _, h => by simp [AV.toV] at h
  | .func _ _ _, _, h => by simp [AV.toV] at h
  | .yield _, _, h => by simp [AV.toV] at h
  | .iface t a, _, h => by
    simp only [AV.toV] at h
    split at h
    · rename_i z hz; cases h; exact ⟨z, rfl, AV.VR_of a z hz⟩
    · cases h
  | .agg cs, _, h => by
    simp only [AV.toV] at h
    split at h
    · rename_i z hz; cases h; exact ⟨_, rfl, by simpa using AV.VRs_of cs z hz⟩
    · cases h
  | .tuple cs, _, h => by
    simp only [AV.toV] at h
    split at h
    · rename_i z hz; cases h; exact ⟨_, rfl, by simpa using AV.VRs_of cs z hz⟩
    · cases h
theorem AV.VRs_of {φ : Phi} : ∀ (as_ : List AV) (l : List Value), AV.toVs as_ = some l → VRs φ as_ l
  | [], _, h => by simp [AV.toVs] at h; subst h; exact rfl
  | a :: as_, _, h => by
    simp only [AV.toVs] at h
    split at h
    · rename_i y ys hy hys; cases h; exact ⟨y, ys, rfl, AV.VR_of a y hy, AV.VRs_of as_ ys hys⟩
    · cases h
end
end
end
end Go.Proofs.YtlmglnobdcgbeaaGreat.D
namespace Go.Proofs.YtlmglnobdcgbeaaGreat.D
open Go Go.RowKit
noncomputable section
mutual
def AV.ren (f : Nat → Nat) : AV → AV
  | .ptr b o => .ptr (f b) o
  | .slice b o n c => .slice (f b) o n c
  | .map b => .map (f b)
  | .func g xs ys => .func g (AV.rens f xs) (AV.rens f ys)
  | .yield l => .yield (f l)
  | .iface t a => .iface t (AV.ren f a)
  | .agg cs => .agg (AV.rens f cs)
  | .tuple cs => .tuple (AV.rens f cs)
  | a => a
def AV.rens (f : Nat → Nat) : List AV → List AV
  | [] => []
  | a :: as_ => AV.ren f a :: AV.rens f as_
end
mutual
def AV.nms : AV → List Nat
  | .ptr b _ => [b]
  | .slice b _ _ _ => [b]
  | .map b => [b]
  | .func _ xs ys => AV.nmss xs ++ AV.nmss ys
  | .yield l => [l]
  | .iface _ a => AV.nms a
  | .agg cs => AV.nmss cs
  | .tuple cs => AV.nmss cs
  | _ => []
def AV.nmss : List AV → List Nat
  | [] => []
  | a :: as_ => AV.nms a ++ AV.nmss as_
end
mutual
theorem VR_ren {φ χ : Phi} {f : Nat → Nat} : ∀ (a : AV) (x : Value), (∀ b ∈ a.nms, ∀ y, φ (f b) = some y → χ b = some y) → VR φ (a.ren f) x → VR χ a x
  | .any, _, _, _ => trivial
  | .lit _, _, _, hv => hv
  | .ptr b _, _, h, ⟨c, m, h1, h2⟩ => ⟨c, m, h b (by simp [AV.nms]) _ h1, h2⟩
  | .gptr _ _, _, _, hv => hv
  | .slice b _ _ _, _, h, ⟨c, m, k, h1, h2⟩ => ⟨c, m, k, h b (by simp [AV.nms]) _ h1, h2⟩
  | .empty, _, _, hv => hv
  | .map b, _, h, ⟨c, m, h1, h2⟩ => ⟨c, m, h b (by simp [AV.nms]) _ h1, h2⟩
  | .func _ xs ys, _, h, ⟨as_, bs, h1, h2, h3⟩ => ⟨as_, bs, h1, VRs_ren xs _ (fun b hb => h b (by simp only [AV.nms, List.mem_append]; exact .inl hb)) h2, VRs_ren ys _ (fun b hb => h b (by simp only [AV.nms, List.mem_append]; exact .inr hb)) h3⟩
  | .yield b, _, h, ⟨c, m, h1, h2⟩ => ⟨c, m, h b (by simp [AV.nms]) _ h1, h2⟩
  | .iface _ a, _, h, ⟨y, h1, h2⟩ => ⟨y, h1, VR_ren a y h h2⟩
  | .agg cs, _, h, ⟨as_, h1, h2⟩ => ⟨as_, h1, VRs_ren cs _ h h2⟩
  | .tuple cs, _, h, ⟨as_, h1, h2⟩ => ⟨as_, h1, VRs_ren cs _ h h2⟩
theorem VRs_ren {φ χ : Phi} {f : Nat → Nat} : ∀ (as_ : List AV) (l : List Value), (∀ b ∈ AV.nmss as_, ∀ y, φ (f b) = some y → χ b = some y) → VRs φ (AV.rens f as_) l → VRs χ as_ l
  | [], _, _, hv => hv
  | a :: as_, _, h, ⟨x, xs, h1, h2, h3⟩ => ⟨x, xs, h1, VR_ren a x (fun b hb => h b (by simp only [AV.nmss, List.mem_append]; exact .inl hb)) h2, VRs_ren as_ xs (fun b hb => h b (by simp only [AV.nmss, List.mem_append]; exact .inr hb)) h3⟩
end
mutual
theorem AV.ren_id : ∀ a : AV, a.ren id = a
  | .any | .lit _ | .gptr _ _ | .empty => rfl
  | .ptr _ _ | .slice _ _ _ _ | .map _ | .yield _ => rfl
  | .func _ xs ys => by simp only [AV.ren, AV.rens_id]
  | .iface _ a => by simp only [AV.ren, AV.ren_id]
  | .agg cs => by simp only [AV.ren, AV.rens_id]
  | .tuple cs => by simp only [AV.ren, AV.rens_id]
theorem AV.rens_id : ∀ as_ : List AV, AV.rens id as_ = as_
  | [] => rfl
  | a :: as_ => by simp only [AV.rens, AV.ren_id, AV.rens_id]
end
mutual
theorem VR_one {φ χ : Phi} {h : Nat} (e : ∀ y, φ 0 = some y → χ h = some y) : ∀ (a : AV) (x : Value), (∀ b ∈ a.nms, b = 0) → VR φ a x → VR χ (a.ren fun _ => h) x
  | .any, _, _, _ => trivial
  | .lit _, _, _, hv => hv
  | .ptr b _, _, h0, ⟨c, m, h1, h2⟩ => ⟨c, m, e _ (by have := h0 b (by simp [AV.nms]); subst this; exact h1), h2⟩
  | .gptr _ _, _, _, hv => hv
  | .slice b _ _ _, _, h0, ⟨c, m, k, h1, h2⟩ => ⟨c, m, k, e _ (by have := h0 b (by simp [AV.nms]); subst this; exact h1), h2⟩
  | .empty, _, _, hv => hv
  | .map b, _, h0, ⟨c, m, h1, h2⟩ => ⟨c, m, e _ (by have := h0 b (by simp [AV.nms]); subst this; exact h1), h2⟩
  | .func _ xs ys, _, h0, ⟨as_, bs, h1, h2, h3⟩ => ⟨as_, bs, h1, VRs_one e xs _ (fun b hb => h0 b (by simp only [AV.nms, List.mem_append]; exact .inl hb)) h2, VRs_one e ys _ (fun b hb => h0 b (by simp only [AV.nms, List.mem_append]; exact .inr hb)) h3⟩
  | .yield b, _, h0, ⟨c, m, h1, h2⟩ => ⟨c, m, e _ (by have := h0 b (by simp [AV.nms]); subst this; exact h1), h2⟩
  | .iface _ a, _, h0, ⟨y, h1, h2⟩ => ⟨y, h1, VR_one e a y h0 h2⟩
  | .agg cs, _, h0, ⟨as_, h1, h2⟩ => ⟨as_, h1, VRs_one e cs _ h0 h2⟩
  | .tuple cs, _, h0, ⟨as_, h1, h2⟩ => ⟨as_, h1, VRs_one e cs _ h0 h2⟩
theorem VRs_one {φ χ : Phi} {h : Nat} (e : ∀ y, φ 0 = some y → χ h = some y) : ∀ (as_ : List AV) (l : List Value), (∀ b ∈ AV.nmss as_, b = 0) → VRs φ as_ l → VRs χ (AV.rens (fun _ => h) as_) l
  | [], _, _, hv => hv
  | a :: as_, _, h0, ⟨x, xs, h1, h2, h3⟩ => ⟨x, xs, h1, VR_one e a x (fun b hb => h0 b (by simp only [AV.nmss, List.mem_append]; exact .inl hb)) h2, VRs_one e as_ xs (fun b hb => h0 b (by simp only [AV.nmss, List.mem_append]; exact .inr hb)) h3⟩
end
def litsB : List AV → Bool
  | [] => true
  | .lit _ :: as_ => litsB as_
  | _ :: _ => false
theorem VRs_lits_of {φ χ : Phi} : ∀ (as_ : List AV) (l : List Value), litsB as_ = true → VRs φ as_ l → VRs χ as_ l
  | [], _, _, h => h
  | .lit _ :: as_, _, hb, ⟨x, xs, h1, h2, h3⟩ => ⟨x, xs, h1, h2, VRs_lits_of as_ xs hb h3⟩
  | .any :: _, _, hb, _ => by cases hb
  | .ptr _ _ :: _, _, hb, _ => by cases hb
  | .gptr _ _ :: _, _, hb, _ => by cases hb
  | .slice _ _ _ _ :: _, _, hb, _ => by cases hb
  | .empty :: _, _, hb, _ => by cases hb
  | .map _ :: _, _, hb, _ => by cases hb
  | .func _ _ _ :: _, _, hb, _ => by cases hb
  | .yield _ :: _, _, hb, _ => by cases hb
  | .iface _ _ :: _, _, hb, _ => by cases hb
  | .agg _ :: _, _, hb, _ => by cases hb
  | .tuple _ :: _, _, hb, _ => by cases hb
structure Sc where
  f : FuncId
  args : List AV
  mem : List (List AV × TypeId)
  res : AV
  new : Option (List AV × TypeId × Md)
def Sc.heapFrom : Nat → List (List AV × TypeId) → AH → Option AH
  | _, [], H => some H
  | k, (cs, e) :: l, H => match H.push (.cells cs e .ro) with | some K => Sc.heapFrom (k + 1) l K | none => none
def roAt (l : List (List AV × TypeId)) (H0 : AH) : Nat → Bool
  | 0 => true
  | i + 1 => (match H0.get i, l[i]? with | some ao, some (cs, e) => AO.same ao (.cells cs e .ro) && litsB cs | _, _ => false) && roAt l H0 i
def Sc.okB (s : Sc) (call : CallF) : Bool :=
  match Sc.heapFrom 0 s.mem ⟨0, .tip⟩ with
  | none => false
  | some H0 => decide (H0.size = s.mem.length) && roAt s.mem H0 s.mem.length && (AV.nmss s.args).all (fun b => decide (b < s.mem.length)) &&
    match call s.f s.args H0 with
    | none => false
    | some (r, K) => match s.new with
      | none => (AV.nms s.res).isEmpty && AV.same r s.res
      | some (cs, e, md) => match AV.nms r with
        | [p] => decide (AV.nms s.res = [0]) && AV.same r (s.res.ren fun _ => p) && litsB cs && (match K.get p with | some ao => AO.same ao (.cells cs e md) | none => false) && decide (md ≠ .ro)
        | _ => false
def memAt (l : List (List AV × TypeId)) (ns : List Nat) (H : AH) : Nat → Bool
  | 0 => true
  | i + 1 => (match ns[i]?, l[i]? with
    | some b, some (cs, e) => (match H.get b with | some (.cells cs' e' md) => AV.sames cs' cs && decide (e' = e) && decide (md ≠ .grow) | _ => false)
    | _, _ => false) && memAt l ns H i
def nodupB : List Nat → Bool
  | [] => true
  | a :: as_ => !as_.contains a && nodupB as_
theorem nodupB_spec : ∀ {l : List Nat}, nodupB l = true → l.Nodup
  | [], _ => List.nodup_nil
  | a :: as_, h => by
    simp only [nodupB, Bool.and_eq_true, Bool.not_eq_true', List.contains_eq_mem, decide_eq_false_iff_not] at h
    exact List.nodup_cons.2 ⟨h.1, nodupB_spec h.2⟩
def Sc.run (s : Sc) (args : List AV) (H : AH) : Option (AV × AH) :=
  let ns := AV.nmss args
  if nodupB ns && AV.sames args (AV.rens (fun i => ns.getD i 0) s.args) && decide (ns.length = s.mem.length) && memAt s.mem ns H s.mem.length then
    match s.new with
    | none => some (s.res, H)
    | some (cs, e, md) => match H.push (.cells cs e md) with
      | some K => some (s.res.ren fun _ => H.size, K)
      | none => none
  else none
section
variable {P : Program} {G : Glob}
theorem roAt_spec {l : List (List AV × TypeId)} {H0 : AH} : ∀ {n : Nat}, roAt l H0 n = true → ∀ i, i < n → ∃ cs e, l[i]? = some (cs, e) ∧ H0.get i = some (.cells cs e .ro) ∧ litsB cs = true
  | 0, _, i, hi => absurd hi (by omega)
  | n + 1, h, i, hi => by
    simp only [roAt, Bool.and_eq_true] at h
    rcases Nat.lt_or_ge i n with h1 | h1
    · exact roAt_spec h.2 i h1
    · obtain rfl : i = n := by omega
      obtain ⟨h2, _⟩ := h
      split at h2
      · rename_i ao cs e ha hl
        simp only [Bool.and_eq_true] at h2
        exact ⟨cs, e, hl, by rw [ha, AO.same_eq h2.1], h2.2⟩
      · cases h2
theorem memAt_spec {l : List (List AV × TypeId)} {ns : List Nat} {H : AH} : ∀ {n : Nat}, memAt l ns H n = true → ∀ i, i < n → ∃ b cs e md, ns[i]? = some b ∧ l[i]? = some (cs, e) ∧ H.get b = some (.cells cs e md) ∧ md ≠ .grow
  | 0, _, i, hi => absurd hi (by omega)
  | n + 1, h, i, hi => by
    simp only [memAt, Bool.and_eq_true] at h
    rcases Nat.lt_or_ge i n with h1 | h1
    · exact memAt_spec h.2 i h1
    · obtain rfl : i = n := by omega
      obtain ⟨h2, _⟩ := h
      split at h2
      · rename_i b cs e hb hl
        split at h2
        · rename_i cs' e' md hg
          simp only [Bool.and_eq_true, decide_eq_true_eq] at h2
          rw [AV.sames_eq _ _ h2.1.1, h2.1.2] at hg
          exact ⟨b, cs, e, md, hb, hl, hg, h2.2⟩
        · cases h2
      · cases h2
theorem Sc.sound (s : Sc) {call : CallF} (hc : ∀ n0, CallOK P G n0 call) (hok : s.okB call = true) (n0 : Nat) {args : List AV} {H : AH} {r : AV} {K : AH} (h : s.run args H = some (r, K)) :
    (∃ fc, bodyOf P s.f = some fc) ∧ ∀ φ w (as_ : Array Value), R P G n0 φ H w → VRs φ args as_.toList → CallsIn Fence.wide 0 P s.f as_ w (Ends P G n0 φ H w r K) := by
  unfold Sc.okB at hok
  split at hok
  · cases hok
  rename_i H0 hH0
  simp only [Bool.and_eq_true, decide_eq_true_eq] at hok
  obtain ⟨⟨⟨hsz, hro⟩, hnm⟩, hok⟩ := hok
  split at hok
  · cases hok
  rename_i r0 K0 hcall
  refine ⟨((hc n0) _ _ _ _ _ hcall).1, fun φ w as_ hR hv => ?_⟩
  unfold Sc.run at h
  simp only [] at h
  split at h
  case isFalse => cases h
  rename_i hcond
  simp only [Bool.and_eq_true, decide_eq_true_eq] at hcond
  obtain ⟨⟨⟨hnd, hargs⟩, hlen⟩, hmem⟩ := hcond
  have hnd' := nodupB_spec hnd
  have hargs' := AV.sames_eq _ _ hargs
  obtain ⟨ns, hns⟩ : ∃ ns, AV.nmss args = ns := ⟨_, rfl⟩
  rw [hns] at hlen hmem hargs' hnd'
  have hM := memAt_spec hmem
  have hRo := roAt_spec hro
  have hR0 : R P G w.heap.size (fun i => if i < s.mem.length then φ (ns.getD i 0) else none) H0 w := by
    refine ⟨fun i c m hi => ?_, fun i i' c m m' h1 h2 _ _ => ?_, Nat.le_refl _, fun g vs hg => ?_⟩
    · split at hi
      case isFalse => cases hi
      rename_i hlt
      obtain ⟨b, cs, e, md, hb, hl, hg, hmd⟩ := hM i hlt
      obtain ⟨cs', e', hl', hg0, hlit⟩ := hRo i hlt
      rw [hl] at hl'
      cases hl'
      have hbi : ns.getD i 0 = b := by simp [List.getD_eq_getElem?_getD, hb]
      rw [hbi] at hi
      obtain ⟨ao, o, g1, g2, g3, _⟩ := hR.obj b c m hi
      rw [hg] at g1
      cases g1
      obtain ⟨xs, fz, o1, o2, o3, o4, o5⟩ := g3
      exact ⟨_, o, hg0, g2, ⟨xs, fz, o1, o2, VRs_lits_of _ _ hlit o3, fun _ => o4 hmd, fun e => by cases e⟩, .inr ⟨_, _, rfl⟩⟩
    · split at h1
      case isFalse => cases h1
      split at h2
      case isFalse => cases h2
      rename_i hlt hlt'
      obtain ⟨b, cs, e, md, hb, _, hg, _⟩ := hM i hlt
      obtain ⟨b', cs', e', md', hb', _, hg', _⟩ := hM i' hlt'
      have hbi : ns.getD i 0 = b := by simp [List.getD_eq_getElem?_getD, hb]
      have hbi' : ns.getD i' 0 = b' := by simp [List.getD_eq_getElem?_getD, hb']
      rw [hbi] at h1
      rw [hbi'] at h2
      have e := hR.inj b b' c m m' h1 h2 (by rw [hg]; intro e; cases e) (by rw [hg']; intro e; cases e)
      subst e
      have l1 := (List.getElem?_eq_some_iff.1 hb)
      have l2 := (List.getElem?_eq_some_iff.1 hb')
      obtain ⟨l1, e1⟩ := l1
      obtain ⟨l2, e2⟩ := l2
      rw [List.nodup_iff_pairwise_ne, List.pairwise_iff_getElem] at hnd'
      rcases Nat.lt_trichotomy i i' with hlt2 | heq | hgt2
      · exact absurd (e1.trans e2.symm) (hnd' i i' l1 l2 hlt2)
      · exact heq
      · exact absurd (e2.trans e1.symm) (hnd' i' i l2 l1 hgt2)
    · obtain ⟨h1, h2⟩ := hR.glob g vs hg
      exact ⟨h1, Nat.lt_of_lt_of_le h2 hR.low⟩
  have hv0 : VRs (fun i => if i < s.mem.length then φ (ns.getD i 0) else none) s.args as_.toList := by
    rw [hargs'] at hv
    refine VRs_ren s.args _ (fun b hb y hy => ?_) hv
    have := List.all_eq_true.1 hnm b hb
    simp only [decide_eq_true_eq] at this
    simp only [this, if_true]
    exact hy
  have hrun := ((hc w.heap.size) _ _ _ _ _ hcall).2 _ w as_ hR0 hv0
  refine CallsIn.mono hrun ?_
  rintro e u ⟨v, ψ0, rfl, hvr, hs⟩
  have hbel := hs.bel
  split at h
  ·
    rename_i hnew
    rw [hnew] at hok
    simp only [Bool.and_eq_true, List.isEmpty_iff] at hok
    obtain ⟨hno, hsame⟩ := hok
    cases h
    have e1 := AV.same_eq _ _ hsame
    subst e1
    refine ⟨v, φ, rfl, VR_ren (f := id) _ _ (fun b hb => by rw [hno] at hb; cases hb) (by rw [AV.ren_id]; exact hvr), Phi.le_refl _, fun _ h _ => h, Nat.le_refl _, ?_, hbel.mono hR.low⟩
    refine ⟨fun b c m hb => ?_, hR.inj, Nat.le_trans hR.low hbel.size, fun g vs hg => ?_⟩
    · obtain ⟨ao, o, g1, g2, g3, g4⟩ := hR.obj b c m hb
      exact ⟨ao, o, g1, (hbel.block c (Array.getElem?_eq_some_iff.1 g2).1).trans g2, g3, g4⟩
    · obtain ⟨h1, h2⟩ := hR.glob g vs hg
      exact ⟨h1.of (hbel.block g (Nat.lt_of_lt_of_le h2 hR.low)), h2⟩
  · rename_i cs e md hnew
    rw [hnew] at hok
    simp only [] at hok
    split at hok
    case h_2 => cases hok
    rename_i p hp
    simp only [Bool.and_eq_true, decide_eq_true_eq] at hok
    obtain ⟨⟨⟨⟨hres, hsame⟩, hlit⟩, hKp⟩, hmd⟩ := hok
    split at hKp
    case h_2 => cases hKp
    rename_i ao0 hao0
    have hKp' := AO.same_eq hKp
    subst hKp'
    split at h
    case h_2 => cases h
    rename_i K' hpush
    cases h
    have e1 := AV.same_eq _ _ hsame
    subst e1
    have hKs := AH.push_size hpush
    have hKn := AH.push_new hpush
    have hKo := AH.get_push hpush
    let ψ : Phi := fun b => if b < H.size then φ b else if b = H.size then ψ0 p else none
    have hψ1 : ∀ b, b < H.size → ψ b = φ b := fun b hb => by simp only [ψ, if_pos hb]
    have hψ2 : ψ H.size = ψ0 p := by simp [ψ]
    have hψ3 : ∀ b, H.size < b → ψ b = none := fun b hb => by simp only [ψ]; rw [if_neg (by omega), if_neg (by omega)]
    have hle : φ.le ψ := fun b x hb => by rw [hψ1 b (hR.lt (m := x.2) (c := x.1) hb).1]; exact hb
    have hpnew : ∀ c m, ψ0 p = some (c, m) → w.heap.size ≤ c := fun c m hc => by
      obtain ⟨ao, o, g1, g2, g3, g4⟩ := hs.r.obj p c m hc
      rcases g4 with g4 | ⟨cs', e', g4⟩
      · exact g4
      · rw [hao0] at g1
        cases g1
        cases g4
        exact absurd rfl hmd
    refine ⟨v, ψ, rfl, ?_, hle, fun b hb hlt => by rw [hψ1 b hlt]; exact hb, by omega, ?_, hbel.mono hR.low⟩
    ·
      have : VR (fun b => if b = 0 then ψ0 p else none) s.res v := VR_ren (f := fun _ => p) (φ := ψ0) s.res v (fun b hb y hy => by
        rw [hres] at hb
        rw [List.mem_singleton.1 hb]
        exact hy) hvr
      exact VR_one (fun y hy => by rw [hψ2]; exact hy) _ _ (fun b hb => by rw [hres] at hb; exact List.mem_singleton.1 hb) this
    · refine ⟨fun b c m hb => ?_, fun b b' c m m' h1 h2 d1 d2 => ?_, Nat.le_trans hR.low hbel.size, fun g vs hg => ?_⟩
      · rcases Nat.lt_trichotomy b H.size with hlt | rfl | hgt
        · rw [hψ1 b hlt] at hb
          obtain ⟨ao, o, g1, g2, g3, g4⟩ := hR.obj b c m hb
          exact ⟨ao, o, (hKo b (by omega)).trans g1, (hbel.block c (Array.getElem?_eq_some_iff.1 g2).1).trans g2, g3.mono hle, g4⟩
        · rw [hψ2] at hb
          obtain ⟨ao, o, g1, g2, g3, g4⟩ := hs.r.obj p c m hb
          rw [hao0] at g1
          cases g1
          obtain ⟨xs, fz, o1, o2, o3, o4, o5⟩ := g3
          exact ⟨_, o, hKn, g2, ⟨xs, fz, o1, o2, VRs_lits_of _ _ hlit o3, o4, o5⟩, .inl (Nat.le_trans hR.low (hpnew c m hb))⟩
        · rw [hψ3 b hgt] at hb; cases hb
      · rcases Nat.lt_trichotomy b H.size with hlt | rfl | hgt
        · rcases Nat.lt_trichotomy b' H.size with hlt' | rfl | hgt'
          · rw [hψ1 b hlt] at h1
            rw [hψ1 b' hlt'] at h2
            exact hR.inj b b' c m m' h1 h2 (by rw [← hKo b (by omega)]; exact d1) (by rw [← hKo b' (by omega)]; exact d2)
          · rw [hψ1 b hlt] at h1
            rw [hψ2] at h2
            have := (hR.lt h1).2
            have := hpnew c m' h2
            omega
          · rw [hψ3 b' hgt'] at h2; cases h2
        · rcases Nat.lt_trichotomy b' H.size with hlt' | rfl | hgt'
          · rw [hψ2] at h1
            rw [hψ1 b' hlt'] at h2
            have := (hR.lt h2).2
            have := hpnew c m h1
            omega
          · rfl
          · rw [hψ3 b' hgt'] at h2; cases h2
        · rw [hψ3 b hgt] at h1; cases h1
      · obtain ⟨h1, h2⟩ := hR.glob g vs hg
        exact ⟨h1.of (hbel.block g (Nat.lt_of_lt_of_le h2 hR.low)), h2⟩
def withSc (l : List Sc) (call : CallF) : CallF := fun f args H =>
  match l.find? (fun s => decide (s.f = f)) with
  | some s => match s.run args H with
    | some p => some p
    | none => none
  | none => call f args H
theorem withSc_ok {l : List Sc} {call0 call : CallF} (hc : ∀ n0, CallOK P G n0 call0) (hl : ∀ s ∈ l, s.okB call0 = true) (n0 : Nat) (h1 : CallOK P G n0 call) : CallOK P G n0 (withSc l call) := by
  intro f args H r K h
  unfold withSc at h
  split at h
  · rename_i s hs
    have hm := List.mem_of_find?_eq_some hs
    have hf := List.find?_some hs
    simp only [decide_eq_true_eq] at hf
    subst hf
    split at h
    · rename_i q hq
      cases h
      exact s.sound hc (hl s hm) n0 hq
    · cases h
  · exact h1 f args H r K h
theorem den_calls_sc (hmix : P.follows .mixedOrders = true) {N k : Nat} {l : List Sc} (hl : ∀ s ∈ l, s.okB (dCall P G N k) = true) {f : FuncId} {args : List AV} {as_ : List Value} {v : Value} {K : AH} (ht : AV.toVs args = some as_)
    (h : callF P G (withSc l (dCall P G N k)) (dRound P G N k) N f args ⟨0, .tip⟩ = some (.lit v, K))
    (w : World) (hg : ∀ g vs, G g = some vs → GlobAt w g vs) : Calls P f as_.toArray w (fun e u => e = .returned v ∧ Below w.heap.size w u) := by
  have hR : R P G w.heap.size (fun _ => none) ⟨0, .tip⟩ w :=
    ⟨fun b c m hb => (by cases hb), fun b b' c m m' hb => (by cases hb), Nat.le_refl _, fun g vs hgv => ⟨hg g vs hgv, (by obtain ⟨_, _, _, he, _⟩ := hg g vs hgv; exact (Array.getElem?_eq_some_iff.1 he).1)⟩⟩
  have hd : ∀ n0, CallOK P G n0 (dCall P G N k) := fun n0 => (den_sound (P := P) (G := G) (n0 := n0) hmix N k).1
  have hd2 := (den_sound (P := P) (G := G) (n0 := w.heap.size) hmix N k).2
  have := ((callF_sound hmix (withSc_ok hd hl w.heap.size (hd _)) hd2 N) f args _ _ _ h).2 _ w as_.toArray hR (by simpa using AV.VRs_of args as_ ht)
  refine Calls.mono (callsIn_wide.1 this) fun e u he => ?_
  obtain ⟨x, ψ, rfl, hx, hs⟩ := he
  cases hx
  exact ⟨rfl, hs.bel⟩
end
end
end Go.Proofs.YtlmglnobdcgbeaaGreat.D
