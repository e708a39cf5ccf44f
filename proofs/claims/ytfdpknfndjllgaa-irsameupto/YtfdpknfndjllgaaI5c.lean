/- Regions whose order is open: what holds when a part of the operations has been done. -/
import Derived.Test.YtfdpknfndjllgaaI5b
namespace Go.Idl
set_option linter.unusedVariables false
set_option linter.unusedSimpArgs false

def kAt (l : List Step) (σ : Nat → St) (k : Nat) : Kd :=
  match l[k]? with
  | some x => if wantedE (σ k).e x.grd then kdStm x.stm else .P
  | none => .P

def writes (l : List Step) (k t : Nat) : Prop := (l[k]?.bind (·.dst)) = some t

def nmAt (ops : Array Oper) (l : List Step) (i : Nat) : List Nat :=
  match ops[i]?, l[i]? with
  | some o, some x => namesAt ops o x
  | _, _ => []

/-- The data of a region's run. -/
structure Draw (P : Program) (base : Nat) (w0 : World) (nt : Nat) (call : CallF) (ops : Array Oper) (l : List Step) (anc : List (List Nat)) (N : Nat) (σ : Nat → St) (F : Fence) (ι0 : Inj) (w1 : World) : Prop where
  hcall : CallOk P base w0 call
  hF : FOk F (σ 0).d
  len : l.length = ops.size
  st : ∀ (i : Nat) o x, ops[i]? = some o → l[i]? = some x → cstep P nt ops o = some x
  ok : ∀ i j, i < j → j < l.length → pairOk ops l anc i j = true
  run : Run call anc l 0 N σ
  gh : ∀ i, i ≤ N → ∃ (ι : Inj) (a : Act) (w : World), Ok P base w0 ι (σ i).h w ∧ a.tmps.size = nt ∧ ERep ι (σ i).e a.tmps ∧ DRep ι (σ i).d a.defers
  nx : ∀ i, i < N → (σ i).h.next ≤ (σ (i + 1)).h.next
  start : Ok P base w0 ι0 (σ 0).h w1

section
variable {P : Program} {base : Nat} {w0 : World} {nt : Nat} {call : CallF} {ops : Array Oper} {l : List Step} {anc : List (List Nat)} {N : Nat} {σ : Nat → St} {F : Fence} {ι0 : Inj} {w1 : World}

theorem Draw.step (d : Draw P base w0 nt call ops l anc N σ F ι0 w1) {k : Nat} (hk : k < N) : ∃ o x, ops[k]? = some o ∧ l[k]? = some x ∧ cstep P nt ops o = some x ∧ stepRes call x (σ k) = some (none, σ (k + 1)) := by
  obtain ⟨x, hx, hs⟩ := d.run.step k (Nat.zero_le _) hk
  simp only [Nat.sub_zero] at hx
  have hlt : k < ops.size := by rw [← d.len]; exact (List.getElem?_eq_some_iff.1 hx).1
  exact ⟨_, x, Array.getElem?_eq_getElem hlt, hx, d.st k _ x (Array.getElem?_eq_getElem hlt) hx, hs⟩

theorem Draw.top (d : Draw P base w0 nt call ops l anc N σ F ι0 w1) : N ≤ l.length := by
  have := d.run.top; omega

theorem Draw.mono (d : Draw P base w0 nt call ops l anc N σ F ι0 w1) {i j : Nat} (hij : i ≤ j) (hj : j ≤ N) : (σ i).h.next ≤ (σ j).h.next := by
  induction j with
  | zero => have : i = 0 := by omega
            subst this; exact Nat.le_refl _
  | succ j ih =>
    by_cases e : i = j + 1
    · subst e; exact Nat.le_refl _
    · exact Nat.le_trans (ih (by omega) (by omega)) (d.nx j (by omega))

theorem stepRes_e {call : CallF} {x : Step} {s s' : St} (h : stepRes call x s = some (none, s')) : ∃ v, s'.e = dstUpd s.e x.dst v := by
  unfold stepRes at h
  split at h
  · obtain ⟨e, hp, d⟩ := s
    rcases istm_congr (e' := e) (fun _ _ => rfl) h with ⟨v, _, hs, _⟩ | ⟨v, hv, _⟩
    · exact ⟨v, by rw [hs]⟩
    · cases hv
  · cases h; exact ⟨undef, rfl⟩

/-- What an operation that is no effect does. -/
theorem stepRes_quiet {call : CallF} {x : Step} {s s' : St} (h : stepRes call x s = some (none, s')) (hk : (if wantedE s.e x.grd then kdStm x.stm else .P) ≠ .E) :
    s'.d = s.d ∧ ((if wantedE s.e x.grd then kdStm x.stm else .P) ≠ .A → s'.h = s.h) ∧ ((if wantedE s.e x.grd then kdStm x.stm else .P) = .A → ∃ o, s'.h = s.h.new o ∧ mineB o = true) := by
  unfold stepRes at h
  split at h
  · rename_i hw
    rw [if_pos hw] at hk ⊢
    cases hm : x.stm with
    | op q =>
      rw [hm] at h hk
      simp only [kdStm] at hk ⊢
      simp only [istm] at h
      split at h
      · rename_i v h' hi
        cases h
        cases hkd : kdOp q with
        | P => exact ⟨rfl, fun _ => (iop_P hkd hi).1, fun e => by cases e⟩
        | R => exact ⟨rfl, fun _ => (iop_R hkd hi).1, fun e => by cases e⟩
        | A => obtain ⟨o, h1, h2, _⟩ := iop_A hkd hi; exact ⟨rfl, fun e => (e rfl).elim, fun _ => ⟨o, h1, h2⟩⟩
        | E => exact (hk hkd).elim
      · cases h
    | _ => rw [hm] at hk; exact (hk rfl).elim
  · rename_i hw
    cases h
    refine ⟨rfl, fun _ => rfl, fun e => ?_⟩
    rw [if_neg hw] at e; cases e

theorem kAt_eq {k : Nat} {x : Step} (hx : l[k]? = some x) : kAt l σ k = if wantedE (σ k).e x.grd then kdStm x.stm else .P := by
  unfold kAt; rw [hx]

theorem Draw.env (d : Draw P base w0 nt call ops l anc N σ F ι0 w1) {k t : Nat} (hk : k < N) (hw : ¬ writes l k t) : (σ (k + 1)).e t = (σ k).e t := by
  obtain ⟨o, x, _, hx, _, hs⟩ := d.step hk
  obtain ⟨v, hv⟩ := stepRes_e hs
  rw [hv]
  unfold writes at hw
  rw [hx] at hw
  simp only [Option.bind_some] at hw
  cases hd : x.dst with
  | none => rfl
  | some u => rw [hd] at hw; simp only [dstUpd, upd]; rw [if_neg (fun e => hw (by rw [e]))]

theorem Draw.quiet (d : Draw P base w0 nt call ops l anc N σ F ι0 w1) {k : Nat} (hk : k < N) (he : kAt l σ k ≠ .E) :
    (σ (k + 1)).d = (σ k).d ∧ (kAt l σ k ≠ .A → (σ (k + 1)).h = (σ k).h) ∧ (kAt l σ k = .A → ∃ o, (σ (k + 1)).h = (σ k).h.new o ∧ mineB o = true) := by
  obtain ⟨o, x, _, hx, _, hs⟩ := d.step hk
  rw [kAt_eq hx] at he ⊢
  exact stepRes_quiet hs he

theorem Draw.dSome (d : Draw P base w0 nt call ops l anc N σ F ι0 w1) {k : Nat} (hk : k ≤ N) : (σ k).d.isSome = (σ 0).d.isSome := by
  induction k with
  | zero => rfl
  | succ k ih =>
    obtain ⟨o, x, _, hx, _, hs⟩ := d.step (show k < N by omega)
    rw [stepRes_d hs, ih (by omega)]

/-- A place stays as it is along operations that don't touch it. -/
theorem Draw.chain (d : Draw P base w0 nt call ops l anc N σ F ι0 w1) {i j : Nat} (hij : i ≤ j) (hj : j ≤ N) {lc : Loc} (hlt : ∀ b, lc.blk? = some b → b < (σ i).h.next)
    (he : ∀ k, i ≤ k → k < j → kAt l σ k = .E → sameAt (σ k).h (σ (k + 1)).h lc) : sameAt (σ i).h (σ j).h lc := by
  have tr : ∀ {a b c : Heap}, sameAt a b lc → sameAt b c lc → sameAt a c lc := by
    intro a b c h1 h2
    cases lc <;> simp only [sameAt] at *
    · exact h1.trans h2
    · exact h1.trans h2
    · exact h1.trans h2
  have rf : ∀ {a : Heap}, sameAt a a lc := by intro a; cases lc <;> simp [sameAt]
  have of : ∀ {a c : Heap}, (∀ b, lc.blk? = some b → a.get b = c.get b) → sameAt a c lc := by
    intro a c h
    cases lc with
    | cells b o n => have := h b rfl; simp [sameAt, Heap.cells, this]
    | blk b => exact h b rfl
    | sz b n => have := h b rfl; simp [sameAt, okSz, this]
    | none => trivial
  induction j with
  | zero => have : i = 0 := by omega
            subst this; exact rf
  | succ j ih =>
    by_cases e : i = j + 1
    · subst e; exact rf
    · refine tr (ih (by omega) (by omega) fun k h1 h2 => he k h1 (by omega)) ?_
      by_cases hE : kAt l σ j = .E
      · exact he j (by omega) (by omega) hE
      · obtain ⟨_, h1, h2⟩ := d.quiet (show j < N by omega) hE
        by_cases hA : kAt l σ j = .A
        · obtain ⟨o, ho, _⟩ := h2 hA
          rw [ho]
          refine of fun b hb => ?_
          have := hlt b hb
          have hm := d.mono (show i ≤ j by omega) (by omega)
          rw [new_get_ne _ _ (by omega)]
        · rw [h1 hA]; exact rf

theorem Draw.chainGet (d : Draw P base w0 nt call ops l anc N σ F ι0 w1) {i j b : Nat} (hij : i ≤ j) (hj : j ≤ N) (hlt : b < (σ i).h.next)
    (he : ∀ k, i ≤ k → k < j → kAt l σ k = .E → (σ (k + 1)).h.get b = (σ k).h.get b) : (σ j).h.get b = (σ i).h.get b :=
  (d.chain hij hj (lc := .blk b) (fun b' hb => by cases hb; exact hlt) fun k h1 h2 h3 => (he k h1 h2 h3).symm).symm

theorem Draw.vac (d : Draw P base w0 nt call ops l anc N σ F ι0 w1) {i b : Nat} (hi : i ≤ N) (hb : (σ i).h.next ≤ b) : (σ i).h.get b = none := by
  obtain ⟨_, _, _, hk, _⟩ := d.gh i hi
  exact hk.sim.vac b hb

/-- A value of the run's mentions only what there is. -/
theorem Draw.bounded (d : Draw P base w0 nt call ops l anc N σ F ι0 w1) {i t : Nat} (hi : i ≤ N) {ι : Inj} {v' : Value} (h : Rep ι ((σ i).e t) v') : Rep (cut ι (σ i).h.next) ((σ i).e t) v' := by
  obtain ⟨ι2, a, w, hk, _, hE, _⟩ := d.gh i hi
  exact h.cut hk.sim.dom (hE t)

theorem Draw.pairT (d : Draw P base w0 nt call ops l anc N σ F ι0 w1) {i j t : Nat} (hij : i < j) (hj : j < l.length) (hw : (writes l i t ∧ t ∈ nmAt ops l j) ∨ (writes l j t ∧ t ∈ nmAt ops l i)) : i ∈ anc.getD j [] := by
  have hp := d.ok i j hij hj
  unfold pairOk at hp
  have hi2 : i < ops.size := by rw [← d.len]; omega
  have hj2 : j < ops.size := by rw [← d.len]; omega
  unfold writes nmAt at hw
  rw [Array.getElem?_eq_getElem hi2, Array.getElem?_eq_getElem hj2, List.getElem?_eq_getElem hj, List.getElem?_eq_getElem (show i < l.length by omega)] at hp hw
  simp only [Bool.or_eq_true, Option.bind_some] at hp hw
  rcases hp with hp | hp
  · simpa using hp
  · exfalso
    simp only [Bool.and_eq_true] at hp
    rcases hw with ⟨h1, h2⟩ | ⟨h1, h2⟩
    · have := hp.1.1
      rw [h1] at this
      simp [h2] at this
    · have := hp.1.2
      rw [h1] at this
      simp [h2] at this

theorem Draw.pairE (d : Draw P base w0 nt call ops l anc N σ F ι0 w1) {i j : Nat} (hij : i < j) (hj : j < l.length) (h1 : kAt l σ i = .E) (h2 : kAt l σ j = .E) : i ∈ anc.getD j [] := by
  have hp := d.ok i j hij hj
  unfold pairOk at hp
  have hi2 : i < ops.size := by rw [← d.len]; omega
  have hj2 : j < ops.size := by rw [← d.len]; omega
  have hil : i < l.length := by omega
  have e1 := List.getElem?_eq_getElem hil
  have e2 := List.getElem?_eq_getElem hj
  rw [kAt_eq e1] at h1
  rw [kAt_eq e2] at h2
  rw [Array.getElem?_eq_getElem hi2, Array.getElem?_eq_getElem hj2, e1, e2] at hp
  simp only [Bool.or_eq_true] at hp
  rcases hp with hp | hp
  · simpa using hp
  · exfalso
    simp only [Bool.and_eq_true] at hp
    have k1 : kdStm l[i].stm = .E := by split at h1 <;> simp_all
    have k2 : kdStm l[j].stm = .E := by split at h2 <;> simp_all
    have := hp.2
    simp [k1, k2] at this

/-! ### The temporaries of a part -/

def mixI (D : Nat → Bool) (l : List Step) : Nat → Nat → Nat
  | 0, _ => 0
  | k + 1, t => if D k = true ∧ (l[k]?.bind (·.dst)) = some t then k + 1 else mixI D l k t

theorem mixI_le (D : Nat → Bool) (l : List Step) : ∀ (k t : Nat), mixI D l k t ≤ k
  | 0, _ => Nat.le_refl _
  | k + 1, t => by
    unfold mixI
    split
    · exact Nat.le_refl _
    · have := mixI_le D l k t; omega

theorem Draw.mix_all (d : Draw P base w0 nt call ops l anc N σ F ι0 w1) {D : Nat → Bool} {t : Nat} : ∀ k, k ≤ N → (∀ j, j < k → writes l j t → D j = true) → (σ (mixI D l k t)).e t = (σ k).e t
  | 0, _, _ => rfl
  | k + 1, hk, h => by
    unfold mixI
    split
    · rfl
    · rename_i hn
      rw [d.mix_all k (by omega) fun j hj => h j (by omega)]
      refine (d.env (show k < N by omega) fun hw => hn ⟨h k (by omega) hw, hw⟩).symm

theorem mix_none {D : Nat → Bool} {t k : Nat} : ∀ m, k ≤ m → (∀ j, k ≤ j → j < m → writes l j t → D j = false) → mixI D l m t = mixI D l k t
  | 0, hk, _ => by have : k = 0 := by omega
                   subst this; rfl
  | m + 1, hk, h => by
    by_cases e : k = m + 1
    · subst e; rfl
    · rw [show mixI D l (m + 1) t = if D m = true ∧ (l[m]?.bind (·.dst)) = some t then m + 1 else mixI D l m t from rfl]
      rw [if_neg (fun hn => by rw [h m (by omega) (by omega) hn.2] at hn; cases hn.1), mix_none m (by omega) fun j h1 h2 => h j h1 (by omega)]

theorem mix_other {D D' : Nat → Bool} {i t : Nat} (hD : ∀ j, j ≠ i → D' j = D j) (hw : ¬ writes l i t) : ∀ m, mixI D' l m t = mixI D l m t
  | 0 => rfl
  | m + 1 => by
    unfold mixI
    rw [mix_other hD hw m]
    by_cases e : m = i
    · subst e
      rw [if_neg (fun h => hw h.2), if_neg (fun h => hw h.2)]
    · rw [hD m e]

/-- What an operation looks at is what it is in the order of the text. -/
theorem Draw.looks (d : Draw P base w0 nt call ops l anc N σ F ι0 w1) {D : Nat → Bool} (hN : ∀ j, D j = true → j < N) (hcl : ∀ j, D j = true → ∀ k ∈ anc.getD j [], D k = true) {i : Nat} (hi : i ≤ N) (hl : i < l.length) (hD : D i = false)
    (han : ∀ j ∈ anc.getD i [], D j = true) {t : Nat} (ht : t ∈ nmAt ops l i) : (σ (mixI D l N t)).e t = (σ i).e t := by
  rw [mix_none (k := i) N hi, d.mix_all i hi]
  · intro j hj hw
    exact han j (d.pairT hj hl (.inl ⟨hw, ht⟩))
  · intro j h1 h2 hw
    cases hDj : D j with
    | false => rfl
    | true =>
      by_cases e : j = i
      · subst e; rw [hD] at hDj; cases hDj
      · have htop := d.top
        have := hcl j hDj i (d.pairT (show i < j by omega) (by omega) (.inr ⟨hw, ht⟩))
        rw [hD] at this; cases this

/-! ### What holds -/

structure Inv (P : Program) (base : Nat) (w0 : World) (nt : Nat) (l : List Step) (anc : List (List Nat)) (N : Nat) (σ : Nat → St) (ι0 : Inj) (w1 : World) (D : Nat → Bool) (c : Nat) (ι : Inj) (a : Act) (w : World) : Prop where
  cN : c ≤ N
  dN : ∀ i, D i = true → i < N
  lev : ∀ k, k < N → kAt l σ k = .E → (D k = true ↔ k < c)
  cl : ∀ i, D i = true → ∀ j ∈ anc.getD i [], D j = true
  main : Sim (CRel P) base (cut ι (σ c).h.next) (σ c).h w
  side : ∀ b i, (σ c).h.next ≤ b → ι b = some i → ∃ j, j < N ∧ kAt l σ j = .A ∧ D j = true ∧ c ≤ j ∧ b = (σ j).h.next ∧ w1.heap.size ≤ i.blk ∧
    ∃ o o', (σ (j + 1)).h.get b = some o ∧ mineB o = true ∧ w.heap[i.blk]? = some o' ∧ BRel (CRel P) base (cut ι (b + 1)) i o o'
  dist : ∀ b i b2 i2, (σ c).h.next ≤ b → ι b = some i → ι b2 = some i2 → b2 ≠ b → ((σ c).h.next ≤ b2 ∨ live (σ c).h b2) → i.blk ≠ i2.blk
  none : ∀ j, j < N → kAt l σ j = .A → D j = false → ι (σ j).h.next = Option.none
  size : base ≤ w.heap.size
  old : ∀ k, k < base → w.heap[k]? = w0.heap[k]?
  tsz : a.tmps.size = nt
  tmp : ∀ t, Rep ι ((σ (mixI D l N t)).e t) (a.tmps.getD t undef)
  dfr : DRep ι (σ c).d a.defers
  inj : ι0.le ι
  keeps : Keeps (Own ι0 (σ 0).h) w1 w
  own : ∀ r, r < w1.heap.size → Own (cut ι (σ c).h.next) (σ c).h r → Own ι0 (σ 0).h r
  fresh : ∀ b i, ι b = some i → ι0 b = some i ∨ (σ 0).h.next ≤ b

variable {D : Nat → Bool} {c : Nat} {ι : Inj} {a : Act} {w : World}

theorem cut_eq {ι : Inj} {p : Nat} (h : ∀ b i, ι b = some i → b < p) : cut ι p = ι := by
  funext b
  unfold cut
  split
  · rfl
  · cases hb : ι b with
    | none => rfl
    | some i => have := h b i hb; omega

/-- At the beginning. -/
theorem Draw.begin (d : Draw P base w0 nt call ops l anc N σ F ι0 w1) {a : Act} (hsz : a.tmps.size = nt) (hE : ERep ι0 (σ 0).e a.tmps) (hD : DRep ι0 (σ 0).d a.defers) : Inv P base w0 nt l anc N σ ι0 w1 (fun _ => false) 0 ι0 a w1 := by
  have hc : cut ι0 (σ 0).h.next = ι0 := cut_eq d.start.sim.dom
  refine ⟨Nat.zero_le _, by simp, by simp, by simp, by rw [hc]; exact d.start.sim, ?_, ?_, ?_, d.start.size, d.start.old, hsz, ?_, hD, .refl _, .refl _ _, ?_, fun b i h => .inl h⟩
  · intro b i hb hi; have := d.start.sim.dom b i hi; omega
  · intro b i b2 i2 hb hi; have := d.start.sim.dom b i hi; omega
  · intro j hj hk _
    cases hb : ι0 (σ j).h.next with
    | none => rfl
    | some i =>
      have := d.start.sim.dom _ i hb
      have := d.mono (Nat.zero_le j) (by omega)
      omega
  · intro t
    have : mixI (fun _ => false) l N t = 0 := by
      rw [mix_none (k := 0) N (Nat.zero_le _) (fun _ _ _ _ => rfl)]; rfl
    rw [this]; exact hE t
  · intro r _ h; rw [hc] at h; exact h

theorem Inv.bound (d : Draw P base w0 nt call ops l anc N σ F ι0 w1) (I : Inv P base w0 nt l anc N σ ι0 w1 D c ι a w) {b : Nat} {i : BI} (hb : ι b = some i) : b < (σ N).h.next := by
  by_cases h : b < (σ c).h.next
  · exact Nat.lt_of_lt_of_le h (d.mono I.cN (Nat.le_refl _))
  · obtain ⟨j, hj, hA, _, _, rfl, _⟩ := I.side b i (by omega) hb
    obtain ⟨o, ho, _⟩ := (d.quiet hj (by rw [hA]; simp)).2.2 hA
    have h1 : (σ (j + 1)).h.next = (σ j).h.next + 1 := by rw [ho]; rfl
    have h2 := d.mono (show j + 1 ≤ N by omega) (Nat.le_refl _)
    omega

theorem Draw.nextA (d : Draw P base w0 nt call ops l anc N σ F ι0 w1) {j : Nat} (hj : j < N) (hA : kAt l σ j = .A) : (σ (j + 1)).h.next = (σ j).h.next + 1 := by
  obtain ⟨o, ho, _⟩ := (d.quiet hj (by rw [hA]; simp)).2.2 hA
  rw [ho]; rfl

theorem Inv.lt (d : Draw P base w0 nt call ops l anc N σ F ι0 w1) (I : Inv P base w0 nt l anc N σ ι0 w1 D c ι a w) {b : Nat} {i : BI} (hb : ι b = some i) (hl : b < (σ c).h.next → live (σ c).h b) : i.blk < w.heap.size := by
  by_cases h : b < (σ c).h.next
  · exact I.main.lt (by rw [cut_lt h]; exact hb) (hl h)
  · obtain ⟨_, _, _, _, _, _, _, o, o', _, _, ho, _⟩ := I.side b i (by omega) hb
    exact (Array.getElem?_eq_some_iff.1 ho).1

/-- The state ahead of an operation, all effects ahead of it done: as in the order of the text, but for what is not made yet. -/
theorem Inv.restrict (d : Draw P base w0 nt call ops l anc N σ F ι0 w1) (I : Inv P base w0 nt l anc N σ ι0 w1 D c ι a w) {i : Nat} (hci : c ≤ i) (hi : i ≤ N) (hno : ∀ k, c ≤ k → k < i → kAt l σ k ≠ .E) :
    Sim (CRel P) base (cut ι (σ i).h.next) (σ i).h w ∧ ∀ r, r < w1.heap.size → Own (cut ι (σ i).h.next) (σ i).h r → Own ι0 (σ 0).h r := by
  have hq := d.mono hci hi
  -- blocks
  have low : ∀ b, b < (σ c).h.next → (σ i).h.get b = (σ c).h.get b := fun b hb => d.chainGet hci hi hb fun k h1 h2 h3 => (hno k h1 h2 h3).elim
  have high : ∀ b bi, (σ c).h.next ≤ b → b < (σ i).h.next → ι b = some bi → ∃ o o', (σ i).h.get b = some o ∧ mineB o = true ∧ w1.heap.size ≤ bi.blk ∧ w.heap[bi.blk]? = some o' ∧ BRel (CRel P) base (cut ι (b + 1)) bi o o' := by
    intro b bi h1 h2 h3
    obtain ⟨j, hj, hA, hDj, hcj, rfl, hw1, o, o', ho, hm, hw, hr⟩ := I.side b bi h1 h3
    have hji : j < i := by
      rcases Nat.lt_or_ge j i with h | h
      · exact h
      · have := d.mono h (by omega); omega
    refine ⟨o, o', ?_, hm, hw1, hw, hr⟩
    rw [d.chainGet (i := j + 1) (j := i) (by omega) hi (by rw [d.nextA hj hA]; omega) fun k h1 h2 h3 => (hno k (by omega) h2 h3).elim]
    exact ho
  refine ⟨⟨fun b bi hb => (cut_some hb).1, fun b hb => d.vac hi hb, ?_, ?_⟩, ?_⟩
  · intro b o bi hg hb
    obtain ⟨hlt, hι⟩ := cut_some hb
    by_cases h : b < (σ c).h.next
    · rw [low b h] at hg
      obtain ⟨o', ho', hr⟩ := I.main.blk b o bi hg (by rw [cut_lt h]; exact hι)
      exact ⟨o', ho', hr.mono (cut_mono (.refl ι) hq)⟩
    · obtain ⟨o1, o', h1, _, _, h2, h3⟩ := high b bi (by omega) hlt hι
      rw [hg] at h1; cases h1
      exact ⟨o', h2, h3.mono (cut_mono (.refl ι) (by omega))⟩
  · intro b1 b2 i1 i2 hne hm hl h1 h2
    obtain ⟨g1, k1⟩ := cut_some h1
    obtain ⟨g2, k2⟩ := cut_some h2
    by_cases e1 : b1 < (σ c).h.next
    · by_cases e2 : b2 < (σ c).h.next
      · exact I.main.inj b1 b2 i1 i2 hne (by rwa [mine_congr (low b1 e1)] at hm) (by rwa [live_congr (low b2 e2)] at hl) (by rw [cut_lt e1]; exact k1) (by rw [cut_lt e2]; exact k2)
      · exact (I.dist b2 i2 b1 i1 (by omega) k2 k1 hne (.inr (by have := hm.live; rwa [live_congr (low b1 e1)] at this))).symm
    · refine I.dist b1 i1 b2 i2 (by omega) k1 k2 (Ne.symm hne) ?_
      by_cases e2 : b2 < (σ c).h.next
      · exact .inr (by rwa [live_congr (low b2 e2)] at hl)
      · exact .inl (by omega)
  · intro r hr ⟨b, bi, hb, hbr, hm⟩
    obtain ⟨hlt, hι⟩ := cut_some hb
    by_cases h : b < (σ c).h.next
    · exact I.own r hr ⟨b, bi, by rw [cut_lt h]; exact hι, hbr, by rwa [mine_congr (low b h)] at hm⟩
    · obtain ⟨_, _, _, _, hw1, _⟩ := high b bi (by omega) hlt hι
      omega

end

end Go.Idl
