/- Regions whose order is open: each operation, whenever it comes. -/
import Derived.Test.YtfdpknfndjllgaaI5c
namespace Go.Idl
set_option linter.unusedVariables false
set_option linter.unusedSimpArgs false

section
variable {P : Program} {base : Nat} {w0 : World} {nt : Nat} {call : CallF} {ops : Array Oper} {l : List Step} {anc : List (List Nat)} {N : Nat} {σ : Nat → St} {F : Fence} {ι0 : Inj} {w1 : World}
variable {D : Nat → Bool} {c : Nat} {ι : Inj} {a : Act} {w : World}

def also (D : Nat → Bool) (i : Nat) : Nat → Bool := fun j => if j = i then true else D j
theorem also_ne {D : Nat → Bool} {i j : Nat} (h : j ≠ i) : also D i j = D j := by simp [also, h]
theorem also_self {D : Nat → Bool} {i : Nat} : also D i i = true := by simp [also]
theorem also_of {D : Nat → Bool} {i j : Nat} (h : D j = true) : also D i j = true := by unfold also; split <;> simp_all
theorem also_false {D : Nat → Bool} {i j : Nat} (h : also D i j = false) : j ≠ i ∧ D j = false := by
  unfold also at h
  split at h
  · cases h
  · exact ⟨by assumption, h⟩

theorem Keeps.step {M : Nat → Prop} {a b c : World} (h : Keeps M a b) (h1 : c.os = b.os) (h2 : c.tape = b.tape) (h3 : c.output = b.output) (h4 : b.heap.size ≤ c.heap.size) (h5 : ∀ k, k < a.heap.size → ¬ M k → c.heap[k]? = b.heap[k]?) : Keeps M a c :=
  ⟨h1.trans h.os, h2.trans h.tape, h3.trans h.output, Nat.le_trans h.size h4, fun k hk hn => (h5 k hk hn).trans (h.block k hk hn)⟩

/-! ### The mask -/

def maskA (ns : List Nat) (a : Act) : Act := { a with tmps := a.tmps.mapIdx fun t v => if ns.contains t then v else undef }
def maskE (ns : List Nat) (e : Env) : Env := fun t => if ns.contains t then e t else undef

theorem maskA_get (ns : List Nat) (a : Act) (t : Nat) : (maskA ns a).tmps.getD t undef = if ns.contains t then a.tmps.getD t undef else undef := by
  simp only [maskA, Array.getD_eq_getD_getElem?, Array.getElem?_mapIdx]
  cases a.tmps[t]? <;> simp

theorem maskRep {ι : Inj} {ns : List Nat} {e : Env} {a : Act} (h : ∀ t ∈ ns, Rep ι (e t) (a.tmps.getD t undef)) : ERep ι (maskE ns e) (maskA ns a).tmps := by
  intro t
  rw [maskA_get]
  unfold maskE
  split
  · rename_i hc; exact h t (by simpa using hc)
  · exact rep_undef

theorem mask_eval {o : Oper} {x : Step} (a : Act) : ∀ y ∈ o.op.operands, (maskA (namesAt ops o x) a).eval y = a.eval y := by
  intro y hy
  cases y with
  | tmp t =>
    have : t ∈ namesAt ops o x := List.mem_append_left _ (List.mem_append_left _ (by
      unfold Oper.looksAt
      exact List.mem_append_left _ (List.mem_filterMap.2 ⟨.tmp t, by simpa using hy, rfl⟩)))
    simp only [Act.eval, maskA_get]
    simp [this]
  | const v => rfl
  | global g => rfl
  | func f => rfl

theorem mask_wanted {o : Oper} {x : Step} (a : Act) : Region.wanted o (yielded ops (maskA (namesAt ops o x) a).tmps) = Region.wanted o (yielded ops a.tmps) := by
  unfold Region.wanted
  cases hg : o.guard with
  | none => rfl
  | some gw =>
    obtain ⟨g, want⟩ := gw
    have hy : yielded ops (maskA (namesAt ops o x) a).tmps g = yielded ops a.tmps g := by
      unfold yielded
      cases ht : (ops[g]?).bind (·.dst) with
      | none => rfl
      | some t =>
        have hm : t ∈ namesAt ops o x := List.mem_append_left _ (List.mem_append_left _ (by
          unfold Oper.looksAt
          exact List.mem_append_right _ (by simp [hg, ht])))
        simp only [maskA, Option.bind_some, Array.getElem?_mapIdx]
        cases a.tmps[t]? <;> simp [hm]
    simp only [hy]

theorem maskE_ev {o : Oper} {x : Step} (e : Env) : ∀ y ∈ stmOpds x.stm, ev e y = ev (maskE (namesAt ops o x) e) y := by
  apply ev_congr
  intro t ht
  have : t ∈ namesAt ops o x := List.mem_append_right _ (List.mem_append_right _ ht)
  simp [maskE, this]

theorem maskE_wanted {o : Oper} {x : Step} (e : Env) : wantedE (maskE (namesAt ops o x) e) x.grd = wantedE e x.grd := by
  cases hg : x.grd with
  | none => rfl
  | some g =>
    obtain ⟨j, b⟩ := g
    have : j ∈ namesAt ops o x := List.mem_append_right _ (List.mem_append_left _ (by rw [hg]; simp))
    simp [wantedE, maskE, this]

/-! ### The temporaries behind an operation -/

theorem nmAt_eq {i : Nat} {o : Oper} {x : Step} (ho : ops[i]? = some o) (hx : l[i]? = some x) : nmAt ops l i = namesAt ops o x := by unfold nmAt; rw [ho, hx]

theorem Inv.tmpNext (d : Draw P base w0 nt call ops l anc N σ F ι0 w1) (I : Inv P base w0 nt l anc N σ ι0 w1 D c ι a w) {i : Nat} (hi : i < N) {o : Oper} {x : Step} (ho : ops[i]? = some o) (hx : l[i]? = some x) (hst : cstep P nt ops o = some x)
    (hD : D i = false) {ι' : Inj} (hle : ι.le ι') {v' : Value} (hv : ∀ t, x.dst = some t → Rep ι' ((σ (i + 1)).e t) v') (ds : List Deferred) :
    ∀ t, Rep ι' ((σ (mixI (also D i) l N t)).e t) (({ a with defers := ds }.put o.dst v').tmps.getD t undef) := by
  obtain ⟨hdst, _, hlt⟩ := cstep_spec hst
  intro t
  by_cases hw : writes l i t
  · have hxd : x.dst = some t := by unfold writes at hw; rw [hx] at hw; simpa using hw
    have htop := d.top
    have : mixI (also D i) l N t = i + 1 := by
      rw [mix_none (k := i + 1) N (by omega)]
      · simp only [mixI]
        rw [if_pos ⟨also_self, hw⟩]
      · intro j h1 h2 hwj
        rw [also_ne (by omega)]
        cases hDj : D j with
        | false => rfl
        | true =>
          have hm : t ∈ nmAt ops l i := by
            rw [nmAt_eq ho hx]
            exact List.mem_append_left _ (List.mem_append_right _ (by rw [hxd]; simp))
          have := I.cl j hDj i (d.pairT (show i < j by omega) (by omega) (.inr ⟨hwj, hm⟩))
          rw [hD] at this; cases this
    rw [this]
    have ht : t < a.tmps.size := by rw [I.tsz]; exact hlt t (by rw [← hdst, hxd])
    have hod : o.dst = some t := by rw [← hdst, hxd]
    simp only [Act.put, hod, Array.getD_eq_getD_getElem?, Array.getElem?_setIfInBounds_self_of_lt ht, Option.getD_some]
    exact hv t hxd
  · rw [mix_other (D := D) (i := i) (fun j hj => also_ne hj) hw]
    have : ({ a with defers := ds }.put o.dst v').tmps.getD t undef = a.tmps.getD t undef := by
      cases hod : o.dst with
      | none => rfl
      | some u =>
        have hne : u ≠ t := fun e => hw (by unfold writes; rw [hx]; simp [hdst, hod, e])
        simp [Act.put, Array.getElem?_setIfInBounds_ne hne]
    rw [this]
    exact (I.tmp t).mono hle

theorem Inv.lev' (I : Inv P base w0 nt l anc N σ ι0 w1 D c ι a w) {i : Nat} (hk : kAt l σ i ≠ .E) : ∀ k, k < N → kAt l σ k = .E → (also D i k = true ↔ k < c) := by
  intro k hkN hkE
  rw [also_ne (fun e => hk (by rw [← e]; exact hkE))]
  exact I.lev k hkN hkE
theorem Inv.cl' (I : Inv P base w0 nt l anc N σ ι0 w1 D c ι a w) {i : Nat} (han : ∀ j ∈ anc.getD i [], D j = true) : ∀ k, also D i k = true → ∀ j ∈ anc.getD k [], also D i j = true := by
  intro k hk j hj
  by_cases e : k = i
  · subst e; exact also_of (han j hj)
  · rw [also_ne e] at hk; exact also_of (I.cl k hk j hj)
theorem Inv.dN' (I : Inv P base w0 nt l anc N σ ι0 w1 D c ι a w) {i : Nat} (hi : i < N) : ∀ k, also D i k = true → k < N := by
  intro k hk
  by_cases e : k = i
  · omega
  · rw [also_ne e] at hk; exact I.dN k hk

/-- An operation that leaves the heap. -/
theorem Inv.quietUp (d : Draw P base w0 nt call ops l anc N σ F ι0 w1) (I : Inv P base w0 nt l anc N σ ι0 w1 D c ι a w) {i : Nat} (hi : i < N) {o : Oper} {x : Step} (ho : ops[i]? = some o) (hx : l[i]? = some x) (hst : cstep P nt ops o = some x)
    (hD : D i = false) (han : ∀ j ∈ anc.getD i [], D j = true) (hk : kAt l σ i ≠ .E) (hk2 : kAt l σ i ≠ .A) {v' : Value} (hv : ∀ t, x.dst = some t → Rep ι ((σ (i + 1)).e t) v') :
    Inv P base w0 nt l anc N σ ι0 w1 (also D i) c ι (a.put o.dst v') w :=
  { cN := I.cN, dN := I.dN' hi, lev := I.lev' hk, cl := I.cl' han, main := I.main
    side := fun b bi h1 h2 => by
      obtain ⟨j, h3, h4, h5, h6⟩ := I.side b bi h1 h2
      exact ⟨j, h3, h4, also_of h5, h6⟩
    dist := I.dist
    none := fun j h1 h2 h3 => I.none j h1 h2 (also_false h3).2
    size := I.size, old := I.old, tsz := by rw [put_size]; exact I.tsz
    tmp := I.tmpNext d hi ho hx hst hD (.refl ι) hv a.defers
    dfr := by rw [put_defers]; exact I.dfr
    inj := I.inj, keeps := I.keeps, own := I.own, fresh := I.fresh }

/-- New memory. -/
theorem Inv.newUp (d : Draw P base w0 nt call ops l anc N σ F ι0 w1) (I : Inv P base w0 nt l anc N σ ι0 w1 D c ι a w) {i : Nat} (hi : i < N) {o : Oper} {x : Step} (ho : ops[i]? = some o) (hx : l[i]? = some x) (hst : cstep P nt ops o = some x)
    (hD : D i = false) (han : ∀ j ∈ anc.getD i [], D j = true) (hA : kAt l σ i = .A) {ob : Blk} (hob : (σ (i + 1)).h = (σ i).h.new ob) (hmb : mineB ob = true) {ι' : Inj} {w' : World}
    (hs' : Sim (CRel P) base ι' ((Heap.mk (fun _ => Option.none) (σ i).h.next).new ob) w') (he : Ext (cut ι (σ i).h.next) (Heap.mk (fun _ => Option.none) (σ i).h.next) w ι' ((Heap.mk (fun _ => Option.none) (σ i).h.next).new ob) w')
    {v' : Value} (hv : ∀ t, x.dst = some t → Rep ι' ((σ (i + 1)).e t) v') :
    ∃ ι2, Inv P base w0 nt l anc N σ ι0 w1 (also D i) c ι2 (a.put o.dst v') w' := by
  have hnE : kAt l σ i ≠ .E := by rw [hA]; simp
  generalize hp : (σ i).h.next = p at *
  have hp1 : (σ (i + 1)).h.next = p + 1 := by rw [d.nextA hi hA, hp]
  have hgrew : Grew w w' := ⟨he.keeps.size, fun k hk => he.keeps.block k hk fun ⟨b, j, _, _, hm⟩ => by simp [mine] at hm⟩
  have hgetp : ((Heap.mk (fun _ => Option.none) p).new ob).get p = some ob := by simp [Heap.new]
  have hdom : ∀ b j, ι' b = some j → b < p + 1 := fun b j hb => hs'.dom b j hb
  have low : ∀ b, b < p → ι' b = ι b := by
    intro b hb
    cases h : ι b with
    | some j => exact he.inj b j (by rw [cut_lt hb]; exact h)
    | none =>
      cases h2 : ι' b with
      | none => rfl
      | some j =>
        rcases he.fresh b j h2 with h3 | h3
        · rw [cut_lt hb, h] at h3; cases h3
        · simp only at h3; omega
  have hιp : ι p = Option.none := by rw [← hp]; exact I.none i hi hA hD
  let ι2 : Inj := fun b => if b = p then ι' p else ι b
  have h2p : ι2 p = ι' p := by simp [ι2]
  have h2n : ∀ b, b ≠ p → ι2 b = ι b := fun b hb => by simp [ι2, hb]
  have hle : ι.le ι2 := fun b j hb => by
    by_cases e : b = p
    · subst e; rw [hιp] at hb; cases hb
    · rw [h2n b e]; exact hb
  have hle' : ι'.le ι2 := fun b j hb => by
    by_cases e : b = p
    · subst e; rw [h2p]; exact hb
    · have := hdom b j hb
      rw [h2n b e, ← low b (by omega)]; exact hb
  have hnew : ∀ j, ι' p = some j → w.heap.size ≤ j.blk ∧ ∃ o', w'.heap[j.blk]? = some o' ∧ BRel (CRel P) base ι' j ob o' := by
    intro j hj
    obtain ⟨o', ho', hr⟩ := hs'.blk p ob j hgetp hj
    refine ⟨?_, o', ho', hr⟩
    rcases Nat.lt_or_ge j.blk w.heap.size with h | h
    · obtain ⟨b, k, _, _, hm⟩ := he.own j.blk h ⟨p, j, hj, rfl, (mine_of hgetp).2 hmb⟩
      simp [mine] at hm
    · exact h
  have hw1 : w1.heap.size ≤ w.heap.size := I.keeps.size
  have sideOf : ∀ b bi, (σ c).h.next ≤ b → ι b = some bi → ∃ j, j < N ∧ kAt l σ j = .A ∧ also D i j = true ∧ c ≤ j ∧ b = (σ j).h.next ∧ w1.heap.size ≤ bi.blk ∧
      ∃ o o', (σ (j + 1)).h.get b = some o ∧ mineB o = true ∧ w'.heap[bi.blk]? = some o' ∧ BRel (CRel P) base (cut ι2 (b + 1)) bi o o' := by
    intro b bi h1 h2
    obtain ⟨j, h3, h4, h5, h6, h7, h8, o1, o2, h9, h10, h11, h12⟩ := I.side b bi h1 h2
    exact ⟨j, h3, h4, also_of h5, h6, h7, h8, o1, o2, h9, h10, by rw [hgrew.2 _ (Array.getElem?_eq_some_iff.1 h11).1]; exact h11, h12.mono (cut_mono hle (Nat.le_refl _))⟩
  have hcN := I.cN
  refine ⟨ι2, ?_⟩
  refine { cN := I.cN, dN := I.dN' hi, lev := I.lev' hnE, cl := I.cl' han, main := ?_, side := ?_, dist := ?_, none := ?_, size := Nat.le_trans I.size hgrew.1, old := ?_, tsz := by rw [put_size]; exact I.tsz,
           tmp := I.tmpNext d hi ho hx hst hD hle (fun t ht => (hv t ht).mono hle') a.defers, dfr := by rw [put_defers]; exact I.dfr.mono hle, inj := I.inj.trans hle,
           keeps := I.keeps.trans ⟨he.keeps.os, he.keeps.tape, he.keeps.output, hgrew.1, fun k hk _ => hgrew.2 k hk⟩, own := ?_, fresh := ?_ }
  · -- the heap of the level
    by_cases hci : c ≤ i
    · have hq := d.mono hci (by omega)
      have : cut ι2 (σ c).h.next = cut ι (σ c).h.next := by
        funext b
        unfold cut
        split
        · rw [h2n b (by omega)]
        · rfl
      rw [this]; exact I.main.grew hgrew
    · have hq : p + 1 ≤ (σ c).h.next := by rw [← hp1]; exact d.mono (by omega) hcN
      have hgp : (σ c).h.get p = some ob := by
        rw [d.chainGet (i := i + 1) (j := c) (by omega) hcN (by omega)]
        · rw [hob, ← hp]; exact new_get _ _
        · intro k h1 h2 h3
          obtain ⟨ok, xk, _, hxk, _, _⟩ := d.step (show k < N by omega)
          have hDk : D k = true := (I.lev k (by omega) h3).2 (by omega)
          have h3' := h3
          rw [kAt_eq hxk] at h3'
          have hA' := hA
          rw [kAt_eq hx] at hA'
          rcases d.run.nwE i k x xk (Nat.zero_le _) (by omega) (by omega) (by simpa using hx) (by simpa using hxk) (by split at hA' <;> simp_all) (by split at h3' <;> simp_all) (by split at hA' <;> simp_all) (by split at h3' <;> simp_all) with h | h
          · have := I.cl k hDk i h; rw [hD] at this; cases this
          · simp only [sameAt, hp] at h; exact h.symm
      refine ⟨fun b j hb => (cut_some hb).1, I.main.vac, ?_, ?_⟩
      · intro b o1 j hg hb
        obtain ⟨hlt, hb'⟩ := cut_some hb
        by_cases e : b = p
        · subst e
          rw [hgp] at hg; cases hg
          rw [h2p] at hb'
          obtain ⟨_, o', ho', hr⟩ := hnew j hb'
          exact ⟨o', ho', hr.mono fun b1 j1 h1 => by rw [cut_lt (by have := hdom b1 j1 h1; omega)]; exact hle' b1 j1 h1⟩
        · rw [h2n b e] at hb'
          obtain ⟨o', ho', hr⟩ := I.main.blk b o1 j hg (by rw [cut_lt hlt]; exact hb')
          exact ⟨o', by rw [hgrew.2 _ (Array.getElem?_eq_some_iff.1 ho').1]; exact ho', hr.mono (cut_mono hle (Nat.le_refl _))⟩
      · intro b1 b2 i1 i2 hne hm hl h1 h2
        obtain ⟨l1, k1⟩ := cut_some h1
        obtain ⟨l2, k2⟩ := cut_some h2
        by_cases e1 : b1 = p
        · have e2 : b2 ≠ p := fun e => hne (by rw [e1, e])
          rw [e1, h2p] at k1
          rw [h2n b2 e2] at k2
          have := (hnew i1 k1).1
          have := I.main.lt (by rw [cut_lt l2]; exact k2) hl
          omega
        · by_cases e2 : b2 = p
          · rw [e2, h2p] at k2
            rw [h2n b1 e1] at k1
            have := (hnew i2 k2).1
            have := I.main.lt (by rw [cut_lt l1]; exact k1) hm.live
            omega
          · rw [h2n b1 e1] at k1
            rw [h2n b2 e2] at k2
            exact I.main.inj b1 b2 i1 i2 hne hm hl (by rw [cut_lt l1]; exact k1) (by rw [cut_lt l2]; exact k2)
  · intro b bi h1 h2
    by_cases e : b = p
    · subst e
      rw [h2p] at h2
      obtain ⟨hge, o', ho', hr⟩ := hnew bi h2
      have hci : c ≤ i := by
        rcases Nat.lt_or_ge i c with h | h
        · have := d.mono (show i + 1 ≤ c by omega) hcN; omega
        · exact h
      refine ⟨i, hi, hA, also_self, hci, hp.symm, by omega, ob, o', by rw [hob, ← hp]; exact new_get _ _, hmb, ho', hr.mono fun b1 j1 h1 => ?_⟩
      rw [cut_lt (hdom b1 j1 h1)]; exact hle' b1 j1 h1
    · rw [h2n b e] at h2; exact sideOf b bi h1 h2
  · intro b bi b2 i2 h1 h2 h3 hne hl
    by_cases e1 : b = p
    · have e2 : b2 ≠ p := fun e => hne (by rw [e1, e])
      rw [e1, h2p] at h2
      rw [h2n b2 e2] at h3
      have := (hnew bi h2).1
      have := I.lt d h3 (fun hlt => hl.elim (fun h => by omega) id)
      omega
    · by_cases e2 : b2 = p
      · rw [h2n b e1] at h2
        rw [e2, h2p] at h3
        have := (hnew i2 h3).1
        have := I.lt d h2 (fun hlt => by omega)
        omega
      · rw [h2n b e1] at h2
        rw [h2n b2 e2] at h3
        exact I.dist b bi b2 i2 h1 h2 h3 hne hl
  · intro j h1 h2 h3
    obtain ⟨hji, hDj⟩ := also_false h3
    have hne : (σ j).h.next ≠ p := by
      have hj1 := d.nextA h1 h2
      rcases Nat.lt_or_ge j i with h | h
      · have := d.mono (show j + 1 ≤ i by omega) (by omega); omega
      · have := d.mono (show i + 1 ≤ j by omega) (by omega); omega
    rw [h2n _ hne]; exact I.none j h1 h2 hDj
  · intro k hk
    rw [hgrew.2 k (Nat.lt_of_lt_of_le hk I.size)]; exact I.old k hk
  · intro r hr ⟨b, bi, hb, hbr, hm⟩
    obtain ⟨hlt, hb'⟩ := cut_some hb
    by_cases e : b = p
    · rw [e, h2p] at hb'
      have := (hnew bi hb').1
      omega
    · rw [h2n b e] at hb'
      exact I.own r hr ⟨b, bi, by rw [cut_lt hlt]; exact hb', hbr, hm⟩
  · intro b bi hb
    by_cases e : b = p
    · right
      have := d.mono (Nat.zero_le i) (show i ≤ N by omega)
      omega
    · rw [h2n b e] at hb; exact I.fresh b bi hb

/-- All effects ahead of an effect that may come have been done. -/
theorem Inv.ahead (d : Draw P base w0 nt call ops l anc N σ F ι0 w1) (I : Inv P base w0 nt l anc N σ ι0 w1 D c ι a w) {i : Nat} (hi : i ≤ N) (hl : i < l.length) (hD : D i = false) (han : ∀ j ∈ anc.getD i [], D j = true) (hE : kAt l σ i = .E) :
    c ≤ i ∧ (∀ k, k < i → kAt l σ k = .E → D k = true) ∧ ∀ k, c ≤ k → k < i → kAt l σ k ≠ .E := by
  have h1 : ∀ k, k < i → kAt l σ k = .E → D k = true := fun k hk hkE => han k (d.pairE hk hl hkE hE)
  refine ⟨?_, h1, fun k hc hk hkE => ?_⟩
  · rcases Nat.lt_or_ge i c with h | h
    · have := I.cN
      have := (I.lev i (by omega) hE).2 h
      rw [hD] at this; cases this
    · exact h
  · have := (I.lev k (by omega) hkE).1 (h1 k hk hkE)
    omega

/-- An effect. -/
theorem Inv.effUp (d : Draw P base w0 nt call ops l anc N σ F ι0 w1) (I : Inv P base w0 nt l anc N σ ι0 w1 D c ι a w) {i : Nat} (hi : i < N) {o : Oper} {x : Step} (ho : ops[i]? = some o) (hx : l[i]? = some x) (hst : cstep P nt ops o = some x)
    (hD : D i = false) (han : ∀ j ∈ anc.getD i [], D j = true) (hE : kAt l σ i = .E) {ι' : Inj} {w' : World} (hk' : Ok P base w0 ι' (σ (i + 1)).h w') (he : Ext (cut ι (σ i).h.next) (σ i).h w ι' (σ (i + 1)).h w')
    {v' : Value} {ds : List Deferred} (hv : ∀ t, x.dst = some t → Rep ι' ((σ (i + 1)).e t) v') (hds : DRep ι' (σ (i + 1)).d ds) :
    ∃ ι2, Inv P base w0 nt l anc N σ ι0 w1 (also D i) (i + 1) ι2 ({ a with defers := ds }.put o.dst v') w' := by
  have htop := d.top
  obtain ⟨hci, hpre, hno⟩ := I.ahead d (by omega) (by omega) hD han hE
  obtain ⟨hres, hown⟩ := I.restrict d hci (by omega) hno
  have hs' := hk'.sim
  have hqp := d.mono hci (by omega)
  have hpq := d.nx i hi
  generalize hp : (σ i).h.next = p at *
  generalize hq' : (σ (i + 1)).h.next = q' at *
  have hdom : ∀ b j, ι' b = some j → b < q' := fun b j hb => by rw [← hq']; exact hs'.dom b j hb
  have gap : ∀ b bi, p ≤ b → b < q' → ι b = some bi → False := by
    intro b bi h1 h2 h3
    obtain ⟨j, hj, hA, hDj, hcj, rfl, _⟩ := I.side b bi (by omega) h3
    have hj1 := d.nextA hj hA
    rcases Nat.lt_trichotomy j i with h | h | h
    · have := d.mono (show j + 1 ≤ i by omega) (by omega); omega
    · subst h; rw [hE] at hA; cases hA
    · have := d.mono (show i + 1 ≤ j by omega) (by omega); omega
  let ι2 : Inj := fun b => if b < q' then ι' b else ι b
  have h2l : ∀ b, b < q' → ι2 b = ι' b := fun b hb => by simp [ι2, hb]
  have h2h : ∀ b, q' ≤ b → ι2 b = ι b := fun b hb => by simp only [ι2]; rw [if_neg (by omega)]
  have hle : ι.le ι2 := fun b j hb => by
    by_cases h : b < q'
    · rw [h2l b h]
      by_cases h' : b < p
      · exact he.inj b j (by rw [cut_lt h']; exact hb)
      · exact (gap b j (by omega) h hb).elim
    · rw [h2h b (by omega)]; exact hb
  have hle' : ι'.le ι2 := fun b j hb => by rw [h2l b (hdom b j hb)]; exact hb
  have hcut : cut ι2 q' = ι' := by
    funext b
    unfold cut
    split
    · rename_i h; exact h2l b h
    · cases hb : ι' b with
      | none => rfl
      | some j => have := hdom b j hb; omega
  have notOwn : ∀ b bi, q' ≤ b → ι b = some bi → ¬ Own (cut ι p) (σ i).h bi.blk := by
    intro b bi h1 h2 ⟨b2, i2, h3, h4, hm⟩
    obtain ⟨hlt, h3'⟩ := cut_some h3
    refine I.dist b bi b2 i2 (by omega) h2 h3' (by omega) ?_ h4.symm
    by_cases h : b2 < (σ c).h.next
    · right
      have := d.chainGet hci (show i ≤ N by omega) h fun k h1 h2 h3 => (hno k h1 h2 h3).elim
      have hl := hm.live
      rwa [live_congr this] at hl
    · exact .inl (by omega)
  have hlt : ∀ b bi, q' ≤ b → ι b = some bi → bi.blk < w.heap.size := fun b bi h1 h2 => I.lt d h2 (fun h => by omega)
  have same : ∀ b bi, q' ≤ b → ι b = some bi → w'.heap[bi.blk]? = w.heap[bi.blk]? := fun b bi h1 h2 => he.keeps.block _ (hlt b bi h1 h2) (notOwn b bi h1 h2)
  have hw1 : w1.heap.size ≤ w.heap.size := I.keeps.size
  refine ⟨ι2, ?_⟩
  refine { cN := by omega, dN := I.dN' hi, lev := ?_, cl := I.cl' han, main := by rw [hq', hcut]; exact hs', side := ?_, dist := ?_, none := ?_, size := hk'.size, old := hk'.old, tsz := by rw [put_size]; exact I.tsz,
           tmp := I.tmpNext d hi ho hx hst hD hle (fun t ht => (hv t ht).mono hle') ds, dfr := by rw [put_defers]; exact hds.mono hle', inj := I.inj.trans hle,
           keeps := I.keeps.step he.keeps.os he.keeps.tape he.keeps.output he.keeps.size ?_, own := ?_, fresh := ?_ }
  · intro k hk hkE
    by_cases e : k = i
    · subst e; exact ⟨fun _ => by omega, fun _ => also_self⟩
    · rw [also_ne e]
      refine ⟨fun h => ?_, fun h => hpre k (by omega) hkE⟩
      have := (I.lev k hk hkE).1 h
      omega
  · intro b bi h1 h2
    rw [hq'] at h1
    rw [h2h b h1] at h2
    obtain ⟨j, hj, hA, hDj, hcj, hbj, hw, o1, o2, h3, h4, h5, h6⟩ := I.side b bi (by omega) h2
    refine ⟨j, hj, hA, also_of hDj, ?_, hbj, hw, o1, o2, h3, h4, by rw [same b bi h1 h2]; exact h5, h6.mono (cut_mono hle (Nat.le_refl _))⟩
    have hj1 := d.nextA hj hA
    rcases Nat.lt_or_ge j (i + 1) with h | h
    · have := d.mono (show j + 1 ≤ i + 1 by omega) (by omega); omega
    · exact h
  · intro b bi b2 i2 h1 h2 h3 hne hl
    rw [hq'] at h1 hl
    rw [h2h b h1] at h2
    by_cases h : b2 < q'
    · rw [h2l b2 h] at h3
      obtain ⟨o2, ho2, hdead⟩ := live_some (hl.resolve_left (by omega))
      obtain ⟨o2', ho2', hr2⟩ := hs'.blk b2 o2 i2 ho2 h3
      cases hm : mineB o2 with
      | true =>
        intro heq
        have := he.own i2.blk (by rw [← heq]; exact hlt b bi h1 h2) ⟨b2, i2, h3, rfl, (mine_of ho2).2 hm⟩
        exact notOwn b bi h1 h2 (by rw [heq]; exact this)
      | false =>
        have := brel_other hr2 hm hdead
        obtain ⟨j, _, _, _, _, _, _, o1, o1', _, hm1, _, hr1⟩ := I.side b bi (by omega) h2
        have := brel_mine hr1 hm1
        omega
    · rw [h2h b2 (by omega)] at h3
      exact I.dist b bi b2 i2 (by omega) h2 h3 hne (.inl (by omega))
  · intro j h1 h2 h3
    obtain ⟨hji, hDj⟩ := also_false h3
    by_cases h : (σ j).h.next < q'
    · rw [h2l _ h]
      cases hb : ι' (σ j).h.next with
      | none => rfl
      | some bi =>
        exfalso
        rcases he.fresh _ bi hb with h4 | h4
        · have := (cut_some h4).2
          rw [I.none j h1 h2 hDj] at this; cases this
        · have hj1 := d.nextA h1 h2
          rcases Nat.lt_or_ge j i with h5 | h5
          · have := d.mono (show j + 1 ≤ i by omega) (by omega); omega
          · have := d.mono (show i + 1 ≤ j by omega) (by omega); omega
    · rw [h2h _ (by omega)]; exact I.none j h1 h2 hDj
  · intro k hk hn
    exact he.keeps.block k (by omega) fun ho => hn (hown k hk ho)
  · intro r hr ho
    rw [hq', hcut] at ho
    exact hown r hr (he.own r (by omega) ho)
  · intro b bi hb
    by_cases h : b < q'
    · rw [h2l b h] at hb
      rcases he.fresh b bi hb with h1 | h1
      · exact I.fresh b bi (cut_some h1).2
      · right
        have := d.mono (Nat.zero_le i) (show i ≤ N by omega)
        omega
    · rw [h2h b (by omega)] at hb; exact I.fresh b bi hb

end

end Go.Idl
