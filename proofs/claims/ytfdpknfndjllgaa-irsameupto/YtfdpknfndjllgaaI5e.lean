/- Regions whose order is open: sound in every order. -/
import Derived.Test.YtfdpknfndjllgaaI5d
namespace Go.Idl
set_option linter.unusedVariables false
set_option linter.unusedSimpArgs false

theorem DL.cut {ι ι2 : Inj} {p : Nat} (hd : ∀ b i, ι2 b = some i → b < p) : ∀ {ds : List Dfr} {ds' ds2 : List Deferred}, DL ι ds ds' → DL ι2 ds ds2 → DL (Idl.cut ι p) ds ds'
  | [], [], _, _, _ => trivial
  | [], _ :: _, _, h, _ => h.elim
  | .fn f vs :: ds, [], _, h, _ => h.elim
  | .mark b :: ds, [], _, h, _ => h.elim
  | .fn f vs :: ds, d :: ds', [], _, h => h.elim
  | .mark b :: ds, d :: ds', [], _, h => h.elim
  | .fn f vs :: ds, d :: ds', d2 :: ds2, ⟨⟨cap, h1, h2⟩, h3⟩, ⟨⟨cap2, g1, g2⟩, g3⟩ => by
    refine ⟨⟨cap, h1, h2.1, fun k v v' e1 e2 => ?_⟩, DL.cut hd h3 g3⟩
    obtain ⟨u, _, hu⟩ := g2.get e1
    exact (h2.2 k v v' e1 e2).cut hd hu
  | .mark b :: ds, d :: ds', d2 :: ds2, ⟨⟨i, h1, h2⟩, h3⟩, ⟨⟨i2, g1, g2⟩, g3⟩ => ⟨⟨i, by rw [cut_lt (hd _ _ g1)]; exact h1, h2⟩, DL.cut hd h3 g3⟩

theorem DRep.cut {ι ι2 : Inj} {p : Nat} (hd : ∀ b i, ι2 b = some i → b < p) {d : Option (List Dfr)} {ds ds2 : List Deferred} (h : DRep ι d ds) (h2 : DRep ι2 d ds2) : DRep (Idl.cut ι p) d ds := by
  cases d with
  | none => exact h
  | some l => exact DL.cut hd h h2

theorem does_wpIn {P : Program} {F : Fence} (hfn : ∀ f, F.fn f) {n : Nat} {o : Oper} (hnd : ∀ c, o.op ≠ .defer c) {a : Act} {w w' : World} {v' : Value} {ρ : Operand → Value} (hdo : Does P ρ o.op w w' v') (hρ : execOp ρ o = execOp a.eval o)
    {next : Act → World → Prop} {Q : Exit → Act → World → Prop} (h : next (a.put o.dst v') w') : o.wpIn F n P a w next Q := by
  refine ⟨fun f _ => hfn f, ?_⟩
  rw [Oper.semAt_eq _ _ _ hnd, ← hρ]
  rcases hdo o rfl with h1 | ⟨h1, rfl⟩ <;> rw [h1] <;> exact h

theorem cstm_noSel {P : Program} {op : Op} {m : Stm} (h : cstm P op = some m) : ∀ cs b, op ≠ .select cs b := by
  intro cs b e
  subst e
  simp [cstm, cop] at h

section
variable {P : Program} {base : Nat} {w0 : World} {nt : Nat} {call : CallF} {ops : Array Oper} {l : List Step} {anc : List (List Nat)} {N : Nat} {σ : Nat → St} {F : Fence} {ι0 : Inj} {w1 : World}
variable {D : Nat → Bool} {c : Nat} {ι : Inj} {a : Act} {w : World}

theorem sim_empty (C : Nat → IC → Code → Prop) (base : Nat) (ι : Inj) (p : Nat) (hd : ∀ b i, ι b = some i → b < p) (w : World) : Sim C base ι (Heap.mk (fun _ => Option.none) p) w :=
  ⟨hd, fun _ _ => rfl, fun b o i h => by simp at h, fun b1 b2 i1 i2 _ hm => by simp [mine] at hm⟩

/-- What an operation names, at its time. -/
theorem Inv.masked (d : Draw P base w0 nt call ops l anc N σ F ι0 w1) (I : Inv P base w0 nt l anc N σ ι0 w1 D c ι a w) {i : Nat} (hi : i ≤ N) {o : Oper} {x : Step} (ho : ops[i]? = some o) (hx : l[i]? = some x)
    (hD : D i = false) (han : ∀ j ∈ anc.getD i [], D j = true) :
    ERep ι (maskE (namesAt ops o x) (σ i).e) (maskA (namesAt ops o x) a).tmps ∧ ERep (cut ι (σ i).h.next) (maskE (namesAt ops o x) (σ i).e) (maskA (namesAt ops o x) a).tmps := by
  have hl : i < l.length := (List.getElem?_eq_some_iff.1 hx).1
  have key : ∀ t ∈ namesAt ops o x, Rep ι ((σ i).e t) (a.tmps.getD t undef) := by
    intro t ht
    have := d.looks I.dN I.cl hi hl hD han (t := t) (by rw [nmAt_eq ho hx]; exact ht)
    rw [← this]; exact I.tmp t
  exact ⟨maskRep key, maskRep fun t ht => d.bounded hi (key t ht)⟩

/-- A heap to read from. -/
theorem Inv.readHeap (d : Draw P base w0 nt call ops l anc N σ F ι0 w1) (I : Inv P base w0 nt l anc N σ ι0 w1 D c ι a w) {i : Nat} (hi : i < N) {x : Step} (hx : l[i]? = some x) (hD : D i = false) (han : ∀ j ∈ anc.getD i [], D j = true)
    (hw : wantedE (σ i).e x.grd = true) (hk : kdStm x.stm = .R) (hloc : ∀ b, (locStm x.stm (σ i).e).blk? = some b → (σ i).h.get b ≠ Option.none) :
    ∃ K, Sim (CRel P) base ι K w ∧ sameAt (σ i).h K (locStm x.stm (σ i).e) := by
  have hcN := I.cN
  cases hb : (locStm x.stm (σ i).e).blk? with
  | none =>
    refine ⟨_, sim_empty _ _ _ (σ N).h.next (fun b j hj => I.bound d hj) w, ?_⟩
    cases hlc : locStm x.stm (σ i).e <;> rw [hlc] at hb <;> simp [Loc.blk?] at hb
    trivial
  | some b0 =>
    have hlt0 : b0 < (σ i).h.next := by
      rcases Nat.lt_or_ge b0 (σ i).h.next with h | h
      · exact h
      · exact (hloc b0 hb (d.vac (by omega) h)).elim
    -- a heap of one block
    have one : ∀ (B : Option Blk), (∀ ob bi, B = some ob → ι b0 = some bi → ∃ o', w.heap[bi.blk]? = some o' ∧ BRel (CRel P) base ι bi ob o') →
        Sim (CRel P) base ι (Heap.mk (fun b => if b = b0 then B else Option.none) (σ N).h.next) w := by
      intro B hB
      refine ⟨fun b j hj => I.bound d hj, fun b hb => ?_, fun b ob bi hg hbi => ?_, fun b1 b2 i1 i2 hne hm hl _ _ => ?_⟩
      · have := d.mono (show i ≤ N by omega) (Nat.le_refl _)
        simp only at hb ⊢
        rw [if_neg (by omega)]
      · simp only at hg
        split at hg
        · rename_i e; subst e; exact hB ob bi hg hbi
        · cases hg
      · exfalso
        have g1 := (live_some hm.live)
        have g2 := (live_some hl)
        obtain ⟨_, g1, _⟩ := g1
        obtain ⟨_, g2, _⟩ := g2
        simp only at g1 g2
        split at g1
        · split at g2
          · omega
          · cases g2
        · cases g1
    have sameOf : ∀ (h2 : Heap), sameAt (σ i).h h2 (locStm x.stm (σ i).e) → sameAt (σ i).h (Heap.mk (fun b => if b = b0 then h2.get b0 else Option.none) (σ N).h.next) (locStm x.stm (σ i).e) := by
      intro h2 hs
      cases hlc : locStm x.stm (σ i).e <;> rw [hlc] at hb hs <;> simp only [Loc.blk?, Option.some.injEq, reduceCtorEq] at hb
      · subst hb; simp only [sameAt] at hs ⊢; rw [hs]; simp [Heap.cells]
      · subst hb; simp only [sameAt] at hs ⊢; rw [hs]; simp
      · subst hb; simp only [sameAt] at hs ⊢; rw [hs]; simp [okSz]
    have sym : ∀ {h1 h2 : Heap} {lc : Loc}, sameAt h1 h2 lc → sameAt h2 h1 lc := by
      intro h1 h2 lc h
      cases lc <;> simp only [sameAt] at h ⊢
      · exact h.symm
      · exact h.symm
      · exact h.symm
    -- effects that have not been done and come ahead in the text
    have before : ∀ m, m ≤ i → c ≤ m → (∀ b, (locStm x.stm (σ i).e).blk? = some b → b < (σ m).h.next) → sameAt (σ i).h (σ m).h (locStm x.stm (σ i).e) := by
      intro m hm hcm hl
      refine sym (d.chain hm (by omega) hl fun k h1 h2 h3 => ?_)
      obtain ⟨ok, xk, _, hxk, _, _⟩ := d.step (show k < N by omega)
      have h3' := h3
      rw [kAt_eq hxk] at h3'
      rcases d.run.eRd k i xk x (Nat.zero_le _) (by omega) hi (by simpa using hxk) (by simpa using hx) (by split at h3' <;> simp_all) hw (by split at h3' <;> simp_all) hk with h | h
      · have := (I.lev k (by omega) h3).1 (han k h)
        omega
      · exact h
    cases hι : ι b0 with
    | none =>
      refine ⟨_, one ((σ i).h.get b0) fun ob bi _ h => (by rw [hι] at h; cases h), sameOf _ ?_⟩
      cases hlc : locStm x.stm (σ i).e <;> simp [sameAt]
    | some b0i =>
      by_cases hq : b0 < (σ c).h.next
      · refine ⟨_, one ((σ c).h.get b0) fun ob bi hg h => ?_, sameOf _ ?_⟩
        · obtain ⟨o', ho', hr⟩ := I.main.blk b0 ob bi hg (by rw [cut_lt hq]; exact h)
          exact ⟨o', ho', hr.mono (cut_le _ _)⟩
        · by_cases hci : c ≤ i
          · exact before c hci (Nat.le_refl _) fun b h => by rw [hb] at h; cases h; exact hq
          · refine d.chain (show i ≤ c by omega) hcN (fun b h => by rw [hb] at h; cases h; exact hlt0) fun k h1 h2 h3 => ?_
            obtain ⟨ok, xk, _, hxk, _, _⟩ := d.step (show k < N by omega)
            have hki : k ≠ i := by
              intro e
              subst e
              rw [kAt_eq hx, if_pos hw, hk] at h3; cases h3
            have h3' := h3
            rw [kAt_eq hxk] at h3'
            rcases d.run.rdE i k x xk (Nat.zero_le _) (by omega) (by omega) (by simpa using hx) (by simpa using hxk) hw (by split at h3' <;> simp_all) hk (by split at h3' <;> simp_all) with h | h
            · have := I.cl k ((I.lev k (by omega) h3).2 h2) i h
              rw [hD] at this; cases this
            · exact h
      · obtain ⟨j, hj, hA, hDj, hcj, hbj, _, o1, o2, h1, h2, h3, h4⟩ := I.side b0 b0i (by omega) hι
        have hj1 := d.nextA hj hA
        have hji : j < i := by
          rcases Nat.lt_trichotomy j i with h | h | h
          · exact h
          · subst h; rw [hD] at hDj; cases hDj
          · have := d.mono (show i ≤ j by omega) (by omega); omega
        refine ⟨_, one ((σ (j + 1)).h.get b0) fun ob bi hg h => ?_, sameOf _ ?_⟩
        · rw [h1] at hg; cases hg
          rw [hι] at h; cases h
          exact ⟨o2, h3, h4.mono (cut_le _ _)⟩
        · exact before (j + 1) (by omega) (by omega) fun b h => by rw [hb] at h; cases h; omega

theorem Draw.opStep (d : Draw P base w0 nt call ops l anc N σ F ι0 w1) (I : Inv P base w0 nt l anc N σ ι0 w1 D c ι a w) {i : Nat} (hi : i < N) (hD : D i = false) (han : ∀ j ∈ anc.getD i [], D j = true) {n : Nat} {K : Act → World → Prop} {Q : Exit → Act → World → Prop}
    (hK : ∀ c' ι' a' w', Inv P base w0 nt l anc N σ ι0 w1 (also D i) c' ι' a' w' → K a' w') : wpOpIn F n P ops Q i K a w := by
  obtain ⟨o, x, ho, hx, hst, hs⟩ := d.step hi
  have htop := d.top
  obtain ⟨hE, hEp⟩ := I.masked d (by omega) ho hx hD han
  obtain ⟨hdst, hstm, hdlt⟩ := cstep_spec hst
  have hwanted : Region.wanted o (yielded ops a.tmps) = wantedE (σ i).e x.grd := by
    have := wanted_spec hst hE
    rw [mask_wanted, maskE_wanted] at this
    exact this
  have hkAt := kAt_eq (σ := σ) hx
  unfold wpOpIn
  simp only [ho]
  rw [hwanted]
  unfold stepRes at hs
  by_cases hw : wantedE (σ i).e x.grd = true
  · rw [if_pos hw] at hs ⊢
    rw [if_pos hw] at hkAt
    have hsel := cstm_noSel hstm
    have heval : execOp (maskA (namesAt ops o x) a).eval o = execOp a.eval o := execOp_congr o hsel (mask_eval a)
    have hρ := opdRep_of (a := maskA (namesAt ops o x) a) hE
    have hρp := opdRep_of (a := maskA (namesAt ops o x) a) hEp
    by_cases hkE : kdStm x.stm = .E
    · -- an effect
      rw [hkE] at hkAt
      obtain ⟨hci, hpre, hno⟩ := I.ahead d (by omega) (by omega) hD han hkAt
      obtain ⟨hres, hown⟩ := I.restrict d hci (by omega) hno
      have hok : Ok P base w0 (cut ι (σ i).h.next) (σ i).h w := ⟨hres, I.size, I.old⟩
      have hdd : DRep (cut ι (σ i).h.next) (σ i).d a.defers := by
        obtain ⟨ι3, a3, w3, hk3, _, _, hD3⟩ := d.gh i (by omega)
        have : (σ i).d = (σ c).d := by
          have : ∀ m, c ≤ m → m ≤ i → (σ m).d = (σ c).d := by
            intro m
            induction m with
            | zero => intro h1 _; have : c = 0 := by omega
                      subst this; rfl
            | succ m ih =>
              intro h1 h2
              by_cases e : c = m + 1
              · subst e; rfl
              · rw [(d.quiet (show m < N by omega) (hno m (by omega) (by omega))).1]
                exact ih (by omega) (by omega)
          exact this i hci (Nat.le_refl _)
        have hh : DRep ι (σ i).d a.defers := by rw [this]; exact I.dfr
        exact hh.cut hk3.sim.dom hD3
      rcases istm_congr (maskE_ev (ops := ops) (o := o) (x := x) (σ i).e) hs with ⟨v, _, hs1, hs2⟩ | ⟨v, hv, _⟩
      case inr => cases hv
      refine wpIn_same (b := maskA (namesAt ops o x) a) (next' := fun a1 w' => ∀ v' ds, a1 = { (maskA (namesAt ops o x) a) with defers := ds }.put o.dst v' → K ({ a with defers := ds }.put o.dst v') w') (Q' := fun _ _ _ => False)
        hsel (mask_eval a) rfl (fun v' ds w' h => h v' ds rfl) (fun _ _ h => h.elim) (fun ⟨_, _, h⟩ => h.elim) ?_
      refine istm_sound d.hcall (d.hF.of (d.dSome (by omega))) hst hs2 hok (by simp [maskA, I.tsz]) hEp hdd (s := ⟨maskE (namesAt ops o x) (σ i).e, (σ i).h, (σ i).d⟩) ?_
      intro ι' a1 w' hk' he' hsz' hE' hD' v' ds hput
      subst hput
      have hval : ∀ t, x.dst = some t → Rep ι' ((σ (i + 1)).e t) v' := by
        intro t ht
        have h1 : (σ (i + 1)).e t = v := by rw [hs1]; simp [dstUpd, ht, upd]
        have h2 := hE' t
        have hod : o.dst = some t := by rw [← hdst, ht]
        have htl : t < (maskA (namesAt ops o x) a).tmps.size := by simp [maskA, I.tsz]; exact hdlt t hod
        simp only [ht, dstUpd, upd, if_true, Act.put, hod, Array.getD_eq_getD_getElem?, Array.getElem?_setIfInBounds_self_of_lt htl, Option.getD_some] at h2
        rw [h1]; exact h2
      obtain ⟨ι2, I2⟩ := I.effUp d hi ho hx hst hD han hkAt hk' he' (v' := v') (ds := ds) hval (by rw [put_defers] at hD'; exact hD')
      exact hK _ _ _ _ I2
    · -- an operation of the model's own
      have hq : ∃ q, x.stm = .op q := by
        cases hm : x.stm with
        | op q => exact ⟨q, rfl⟩
        | _ => rw [hm] at hkE; exact (hkE rfl).elim
      obtain ⟨q, hq⟩ := hq
      rw [hq] at hstm hs
      obtain ⟨hcop, hnd⟩ := cstm_op hstm
      simp only [istm] at hs
      split at hs
      case h_2 => cases hs
      rename_i v h' hi0
      simp only [Option.some.injEq, Prod.mk.injEq, true_and] at hs
      have hev : (σ (i + 1)).e = dstUpd (σ i).e x.dst v := by rw [← hs]
      have hh' : (σ (i + 1)).h = h' := by rw [← hs]
      have hiop := hi0
      rw [iop_congr (e' := maskE (namesAt ops o x) (σ i).e) (by have := maskE_ev (ops := ops) (o := o) (x := x) (σ i).e; rw [hq] at this; exact this)] at hiop
      have hvd : ∀ {ι' : Inj} {v' : Value}, Rep ι' v v' → ∀ t, x.dst = some t → Rep ι' ((σ (i + 1)).e t) v' := by
        intro ι' v' hr t ht
        rw [hev, ht]; simpa [dstUpd, upd] using hr
      have hkd : kdStm x.stm = kdOp q := by rw [hq]; rfl
      cases hkq : kdOp q with
      | E => exact (hkE (by rw [hkd, hkq])).elim
      | P =>
        have hk0 : kAt l σ i = .P := by rw [hkAt, hkd, hkq]
        obtain ⟨v', w', ι', hdo, hs', he', hl', hr'⟩ := cop_sound hcop (sim_empty (CRel P) base ι (σ N).h.next (fun b j hj => I.bound d hj) w) I.size hρ ((iop_P hkq hiop).2 _)
        obtain ⟨rfl, rfl⟩ := hl' (quiet_of_kd hcop (.inl hkq))
        exact does_wpIn d.hF.fn hnd hdo heval (hK _ _ _ _ (I.quietUp d hi ho hx hst hD han (by rw [hk0]; simp) (by rw [hk0]; simp) (hvd hr')))
      | R =>
        have hk0 : kAt l σ i = .R := by rw [hkAt, hkd, hkq]
        have hloc0 : locStm x.stm (σ i).e = locOp q (σ i).e := by rw [hq]; rfl
        obtain ⟨Kh, hsim, hsame⟩ := I.readHeap d hi hx hD han hw (by rw [hkd, hkq]) (by rw [hloc0]; exact iop_loc hkq hi0)
        have hi2 := (iop_R hkq hi0).2 Kh (by rw [← hloc0]; exact hsame)
        rw [iop_congr (e' := maskE (namesAt ops o x) (σ i).e) (by have := maskE_ev (ops := ops) (o := o) (x := x) (σ i).e; rw [hq] at this; exact this)] at hi2
        obtain ⟨v', w', ι', hdo, hs', he', hl', hr'⟩ := cop_sound hcop hsim I.size hρ hi2
        obtain ⟨rfl, rfl⟩ := hl' (quiet_of_kd hcop (.inr hkq))
        exact does_wpIn d.hF.fn hnd hdo heval (hK _ _ _ _ (I.quietUp d hi ho hx hst hD han (by rw [hk0]; simp) (by rw [hk0]; simp) (hvd hr')))
      | A =>
        have hk0 : kAt l σ i = .A := by rw [hkAt, hkd, hkq]
        obtain ⟨ob, hob, hmb, hall⟩ := iop_A hkq hiop
        have hob' : (σ (i + 1)).h = (σ i).h.new ob := by rw [hh', hob]
        obtain ⟨v', w', ι', hdo, hs', he', _, hr'⟩ := cop_sound hcop (sim_empty (CRel P) base (cut ι (σ i).h.next) (σ i).h.next (fun b j hj => (cut_some hj).1) w) I.size hρp (hall _ rfl)
        obtain ⟨ι2, I2⟩ := I.newUp d hi ho hx hst hD han hk0 hob' hmb hs' he' (hvd hr')
        exact does_wpIn d.hF.fn hnd hdo heval (hK _ _ _ _ I2)
  · rw [if_neg hw] at hs ⊢
    rw [if_neg hw] at hkAt
    simp only [Option.some.injEq, Prod.mk.injEq, true_and] at hs
    refine ⟨fun f _ => d.hF.fn f, hK _ _ _ _ (I.quietUp d hi ho hx hst hD han (by rw [hkAt]; simp) (by rw [hkAt]; simp) fun t ht => ?_)⟩
    rw [← hs]
    simp only [dstUpd, ht, upd, if_true]
    exact rep_undef

/-- The run's own effect on the whole, behind so much. -/
theorem Inv.post (d : Draw P base w0 nt call ops l anc N σ F ι0 w1) (I : Inv P base w0 nt l anc N σ ι0 w1 D c ι a w) {i : Nat} (hi : i ≤ N) (hown : ∀ r, r < w1.heap.size → Own (cut ι (σ i).h.next) (σ i).h r → Own ι0 (σ 0).h r) {ι' : Inj} {h' : Heap} {w' : World}
    (he : Ext (cut ι (σ i).h.next) (σ i).h w ι' h' w') : Ext ι0 (σ 0).h w1 ι' h' w' := by
  have hm := d.mono (Nat.zero_le i) hi
  have hw1 : w1.heap.size ≤ w.heap.size := I.keeps.size
  refine ⟨fun b j hb => he.inj b j ?_, I.keeps.step he.keeps.os he.keeps.tape he.keeps.output he.keeps.size fun k hk hn => he.keeps.block k (by omega) fun ho => hn (hown k hk ho), fun r hr ho => hown r hr (he.own r (by omega) ho), Nat.le_trans hm he.next, fun b j hb => ?_⟩
  · rw [cut_lt (Nat.lt_of_lt_of_le (d.start.sim.dom b j hb) hm)]; exact I.inj b j hb
  · rcases he.fresh b j hb with h | h
    · exact I.fresh b j (cut_some h).2
    · exact .inr (by omega)

/-- All done. -/
theorem Inv.done (d : Draw P base w0 nt call ops l anc N σ F ι0 w1) (I : Inv P base w0 nt l anc N σ ι0 w1 D c ι a w) (hall : ∀ i, i < N → D i = true) : ExPost P base w0 nt ι0 (σ 0).h w1 .normal (σ N) .normal a w := by
  have hcN := I.cN
  have hno : ∀ k, c ≤ k → k < N → kAt l σ k ≠ .E := fun k h1 h2 h3 => by
    have := (I.lev k h2 h3).1 (hall k h2); omega
  obtain ⟨hres, hown⟩ := I.restrict d hcN (Nat.le_refl _) hno
  have hc : cut ι (σ N).h.next = ι := cut_eq fun b j hb => I.bound d hb
  have hd : (σ N).d = (σ c).d := by
    have : ∀ m, c ≤ m → m ≤ N → (σ m).d = (σ c).d := by
      intro m
      induction m with
      | zero => intro h1 _; have : c = 0 := by omega
                subst this; rfl
      | succ m ih =>
        intro h1 h2
        by_cases e : c = m + 1
        · subst e; rfl
        · rw [(d.quiet (show m < N by omega) (hno m (by omega) (by omega))).1]
          exact ih (by omega) (by omega)
    exact this N hcN (Nat.le_refl _)
  have hpost := I.post d (Nat.le_refl _) hown (.refl _ _ _)
  rw [hc] at hres hpost
  refine ⟨ι, ⟨hres, I.size, I.old⟩, hpost, I.tsz, by rw [hd]; exact I.dfr, fun t => ?_⟩
  have := I.tmp t
  rw [d.mix_all N (Nat.le_refl _) fun j hj _ => hall j hj] at this
  exact this

/-- The operation that panics. -/
theorem Draw.panStep (d : Draw P base w0 nt call ops l anc N σ F ι0 w1) (I : Inv P base w0 nt l anc N σ ι0 w1 D c ι a w) (hN : N < l.length) {x : Step} (hx : l[N]? = some x) {v : Value} {s1 : St} (hs : stepRes call x (σ N) = some (some v, s1))
    (hD : D N = false) (han : ∀ j ∈ anc.getD N [], D j = true) {ds : List Nat} (hds : ∀ j t, writes l j t → t ∈ ds) {n : Nat} {K : Act → World → Prop} {Q : Exit → Act → World → Prop}
    (hQ : ∀ e a' w', ExPost P base w0 nt ι0 (σ 0).h w1 (.pan v) { s1 with e := forget (σ N).e ds } e a' w' → Q e a' w') : wpOpIn F n P ops Q N K a w := by
  have hNs : N < ops.size := by rw [← d.len]; exact hN
  obtain ⟨o, ho⟩ : ∃ o, ops[N]? = some o := ⟨_, Array.getElem?_eq_getElem hNs⟩
  have hst := d.st N o x ho hx
  obtain ⟨hE, hEp⟩ := I.masked d (Nat.le_refl _) ho hx hD han
  obtain ⟨hdst, hstm, hdlt⟩ := cstep_spec hst
  have hwanted : Region.wanted o (yielded ops a.tmps) = wantedE (σ N).e x.grd := by
    have := wanted_spec hst hE
    rw [mask_wanted, maskE_wanted] at this
    exact this
  unfold stepRes at hs
  by_cases hw : wantedE (σ N).e x.grd = true
  case neg => rw [if_neg hw] at hs; cases hs
  rw [if_pos hw] at hs
  have hkAt := kAt_eq (σ := σ) hx
  rw [if_pos hw] at hkAt
  have hkE : kdStm x.stm = .E := by
    cases hm : x.stm with
    | op q =>
      rw [hm] at hs
      simp only [istm] at hs
      split at hs <;> cases hs
    | _ => rfl
  rw [hkE] at hkAt
  obtain ⟨hci, hpre, hno⟩ := I.ahead d (Nat.le_refl _) hN hD han hkAt
  obtain ⟨hres, hown⟩ := I.restrict d hci (Nat.le_refl _) hno
  have hok : Ok P base w0 (cut ι (σ N).h.next) (σ N).h w := ⟨hres, I.size, I.old⟩
  have hsel := cstm_noSel hstm
  have hdd : DRep (cut ι (σ N).h.next) (σ N).d a.defers := by
    obtain ⟨ι3, a3, w3, hk3, _, _, hD3⟩ := d.gh N (Nat.le_refl _)
    have : (σ N).d = (σ c).d := by
      have : ∀ m, c ≤ m → m ≤ N → (σ m).d = (σ c).d := by
        intro m
        induction m with
        | zero => intro h1 _; have : c = 0 := by omega
                  subst this; rfl
        | succ m ih =>
          intro h1 h2
          by_cases e : c = m + 1
          · subst e; rfl
          · rw [(d.quiet (show m < N by omega) (hno m (by omega) (by omega))).1]
            exact ih (by omega) (by omega)
      exact this N hci (Nat.le_refl _)
    have hh : DRep ι (σ N).d a.defers := by rw [this]; exact I.dfr
    exact hh.cut hk3.sim.dom hD3
  unfold wpOpIn
  simp only [ho]
  rw [hwanted, if_pos hw]
  rcases istm_congr (maskE_ev (ops := ops) (o := o) (x := x) (σ N).e) hs with ⟨v1, hv1, _⟩ | ⟨v1, hv1, hs1, hs2⟩
  · cases hv1
  cases hv1
  refine wpIn_same (b := maskA (namesAt ops o x) a) (next' := fun _ _ => False) (Q' := fun e a1 w' => match e with | .panic c => a1 = maskA (namesAt ops o x) a → Q (.panic c) a w' | _ => False)
    hsel (mask_eval a) rfl (fun v' ds w' h => h.elim) (fun c w' h => h rfl) (fun ⟨_, _, h⟩ => h.elim) ?_
  refine istm_sound d.hcall (d.hF.of (d.dSome (Nat.le_refl _))) hst hs2 hok (by simp [maskA, I.tsz]) hEp hdd (s := ⟨maskE (namesAt ops o x) (σ N).e, (σ N).h, (σ N).d⟩) ?_
  intro e a1 w' hpost
  obtain ⟨ι', hk', he', hsz', hD', hex⟩ := hpost
  cases e <;> simp only [ExRel] at hex
  rename_i chain
  rcases chain with _ | ⟨c1, _ | _⟩
  · exact hex.elim
  · intro ha1
    subst ha1
    refine hQ _ _ _ ⟨ι', hk', I.post d (Nat.le_refl _) hown he', I.tsz, ?_, hex.1, hex.2.1, hex.2.2.1, fun j => ?_⟩
    · rw [hs1]; exact hD'
    · simp only [forget]
      split
      · exact .inl rfl
      · rename_i hj
        right
        have hnw : ∀ m t, t = j → ¬ writes l m t := fun m t ht hwm => hj (by subst ht; simpa using hds m t hwm)
        have h0 := I.tmp j
        rw [mix_none (k := 0) N (Nat.zero_le _) fun m _ _ hwm => (hnw m j rfl hwm).elim] at h0
        simp only [mixI] at h0
        have h1 : (σ N).e j = (σ 0).e j := by
          have := d.mix_all (D := fun _ => false) (t := j) N (Nat.le_refl _) fun m _ hwm => (hnw m j rfl hwm).elim
          rw [mix_none (k := 0) N (Nat.zero_le _) fun m _ _ hwm => (hnw m j rfl hwm).elim] at this
          exact this.symm
        rw [h1]
        have h2 := d.bounded (Nat.zero_le N) h0
        exact (h2.mono (cut_mono (.refl ι) (d.mono (Nat.zero_le N) (Nat.le_refl _)))).mono he'.inj
  · exact hex.elim

end

end Go.Idl
