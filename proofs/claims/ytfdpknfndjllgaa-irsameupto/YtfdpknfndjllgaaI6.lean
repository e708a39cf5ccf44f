/- Code: what the ideal code comes to, the model's comes to. -/
import Derived.Test.YtfdpknfndjllgaaI5f
import Derived.Scope
import Derived.LoopNIn
namespace Go.Idl
set_option linter.unusedVariables false
set_option linter.unusedSimpArgs false

variable {P : Program} {base : Nat} {w0 : World}

theorem iops_d {call : CallF} : ∀ {l : List Step} {s s' : St} {r : Option Value}, iops call l s = some (r, s') → s'.d.isSome = s.d.isSome
  | [], s, s', r, h => by simp only [iops, Option.some.injEq, Prod.mk.injEq] at h; rw [← h.2]
  | x :: rest, s, s', r, h => by
    rw [iops_cons] at h
    cases hs : stepRes call x s with
    | none => rw [hs] at h; cases h
    | some q =>
      obtain ⟨r1, s1⟩ := q
      rw [hs] at h
      have := stepRes_d hs
      cases r1 with
      | none => rw [iops_d h, this]
      | some v => simp only [Option.some.injEq, Prod.mk.injEq] at h; rw [← h.2, this]

theorem idraw_d {call : CallF} {anc : List (List Nat)} {ds : List Nat} {l : List Step} {s s' : St} {r : Option Value} (h : idraw call anc ds l 0 [] [] s = some (r, s')) : s'.d.isSome = s.d.isSome := by
  obtain ⟨σ, N, h0, hrun, _, hend⟩ := idraw_run h
  have : ∀ i, i ≤ N → (σ i).d.isSome = s.d.isSome := by
    intro i
    induction i with
    | zero => intro _; rw [h0]
    | succ i ih =>
      intro hi
      obtain ⟨x, _, hx⟩ := hrun.step i (Nat.zero_le _) (by omega)
      rw [stepRes_d hx, ih (by omega)]
  cases r with
  | none => obtain ⟨_, rfl⟩ := hend; exact this N (Nat.le_refl _)
  | some v =>
    obtain ⟨x, s1, _, _, h3, rfl, _⟩ := hend
    have := this N (Nat.le_refl _)
    rw [← this, ← stepRes_d h3]

theorem loopCode_d {f : IC → St → Option (Ex × St)} {b : IC} (hf : ∀ {s x s'}, f b s = some (x, s') → s'.d.isSome = s.d.isSome) : ∀ {n : Nat} {s s' : St} {x : Ex}, loopCode f b n s = some (x, s') → s'.d.isSome = s.d.isSome
  | 0, _, _, _, h => by cases h
  | n + 1, s, s', x, h => by
    simp only [loopCode] at h
    split at h
    · rename_i s1 h1; rw [loopCode_d hf h, hf h1]
    · exact hf h

theorem icode_d {call : CallF} {n : Nat} : ∀ {ic : IC} {s s' : St} {x : Ex}, icode call n ic s = some (x, s') → s'.d.isSome = s.d.isSome := by
  intro ic
  induction ic with
  | skip => intro s s' x h; simp only [icode, Option.some.injEq, Prod.mk.injEq] at h; rw [← h.2]
  | exit id => intro s s' x h; simp only [icode, Option.some.injEq, Prod.mk.injEq] at h; rw [← h.2]
  | ret => intro s s' x h; simp only [icode, Option.some.injEq, Prod.mk.injEq] at h; rw [← h.2]
  | ops l =>
    intro s s' x h
    simp only [icode] at h
    cases hr : iops call l s with
    | none => rw [hr] at h; cases h
    | some rs => obtain ⟨r, s2⟩ := rs; rw [hr] at h; rw [exOf_fst h]; exact iops_d hr
  | draw l anc =>
    intro s s' x h
    simp only [icode] at h
    cases hr : idraw call anc (l.filterMap (·.dst)) l 0 [] [] s with
    | none => rw [hr] at h; cases h
    | some rs => obtain ⟨r, s2⟩ := rs; rw [hr] at h; rw [exOf_fst h]; exact idraw_d hr
  | seq a b iha ihb =>
    intro s s' x h
    simp only [icode] at h
    split at h
    · rename_i s1 h1; rw [ihb h, iha h1]
    · exact iha h
  | cond c a b iha ihb =>
    intro s s' x h
    simp only [icode] at h
    split at h
    · exact iha h
    · exact ihb h
    · cases h
  | block id b ih =>
    intro s s' x h
    simp only [icode] at h
    split at h
    · rename_i i s1 h1
      split at h <;> (simp only [Option.some.injEq, Prod.mk.injEq] at h; rw [← h.2]; exact ih h1)
    · exact ih h
  | loop b ih =>
    intro s s' x h
    simp only [icode] at h
    exact loopCode_d (f := fun _ s => icode call n b s) (fun h => ih h) h
  | rangeF f ps asg body _ _ =>
    intro s s' x h
    simp only [icode] at h
    repeat' (split at h)
    all_goals first
      | (cases h; done)
      | (simp only [Option.some.injEq, Prod.mk.injEq] at h; rw [← h.2]; simp [*])

section
variable {F : Fence} {n : Nat} {Q : Exit → Act → World → Prop} {a : Act} {w : World}

theorem stepR_scope {b : Frame} {k : List Item} {cs : List Frame} {c : Code} : step P (lone (b.atR a (.code (.scope c) :: k)) cs w) = .next (lone (b.atR a (.code c :: .inScope c :: k)) cs w) :=
  step_lone_go (by simp [stepG, stepG.exec, Frame.atR])
theorem stepR_inScope {b : Frame} {k : List Item} {cs : List Frame} {c : Code} : step P (lone (b.atR a (.inScope c :: k)) cs w) = .next (lone (b.atR a k) cs w) :=
  step_lone_go (by simp [stepG, stepG.exec, Frame.atR])

theorem wpIn_scope {c : Code} (h : c.wpIn F n P (Exit.noGoto Q) a w) : (Code.scope c).wpIn F n P Q a w := by
  intro b k cs hro hb hr
  have h0 : (lone (b.atR a (.code (.scope c) :: k)) cs w).fenced P F := fenced_calm hb hr rfl
  obtain ⟨e, a₁, w₁, hq, harr⟩ := h b (.inScope c :: k) cs hro hb hr
  cases e with
  | normal => exact ⟨.normal, a₁, w₁, hq, .head h0 stepR_scope (StepsIn.trans harr (.one (fenced_calm hb hr rfl) stepR_inScope))⟩
  | exit id =>
    have hx : exitTo id (.inScope c :: k) = exitTo id k := by simp [exitTo]
    exact ⟨.exit id, a₁, w₁, hq, fun k' hk => .head h0 stepR_scope (harr.1 k' (by rw [hx]; exact hk)),
      fun hr' hk => let ⟨k₁, h1, h2⟩ := harr.2 hr' (by rw [hx]; exact hk); ⟨k₁, h1, .head h0 stepR_scope h2⟩⟩
  | goto l => exact hq.elim
  | ret => exact ⟨_, a₁, w₁, hq, .of_steps (.one h0 stepR_scope) harr⟩
  | panic ch => exact ⟨_, a₁, w₁, hq, .of_steps (.one h0 stepR_scope) harr⟩
  | outgrown => exact ⟨_, a₁, w₁, hq, .of_steps (.one h0 stepR_scope) harr⟩
end

theorem exRel_exit {ι : Inj} {e : Env} {t : Array Value} {x : Ex} {y : Exit} (h : ExRel ι e t x y) : (∀ l, y ≠ .goto l) ∧ y ≠ .outgrown := by
  cases y <;> cases x <;> simp [ExRel] at h ⊢

theorem ExPost.normal {nt : Nat} {ι : Inj} {h : Heap} {w : World} {s' : St} {e : Exit} {a' : Act} {w' : World} (hp : ExPost P base w0 nt ι h w .normal s' e a' w') : e = .normal ∧ ∃ ι', Ok P base w0 ι' s'.h w' ∧ Ext ι h w ι' s'.h w' ∧ a'.tmps.size = nt ∧ DRep ι' s'.d a'.defers ∧ ERep ι' s'.e a'.tmps := by
  obtain ⟨ι', h1, h2, h3, h4, h5⟩ := hp
  cases e <;> simp only [ExRel] at h5
  exact ⟨rfl, ι', h1, h2, h3, h4, h5⟩

theorem ExPost.notNormal {nt : Nat} {ι : Inj} {h : Heap} {w : World} {x : Ex} (hx : x ≠ .normal) {s' : St} {e : Exit} {a' : Act} {w' : World} (hp : ExPost P base w0 nt ι h w x s' e a' w') : e ≠ .normal := by
  obtain ⟨ι', h1, h2, h3, h4, h5⟩ := hp
  intro e; subst e
  cases x <;> simp only [ExRel] at h5
  exact hx rfl

theorem rep_ofbool {ι : Inj} {b : Bool} {v : Value} (h : Rep ι (.bool b) v) : v = .bool b := by cases h; rfl

theorem then_of {next : Act → World → Prop} {Q : Exit → Act → World → Prop} {e : Exit} {a : Act} {w : World} (he : e ≠ .normal) (h : Q e a w) : Exit.then next Q e a w := by
  cases e <;> first | exact (he rfl).elim | exact h

theorem icode_sound {call : CallF} (hcall : CallOk P base w0 call) {F : Fence} {nt m : Nat} {n : Nat} : ∀ {code : Code} {ic : IC}, cic P nt code = some ic → ∀ {s : St} {ι : Inj} {a : Act} {w : World}, FOk F s.d → Ok P base w0 ι s.h w → a.tmps.size = nt → ERep ι s.e a.tmps → DRep ι s.d a.defers →
    ∀ {x : Ex} {s' : St} {Q : Exit → Act → World → Prop}, icode call n ic s = some (x, s') → (∀ e a' w', ExPost P base w0 nt ι s.h w x s' e a' w' → Q e a' w') → code.wpIn F m P Q a w := by
  intro code
  induction code with
  | skip =>
    intro ic hc s ι a w hF hk hsz hE hD x s' Q hi hQ
    simp only [cic, Option.some.injEq] at hc; subst hc
    simp only [icode, Option.some.injEq, Prod.mk.injEq] at hi
    obtain ⟨rfl, rfl⟩ := hi
    exact wpIn_skip (hQ _ _ _ ⟨ι, hk, .refl _ _ _, hsz, hD, hE⟩)
  | label l =>
    intro ic hc s ι a w hF hk hsz hE hD x s' Q hi hQ
    simp only [cic, Option.some.injEq] at hc; subst hc
    simp only [icode, Option.some.injEq, Prod.mk.injEq] at hi
    obtain ⟨rfl, rfl⟩ := hi
    exact wpIn_label (hQ _ _ _ ⟨ι, hk, .refl _ _ _, hsz, hD, hE⟩)
  | exit id =>
    intro ic hc s ι a w hF hk hsz hE hD x s' Q hi hQ
    simp only [cic, Option.some.injEq] at hc; subst hc
    simp only [icode, Option.some.injEq, Prod.mk.injEq] at hi
    obtain ⟨rfl, rfl⟩ := hi
    exact wpIn_exit (hQ _ _ _ ⟨ι, hk, .refl _ _ _, hsz, hD, rfl, hE⟩)
  | ret =>
    intro ic hc s ι a w hF hk hsz hE hD x s' Q hi hQ
    simp only [cic, Option.some.injEq] at hc; subst hc
    simp only [icode, Option.some.injEq, Prod.mk.injEq] at hi
    obtain ⟨rfl, rfl⟩ := hi
    exact wpIn_ret (hQ _ _ _ ⟨ι, hk, .refl _ _ _, hsz, hD, hE⟩)
  | region id ops draw =>
    intro ic hc s ι a w hF hk hsz hE hD x s' Q hi hQ
    simp only [cic] at hc
    split at hc
    case h_2 => cases hc; simp [icode, stuck, ev] at hi
    rename_i l hl
    split at hc
    · rename_i hdr
      split at hc
      case isFalse => cases hc; simp [icode, stuck, ev] at hi
      rename_i hok
      simp only [Bool.and_eq_true] at hok
      cases hc
      subst hdr
      simp only [icode] at hi
      exact idraw_sound hcall hl hok.1 hok.2 hF hk hsz hE hD hi hQ
    · rename_i hdr
      cases hc
      have : draw = false := by simpa using hdr
      subst this
      simp only [icode] at hi
      refine wpIn_region ?_
      have := iops_sound (n := m) hcall ops.toList 0 l (by simp) hl hF hk hsz hE hD hi hQ
      simpa [List.range_eq_range'] using this
  | seq c1 c2 ih1 ih2 =>
    intro ic hc s ι a w hF hk hsz hE hD x s' Q hi hQ
    simp only [cic] at hc
    split at hc
    case h_2 => cases hc
    rename_i i1 i2 h1 h2
    cases hc
    simp only [icode] at hi
    refine wpIn_seq ?_
    cases hr : icode call n i1 s with
    | none => rw [hr] at hi; cases hi
    | some q =>
      obtain ⟨x1, s1⟩ := q
      rw [hr] at hi
      refine ih1 h1 hF hk hsz hE hD hr fun e a1 w1 hp => ?_
      by_cases hx : x1 = .normal
      · subst hx
        obtain ⟨rfl, ι1, k1, k2, k3, k4, k5⟩ := hp.normal
        simp only at hi
        exact ih2 h2 (hF.of (icode_d hr)) k1 k3 k5 k4 hi fun e a2 w2 hp2 => hQ e a2 w2 (hp2.trans k2)
      · have : x = x1 ∧ s' = s1 := by cases x1 <;> first | exact (hx rfl).elim | (cases hi; exact ⟨rfl, rfl⟩)
        obtain ⟨rfl, rfl⟩ := this
        exact then_of (hp.notNormal hx) (hQ e a1 w1 hp)
  | cond c c1 c2 ih1 ih2 =>
    intro ic hc s ι a w hF hk hsz hE hD x s' Q hi hQ
    simp only [cic] at hc
    split at hc
    case h_2 => cases hc
    rename_i co i1 i2 hco h1 h2
    cases hc
    simp only [icode] at hi
    have hr := (opdRep_of hE).1 _ _ hco
    split at hi
    · rename_i hb
      rw [hb] at hr
      have : a.eval c = .bool true := rep_ofbool hr
      exact wpIn_cond_true this (ih1 h1 hF hk hsz hE hD hi hQ)
    · rename_i hb
      rw [hb] at hr
      have : a.eval c = .bool false := rep_ofbool hr
      exact wpIn_cond_false this (ih2 h2 hF hk hsz hE hD hi hQ)
    · cases hi
  | block id b ih =>
    intro ic hc s ι a w hF hk hsz hE hD x s' Q hi hQ
    simp only [cic] at hc
    obtain ⟨ib, hib, rfl⟩ := opt_map hc
    simp only [icode] at hi
    refine wpIn_block ?_
    cases hr : icode call n ib s with
    | none => rw [hr] at hi; cases hi
    | some q =>
      obtain ⟨x1, s1⟩ := q
      rw [hr] at hi
      refine ih hib hF hk hsz hE hD hr fun e a1 w1 hp => ?_
      cases x1 with
      | brk i =>
        simp only at hi
        obtain ⟨ι1, k1, k2, k3, k4, k5⟩ := hp
        cases e <;> simp only [ExRel] at k5
        obtain ⟨rfl, k5⟩ := k5
        simp only [Exit.inBlock]
        split at hi <;> cases hi
        · rename_i hid; rw [if_pos hid]; exact hQ _ _ _ ⟨ι1, k1, k2, k3, k4, k5⟩
        · rename_i hid; rw [if_neg hid]; exact hQ _ _ _ ⟨ι1, k1, k2, k3, k4, rfl, k5⟩
      | normal => cases hi; have hq := hQ _ _ _ hp; obtain ⟨rfl, _⟩ := hp.normal; exact hq
      | ret =>
        cases hi
        have hq := hQ _ _ _ hp
        obtain ⟨ι1, k1, k2, k3, k4, k5⟩ := hp
        cases e <;> simp only [ExRel] at k5
        exact hq
      | pan v =>
        cases hi
        have hq := hQ _ _ _ hp
        obtain ⟨ι1, k1, k2, k3, k4, k5⟩ := hp
        cases e <;> simp only [ExRel] at k5
        exact hq
  | loop b ih =>
    intro ic hc s ι a w hF hk hsz hE hD x s' Q hi hQ
    simp only [cic] at hc
    obtain ⟨ib, hib, rfl⟩ := opt_map hc
    simp only [icode] at hi
    refine wpIn_loop_rounds n ?_
    have key : ∀ (k : Nat) {s : St} {ι : Inj} {a : Act} {w : World}, FOk F s.d → Ok P base w0 ι s.h w → a.tmps.size = nt → ERep ι s.e a.tmps → DRep ι s.d a.defers → loopCode (fun _ s => icode call n ib s) ib k s = some (x, s') →
        (∀ e a' w', ExPost P base w0 nt ι s.h w x s' e a' w' → Q e a' w') → Code.roundsIn F m P b Q k a w := by
      intro k
      induction k with
      | zero => intro s ι a w _ _ _ _ _ hi; cases hi
      | succ k ihk =>
        intro s ι a w hF hk hsz hE hD hi hQ
        rw [roundsIn_succ]
        simp only [loopCode] at hi
        cases hr : icode call n ib s with
        | none => rw [hr] at hi; cases hi
        | some q =>
          obtain ⟨x1, s1⟩ := q
          rw [hr] at hi
          refine ih hib hF hk hsz hE hD hr fun e a1 w1 hp => ?_
          by_cases hx : x1 = .normal
          · subst hx
            obtain ⟨rfl, ι1, k1, k2, k3, k4, k5⟩ := hp.normal
            simp only at hi
            exact ihk (hF.of (icode_d hr)) k1 k3 k5 k4 hi fun e a2 w2 hp2 => hQ e a2 w2 (hp2.trans k2)
          · have : x = x1 ∧ s' = s1 := by cases x1 <;> first | exact (hx rfl).elim | (cases hi; exact ⟨rfl, rfl⟩)
            obtain ⟨rfl, rfl⟩ := this
            exact then_of (hp.notNormal hx) (hQ e a1 w1 hp)
    exact key n hF hk hsz hE hD hi hQ
  | scope b ih =>
    intro ic hc s ι a w hF hk hsz hE hD x s' Q hi hQ
    simp only [cic] at hc
    refine wpIn_scope (ih hc hF hk hsz hE hD hi fun e a1 w1 hp => ?_)
    have hq := hQ _ _ _ hp
    obtain ⟨ι1, k1, k2, k3, k4, k5⟩ := hp
    have := exRel_exit k5
    cases e <;> first | exact hq | exact (this.1 _ rfl).elim
  | rangeFunc f ps asg body ih1 ih2 =>
    intro ic hc s ι a w hF hk hsz hE hD x s' Q hi hQ
    simp only [cic] at hc
    split at hc
    case h_2 => cases hc
    rename_i fo ia ib hfo h1 h2
    split at hc
    case isFalse => cases hc
    rename_i hps
    cases hc
    simp only [icode] at hi
    split at hi
    case h_1 => cases hi
    rename_i ds hds
    split at hi
    case h_2 => cases hi
    rename_i g vs htg
    have hFw : F = Fence.wide := by
      rcases hF with ⟨h, _⟩ | ⟨l, _, h⟩
      · exact h
      · rw [hds] at h; cases h
    subst hFw
    -- the record, and the block of the deferred calls
    have hs1 := hk.sim.new .dfr (.deferred (some [])) ⟨w.heap.size, 0, 0, 0⟩ rfl (fun _ _ _ => hk.size) (w' := { w with heap := w.heap.push (.deferred (some [])) }) rfl rfl rfl rfl
    obtain ⟨hsA, heA⟩ := hs1
    refine wpIn_rangeFunc fun fn _ => ?_
    have hs2 := hsA.new (.loop ⟨.ready, none, s.e, ps.toList, ia, ib⟩) (.loop { state := .ready, pending := none, fn := fn, tmps := a.tmps, params := ps, assign := asg, body := body, defers := w.heap.size }) ⟨w.heap.size + 1, 0, 0, 0⟩ (by simp)
      (fun ι' hl _ => ⟨Nat.le_succ_of_le hk.size, trivial, trivial, (hE.mono heA.inj).mono hl, rfl, fun p hp => by rw [hsz]; have := List.all_eq_true.1 hps p hp; simpa using this, by rw [hsz]; exact h1, by rw [hsz]; exact h2⟩)
      (w' := { w with heap := (w.heap.push (.deferred (some []))).push (.loop { state := .ready, pending := none, fn := fn, tmps := a.tmps, params := ps, assign := asg, body := body, defers := w.heap.size }) }) rfl rfl rfl rfl
    obtain ⟨hsB, heB⟩ := hs2
    have hl : (s.h.new .dfr).next = s.h.next + 1 := rfl
    generalize hιB : ext1 (ext1 ι s.h.next ⟨w.heap.size, 0, 0, 0⟩) (s.h.new .dfr).next ⟨w.heap.size + 1, 0, 0, 0⟩ = ιB at hsB heB
    have hlB : ιB (s.h.next + 1) = some ⟨w.heap.size + 1, 0, 0, 0⟩ := by rw [← hιB, ← hl]; exact ext1_same _ _ _
    have hmB : ιB s.h.next = some ⟨w.heap.size, 0, 0, 0⟩ := heB.inj _ _ (ext1_same _ _ _)
    have heAB := heA.trans heB
    have hkB := hk.ext hsB heAB
    obtain ⟨d, hd1, cap, hd2, hd3⟩ := target_spec (P := P) htg (((opdRep_of hE).1 _ _ hfo).mono heAB.inj) (args' := #[.func (.yield (w.heap.size + 1)) #[] #[]]) (RepL.cons (.yld hlB) (.nil _))
      { w with heap := (w.heap.push (.deferred (some []))).push (.loop { state := .ready, pending := none, fn := fn, tmps := a.tmps, params := ps, assign := asg, body := body, defers := w.heap.size }) }
    cases hcv : call (.fn g) vs ((s.h.new .dfr).new (.loop ⟨.ready, none, s.e, ps.toList, ia, ib⟩)) with
    | none => rw [hcv] at hi; cases hi
    | some oh =>
      obtain ⟨out, h'⟩ := oh
      rw [hcv] at hi
      obtain ⟨hok, hcalls⟩ := hcall.fn g vs _ out h' hcv
      refine ⟨w.heap.size + 1, [{ target := .collected w.heap.size, args := #[] }],
        { w with heap := (w.heap.push (.deferred (some []))).push (.loop { state := .ready, pending := none, fn := fn, tmps := a.tmps, params := ps, assign := asg, body := body, defers := w.heap.size }) }, d,
        { w with heap := (w.heap.push (.deferred (some []))).push (.loop { state := .ready, pending := none, fn := fn, tmps := a.tmps, params := ps, assign := asg, body := body, defers := w.heap.size }) }, g, d.args ++ cap,
        { w with heap := (w.heap.push (.deferred (some []))).push (.loop { state := .ready, pending := none, fn := fn, tmps := a.tmps, params := ps, assign := asg, body := body, defers := w.heap.size }) }, ?_, ?_, fun f' _ => trivial, ?_, fun h => by simp [Fence.wide] at h, ?_⟩
      · simp only [Instr.enterLoop, Fence.wide, Sem.run_bind, Sem.run_pure, run_newObj, Result.andThen_ok, Array.size_push]
      · simp only [resolve, rangeCall]
        simpa [Act.eval] using hd1
      · rw [hd2]; exact hok.run _ _
      · have := hcalls ιB _ (d.args ++ cap).toList hkB (by simpa using hd3)
        simp only [Array.toArray_toList] at this
        refine callsIn_wide.2 (this.mono fun e w3 hpost => ?_)
        obtain ⟨ι3, k1, k2, k3⟩ := hpost
        have heAll := heAB.trans k2
        have hdr : DRep ι3 (some (Dfr.mark s.h.next :: ds)) ({ target := .collected w.heap.size, args := #[] } :: a.defers) := ⟨⟨_, k2.inj _ _ hmB, rfl⟩, by rw [hds] at hD; exact DL.mono heAll.inj hD⟩
        have hl3 := k2.inj _ _ hlB
        cases out with
        | pan v =>
          cases e with
          | returned v' => exact k3.elim
          | outgrown => exact k3.elim
          | panicked ch =>
            simp only at hi
            cases hi
            simp only [rangePost]
            cases ch with
            | nil => exact k3.elim
            | cons c ch => cases ch with
              | cons => exact k3.elim
              | nil => exact hQ _ _ _ ⟨ι3, k1, heAll, hsz, hdr, k3.1, k3.2.1, k3.2.2, (hE.mono heAll.inj).toP⟩
        | ret v =>
          cases e with
          | panicked ch => exact k3.elim
          | outgrown => exact k3.elim
          | returned v' =>
            simp only at hi
            split at hi
            case h_2 => cases hi
            rename_i L hL
            split at hi
            case isTrue => cases hi
            rename_i hnb
            obtain ⟨o', ho', hr'⟩ := k1.sim.blk _ _ _ hL hl3
            cases o' <;> simp only [BRel] at hr'
            rename_i L'
            obtain ⟨b1, b2, b3, b4, b5, b6, b7, b8⟩ := hr'
            have hstate : ¬ L'.state = LoopState.busy := by
              intro e
              rw [e] at b2
              cases hst : L.st <;> rw [hst] at b2 <;> first | exact b2.elim | exact (hnb hst).elim
            obtain ⟨Lst, Lp, Le, Lps, La, Lb⟩ := L
            have hm3 : mine h' (s.h.next + 1) := by unfold mine; rw [hL]; trivial
            obtain ⟨w4, hrun, hs4, he4⟩ := Sim.setObj (P := P) k1.sim hl3 hm3 (.loop ⟨.gone, Lp, Le, Lps, La, Lb⟩) ho' (fun c t f => by simp) (o' := .loop { L' with state := .exhausted }) ⟨b1, trivial, b3, b4, b5, b6, b7, b8⟩
            simp only [rangePost]
            have hend : (Instr.endLoop (w.heap.size + 1)).run P w3 = .ok L'.pending w4 := by
              simp only [Instr.endLoop, Instr.getLoop, Sem.run_bind]
              have hg : (getObj (w.heap.size + 1)).run P w3 = .ok (.loop L') w3 := by simp [getObj, Sem.run, ho']
              have hrun' : (Go.setObj (w.heap.size + 1) (.loop { L' with state := .exhausted })).run P w3 = .ok () w4 := hrun
              simp [hg, hstate, hrun']
            refine ⟨_, w4, hend, ?_⟩
            have he5 := heAll.trans he4
            have hk5 := k1.ext hs4 he4
            have hd5 : DRep ι3 (some (Dfr.mark s.h.next :: ds)) ({ target := .collected w.heap.size, args := #[] } :: a.defers) := hdr
            cases Lp with
            | none =>
              cases hp' : L'.pending with
              | some _ => rw [hp'] at b3; exact b3.elim
              | none =>
                cases hi
                exact hQ _ _ _ ⟨ι3, hk5, he5, hsz, hd5, hE.mono he5.inj⟩
            | some j =>
              cases hp' : L'.pending with
              | none => rw [hp'] at b3; cases j <;> exact b3.elim
              | some c =>
                rw [hp'] at b3
                cases j with
                | ret =>
                  cases c <;> simp only [PRep] at b3
                  simp only [jmpEx] at hi
                  cases hi
                  exact wpIn_ret (hQ _ _ _ ⟨ι3, hk5, he5, hsz, hd5, hE.mono he5.inj⟩)
                | brk i =>
                  cases c <;> simp only [PRep] at b3
                  subst b3
                  simp only [jmpEx] at hi
                  cases hi
                  exact wpIn_exit (hQ _ _ _ ⟨ι3, hk5, he5, hsz, hd5, rfl, hE.mono he5.inj⟩)
  | _ =>
    intro ic hc s ι a w hF hk hsz hE hD x s' Q hi hQ
    simp only [cic, Option.some.injEq] at hc
    subst hc
    simp [icode, stuck, ev] at hi

end Go.Idl
