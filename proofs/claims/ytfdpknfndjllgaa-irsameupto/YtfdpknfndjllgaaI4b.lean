/- One operation in its frame; a region in the order of the text. -/
import Derived.Test.YtfdpknfndjllgaaI4
namespace Go.Idl
set_option linter.unusedVariables false
set_option linter.unusedSimpArgs false

variable {P : Program} {base : Nat} {w0 : World} {ι : Inj} {h : Heap} {w : World}

theorem cstm_op {op : Op} {q : IOp} (h : cstm P op = some (.op q)) : cop P op = some q ∧ ∀ c, op ≠ .defer c := by
  unfold cstm at h
  split at h
  · obtain ⟨a, _, ha⟩ := opt_map h; cases ha
  · split at h <;> cases h
  · split at h <;> cases h
  · obtain ⟨a, _, ha⟩ := opt_map h; cases ha
  · obtain ⟨a, h1, ha⟩ := opt_map h
    cases ha
    refine ⟨h1, fun c hc => ?_⟩
    subst hc
    simp [cop] at h1

theorem cstm_call {op : Op} {f : FuncId} {as : List Opd} (h : cstm P op = some (.call f as)) : ∃ args ts, op = .call { callee := .value (.func f), args := args, argTypes := ts } ∧ copds args.toList = some as := by
  unfold cstm at h
  split at h
  · obtain ⟨a, h1, ha⟩ := opt_map h; cases ha; exact ⟨_, _, rfl, h1⟩
  · split at h <;> cases h
  · split at h <;> cases h
  · obtain ⟨a, _, ha⟩ := opt_map h; cases ha
  · obtain ⟨a, h1, ha⟩ := opt_map h; cases ha

theorem cstm_callv {op : Op} {x : Opd} {as : List Opd} (h : cstm P op = some (.callv x as)) : ∃ y args ts, op = .call { callee := .value y, args := args, argTypes := ts } ∧ copd y = some x ∧ copds args.toList = some as := by
  unfold cstm at h
  split at h
  · obtain ⟨a, h1, ha⟩ := opt_map h; cases ha
  · split at h
    · cases h; exact ⟨_, _, _, rfl, by assumption, by assumption⟩
    · cases h
  · split at h <;> cases h
  · obtain ⟨a, _, ha⟩ := opt_map h; cases ha
  · obtain ⟨a, h1, ha⟩ := opt_map h; cases ha

theorem cstm_defer {op : Op} {x : Opd} {as : List Opd} (h : cstm P op = some (.defer x as)) : ∃ y args ts, op = .defer { callee := .value y, args := args, argTypes := ts } ∧ copd y = some x ∧ copds args.toList = some as := by
  unfold cstm at h
  split at h
  · obtain ⟨a, h1, ha⟩ := opt_map h; cases ha
  · split at h <;> cases h
  · split at h
    · cases h; exact ⟨_, _, _, rfl, by assumption, by assumption⟩
    · cases h
  · obtain ⟨a, _, ha⟩ := opt_map h; cases ha
  · obtain ⟨a, h1, ha⟩ := opt_map h; cases ha

theorem cstm_panic {op : Op} {x : Opd} (h : cstm P op = some (.panic x)) : ∃ y, op = .panic y ∧ copd y = some x := by
  unfold cstm at h
  split at h
  · obtain ⟨a, h1, ha⟩ := opt_map h; cases ha
  · split at h <;> cases h
  · split at h <;> cases h
  · obtain ⟨a, h1, ha⟩ := opt_map h; cases ha; exact ⟨_, rfl, h1⟩
  · obtain ⟨a, h1, ha⟩ := opt_map h; cases ha

/-- A function's value, in both. -/
theorem rep_func {f : FuncId} {x y : Array Value} {v' : Value} (h : Rep ι (.func (.func f) x y) v') : ∃ x' y', v' = .func (.func f) x' y' ∧ RepL ι x.toList x'.toList ∧ RepL ι y.toList y'.toList := by
  cases h with
  | func h1 h2 h3 h4 => exact ⟨_, _, rfl, ⟨by simpa using h1, fun k v v' a b => h2 k v v' (by simpa using a) (by simpa using b)⟩, by simpa using h3, fun k v v' a b => h4 k v v' (by simpa using a) (by simpa using b)⟩
theorem rep_yld {l : Nat} {v' : Value} (h : Rep ι (.func (.yield l) #[] #[]) v') : ∃ i, ι l = some i ∧ v' = .func (.yield i.blk) #[] #[] := by
  cases h with
  | yld h => exact ⟨_, h, rfl⟩

theorem ERep.toP {e : Env} {t : Array Value} (h : ERep ι e t) : PERep ι e t := fun j => .inr (h j)

/-- What one operation leaves behind. -/
def StepPost (P : Program) (base : Nat) (w0 : World) (nt : Nat) (ι : Inj) (h : Heap) (w : World) (r : Option Value) (s' : St) (next : Act → World → Prop) (Q : Exit → Act → World → Prop) : Prop :=
  match r with
  | none => ∀ ι' a' w', Ok P base w0 ι' s'.h w' → Ext ι h w ι' s'.h w' → a'.tmps.size = nt → ERep ι' s'.e a'.tmps → DRep ι' s'.d a'.defers → next a' w'
  | some v => ∀ e' a' w', ExPost P base w0 nt ι h w (.pan v) s' e' a' w' → Q e' a' w'

theorem put_size (a : Act) (d : Option Tmp) (v : Value) : (a.put d v).tmps.size = a.tmps.size := by cases d <;> simp [Act.put]
theorem put_defers (a : Act) (d : Option Tmp) (v : Value) : (a.put d v).defers = a.defers := by cases d <;> rfl

def TgtRep (ι : Inj) (d : Deferred) (vs : List Value) : Cal → Prop
  | .fn f => ∃ cap, d.target = .fn (.func f) cap ∧ RepL ι vs (d.args.toList ++ cap.toList)
  | .yld l => ∃ i, ι l = some i ∧ d.target = .fn (.yield i.blk) #[] ∧ RepL ι vs d.args.toList

/-- What is called, in both. -/
theorem target_spec {x x' : Value} {args : List Value} {args' : Array Value} {c : Cal} {vs : List Value} (ht : target x args = some (c, vs)) (hx : Rep ι x x') (ha : RepL ι args args'.toList) (w : World) :
    ∃ d, (Deferred.ofValue x' args').run P w = .ok d w ∧ TgtRep ι d vs c := by
  unfold target at ht
  split at ht
  · rename_i f first cap
    cases ht
    obtain ⟨x1, y1, rfl, h1, h2⟩ := rep_func hx
    refine ⟨{ target := .fn (.func f) y1, args := x1 ++ args' }, by simp [Deferred.ofValue], y1, rfl, ?_⟩
    simpa using (h1.append ha).append h2
  · rename_i l a b
    split at ht
    case isFalse => cases ht
    rename_i hab
    obtain ⟨rfl, rfl⟩ : a = #[] ∧ b = #[] := by simpa using hab
    cases ht
    obtain ⟨i, hi, rfl⟩ := rep_yld hx
    exact ⟨{ target := .fn (.yield i.blk) #[], args := #[] ++ args' }, by simp [Deferred.ofValue], i, hi, rfl, by simpa using ha⟩
  · cases ht

theorem arr_map_toList {α β : Type} (f : α → β) (a : Array α) : (a.map f).toList = a.toList.map f := by simp

theorem istm_sound {call : CallF} (hcall : CallOk P base w0 call) {F : Fence} {s s' : St} (hF : FOk F s.d) {nt : Nat} {ops : Array Oper} {o : Oper} {x : Step} (hx : cstep P nt ops o = some x) {r : Option Value}
    (hi : istm call x.dst x.stm s = some (r, s')) {a : Act} (hk : Ok P base w0 ι s.h w) (hsz : a.tmps.size = nt) (hE : ERep ι s.e a.tmps) (hD : DRep ι s.d a.defers) {n : Nat} {next : Act → World → Prop} {Q : Exit → Act → World → Prop}
    (hp : StepPost P base w0 nt ι s.h w r s' next Q) : o.wpIn F n P a w next Q := by
  obtain ⟨hdst, hstm, hdlt⟩ := cstep_spec hx
  have hdlt' : ∀ d, o.dst = some d → d < a.tmps.size := by rw [hsz]; exact hdlt
  have hρ := opdRep_of hE
  refine ⟨fun f _ => hF.fn f, ?_⟩
  have hdep : F.depth.isSome = true → 1 ≤ n := by rw [hF.depth]; simp
  -- a call of a function, or a round
  have calls : ∀ {cal : Cal} {vs : List Value} {d : Deferred}, afterCall x.dst s (call cal vs s.h) = some (r, s') →
      TgtRep ι d vs cal →
      ∃ nx, (invoke d.target d.args).run P w = .ok nx w ∧ o.uponIn F n P a next Q (.ok nx w) := by
    intro cal vs d hcl hd
    -- what is asked behind it
    have cont : ∀ (out : Out) (h' : Heap), call cal vs s.h = some (out, h') → ∀ e w', CallPost P base w0 ι s.h w out h' e w' → (match (motive := Ending → Prop) e with
        | .returned v => next (a.put o.dst v) w'
        | .panicked chain => Q (.panic chain) a w'
        | .outgrown => LetsOut Q) := by
      intro out h' hc e w' ⟨ι', hk', he', hend⟩
      rw [hc] at hcl
      cases out with
      | ret v =>
        cases e with
        | returned v' =>
          simp only [afterCall] at hcl
          cases hcl
          refine hp ι' _ w' hk' he' (by rw [put_size]; exact hsz) ?_ (by rw [put_defers]; exact hD.mono he'.inj)
          rw [hdst]
          exact (hE.mono he'.inj).putO hdlt' hend
        | panicked ch => exact hend.elim
        | outgrown => exact hend.elim
      | pan v =>
        cases e with
        | returned v' => exact hend.elim
        | panicked ch =>
          simp only [afterCall] at hcl
          cases hcl
          cases ch with
          | nil => exact hend.elim
          | cons c ch => cases ch with
            | cons => exact hend.elim
            | nil => exact hp _ a w' ⟨ι', hk', he', hsz, hD.mono he'.inj, hend.1, hend.2.1, hend.2.2, (hE.mono he'.inj).toP⟩
        | outgrown => exact hend.elim
    cases hcv : call cal vs s.h with
    | none => rw [hcv] at hcl; simp [afterCall] at hcl
    | some oh =>
      obtain ⟨out, h'⟩ := oh
      cases cal with
      | fn f =>
        obtain ⟨cap, ht, hvs⟩ := hd
        obtain ⟨hok, hc⟩ := hcall.fn f vs s.h out h' hcv
        refine ⟨.enter f (d.args ++ cap), by rw [ht]; exact hok.run _ w, ?_⟩
        have := hc ι w (d.args ++ cap).toList hk (by simpa using hvs)
        simp only [Array.toArray_toList] at this
        exact ⟨hdep, hF.calls (this.mono fun e w' hpost => by
          have := cont out h' hcv e w' hpost
          cases e <;> exact this)⟩
      | yld l =>
        obtain ⟨i, hι, ht, hvs⟩ := hd
        obtain ⟨L, hL, hlen, hround⟩ := hcall.yld l vs s.h out h' hcv ι w d.args.toList i hk hvs hι
        refine ⟨.round i.blk L.fn ((L.params.zip d.args).foldl (fun tmps (t, a) => tmps.setIfInBounds t a) L.tmps) L.assign L.body, ?_, ?_⟩
        · rw [ht]
          have hl : ¬ d.args.size ≠ L.params.size := by simp at hlen; omega
          simp only [invoke, Instr.yield, Instr.getLoop, Sem.run_bind]
          have hg : (getObj i.blk).run P w = .ok (.loop L) w := by simp [getObj, Sem.run, hL]
          simp [hg, hl]
        · simp only [Array.toArray_toList] at hround
          exact ⟨hdep, hF.round ((hround (n - 1)).mono fun e w' hpost => by
            have := cont out h' hcv e w' hpost
            cases e <;> exact this)⟩
  cases hm : x.stm with
  | op q =>
    rw [hm] at hi hstm
    obtain ⟨hcop, hnd⟩ := cstm_op hstm
    simp only [istm] at hi
    split at hi
    case h_2 => cases hi
    rename_i v h' hiop
    cases hi
    obtain ⟨v', w', ι', hdo, hs', he', _, hr⟩ := cop_sound hcop hk.sim hk.size hρ hiop
    have hsem : o.semAt F.round a.eval = execOp a.eval o := Oper.semAt_eq _ _ _ hnd
    rw [hsem]
    have fin : ∀ u, (Rep ι' v u) → next (a.put o.dst u) w' := fun u hu =>
      hp ι' _ w' (hk.ext hs' he') he' (by rw [put_size]; exact hsz) (by rw [hdst]; exact (hE.mono he'.inj).putO hdlt' hu) (by rw [put_defers]; exact hD.mono he'.inj)
    rcases hdo o rfl with hrun | ⟨hrun, rfl⟩
    · rw [hrun]; exact fin _ hr
    · rw [hrun]; exact fin _ hr
  | call f args =>
    rw [hm] at hi hstm
    obtain ⟨args', ts, hop, hargs⟩ := cstm_call hstm
    have hsem : o.semAt F.round a.eval = execOp a.eval o := Oper.semAt_eq _ _ _ (by rw [hop]; simp)
    rw [hsem]
    simp only [istm] at hi
    obtain ⟨nx, h1, h2⟩ := calls (d := { target := .fn (.func f) #[], args := args'.map a.eval }) hi ⟨#[], rfl, by simpa using copds_rep hρ hargs⟩
    have : (execOp a.eval o).run P w = .ok nx w := by
      simp only [execOp, hop, resolve, Sem.run_bind]
      have e1 : a.eval (.func f) = .func (.func f) #[] #[] := rfl
      simp only [e1, Deferred.ofValue, Sem.run_pure, Result.andThen_ok, Array.empty_append]
      exact h1
    rw [this]; exact h2
  | callv y args =>
    rw [hm] at hi hstm
    obtain ⟨y', args', ts, hop, hy, hargs⟩ := cstm_callv hstm
    have hsem : o.semAt F.round a.eval = execOp a.eval o := Oper.semAt_eq _ _ _ (by rw [hop]; simp)
    rw [hsem]
    simp only [istm] at hi
    split at hi
    case h_2 => cases hi
    rename_i c vs htg
    obtain ⟨d, hd1, hd2⟩ := target_spec (P := P) htg (hρ.1 _ _ hy) (args' := args'.map a.eval) (by simpa using copds_rep hρ hargs) w
    obtain ⟨nx, h1, h2⟩ := calls hi hd2
    have : (execOp a.eval o).run P w = .ok nx w := by
      simp only [execOp, hop, resolve, Sem.run_bind, hd1, Result.andThen_ok]
      exact h1
    rw [this]; exact h2
  | defer y args =>
    rw [hm] at hi hstm
    obtain ⟨y', args', ts, hop, hy, hargs⟩ := cstm_defer hstm
    simp only [istm] at hi
    split at hi
    case h_2 => cases hi
    rename_i ds f vs hds htg
    cases hi
    have hround : F.round = none := by
      rcases hF with ⟨rfl, _⟩ | ⟨l, rfl, hn⟩
      · rfl
      · rw [hn] at hds; cases hds
    obtain ⟨d, hd1, hd2⟩ := target_spec (P := P) htg (hρ.1 _ _ hy) (args' := args'.map a.eval) (by simpa using copds_rep hρ hargs) w
    have : (o.semAt F.round a.eval).run P w = .ok (.defer d) w := by
      rw [hround, Oper.semAt_none]
      simp only [execOp, hop, resolve, Sem.run_bind, hd1, Result.andThen_ok, Sem.run_pure]
    rw [this]
    have hD' : DL ι ds a.defers := by rw [hds] at hD; exact hD
    refine hp ι _ w hk (.refl _ _ _) (by rw [put_size]; exact hsz) ?_ (by rw [put_defers]; exact ⟨hd2, hD'⟩)
    rw [hdst]
    exact ERep.putO (a := { a with defers := d :: a.defers }) hE hdlt' (.tuple rfl (fun k v v' h => by simp at h))
  | panic y =>
    rw [hm] at hi hstm
    obtain ⟨y', hop, hy⟩ := cstm_panic hstm
    have hsem : o.semAt F.round a.eval = execOp a.eval o := Oper.semAt_eq _ _ _ (by rw [hop]; simp)
    rw [hsem]
    simp only [istm] at hi
    split at hi
    case h_2 => cases hi
    rename_i t v hv
    cases hi
    obtain ⟨v', hv', hr⟩ := rep_iface (hv ▸ hρ.1 _ _ hy)
    have : (execOp a.eval o).run P w = .halt (.panic (.iface t v')) w := by
      simp [execOp, hop, hv', Instr.panic, Result.andThen]
    rw [this]
    exact hp _ a w ⟨ι, hk, .refl _ _ _, hsz, hD, rfl, rfl, .iface hr, hE.toP⟩

end Go.Idl
