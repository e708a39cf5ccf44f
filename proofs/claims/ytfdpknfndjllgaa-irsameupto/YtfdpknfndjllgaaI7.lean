/- How a call is left: results, deferred calls, recover. -/
import Derived.Test.YtfdpknfndjllgaaI6
import Derived.RangeFuncRecord
namespace Go.Idl
set_option linter.unusedVariables false
set_option linter.unusedSimpArgs false

variable {P : Program} {base : Nat} {w0 : World}

/-! ### Results -/

def RVGood (ι : Inj) (e : Env) (tmps : Array Value) : RV → Prop
  | .tmp t => Rep ι (e t) (tmps.getD t undef)
  | .cell a _ => Rep ι (e a) (tmps.getD a undef)

theorem crv_cons {r : ResultVar} {rs : List ResultVar} {l : List RV} (h : crv P (r :: rs) = some l) : ∃ x xs, l = x :: xs ∧ crv P rs = some xs ∧ (match r with | .tmp t => x = .tmp t | .cell a t => ∃ n, tshape P t = some n ∧ x = .cell a n) := by
  cases r with
  | tmp t =>
    simp only [crv] at h
    obtain ⟨xs, hx, rfl⟩ := opt_map h
    exact ⟨_, xs, rfl, hx, rfl⟩
  | cell a t =>
    simp only [crv] at h
    split at h
    · rename_i n r' hn hr
      cases h
      exact ⟨_, r', rfl, hr, n, hn, rfl⟩
    · cases h

theorem resV_run {C : Nat → IC → Code → Prop} {ι : Inj} {h : Heap} {w : World} (hs : Sim C base ι h w) {e : Env} {tmps : Array Value} {a : Nat} {t : TypeId} {n : Option Nat} (hn : tshape P t = some n) {v : Value} (hr : Rep ι (e a) (tmps.getD a undef)) (hv : resV e h (.cell a n) = some v) :
    ∃ v', (do loadVar t (← asAddr (tmps.getD a undef)) : Sem Value).run P w = .ok v' w ∧ Rep ι v v' := by
  simp only [resV] at hv
  split at hv
  case h_2 => cases hv
  rename_i b o hb
  rw [hb] at hr
  obtain ⟨i, hι, hx⟩ := rep_ptr hr
  rw [hx]
  rcases tshape_spec hn with ⟨k, rfl, hk, hag⟩ | ⟨rfl, hag⟩
  · obtain ⟨cs, hcs, hp⟩ := opt_map hv
    cases hp
    obtain ⟨cs', hr, hlen, hcell⟩ := hs.cells hι hcs
    have hld := run_loadCells_list (P := P) w _ cs' hcell
    rw [← hr.1, hlen] at hld
    refine ⟨.agg cs'.toArray, ?_, rep_agg.2 (by simpa using hr)⟩
    simp [asAddr, loadVar, hag, run_sizeOf' hk, hld]
  · obtain ⟨u, hf, hr, hcell⟩ := hs.cell hι hv
    refine ⟨u, ?_, hr⟩
    simp [asAddr, loadVar, hag, hcell]

theorem resAll_run {C : Nat → IC → Code → Prop} {ι : Inj} {h : Heap} {w : World} (hs : Sim C base ι h w) {e : Env} {tmps : Array Value} (f : ResultVar → Sem Value) (hf : ∀ u, f (.tmp u) = pure (tmps.getD u undef)) (hc : ∀ a t, f (.cell a t) = (do loadVar t (← asAddr (tmps.getD a undef)))) :
    ∀ {rs : List ResultVar} {rvs : List RV}, crv P rs = some rvs → (∀ r ∈ rvs, RVGood ι e tmps r) → ∀ {vs : List Value}, resAll e h rvs = some vs → ∃ vs', (rs.mapM f).run P w = .ok vs' w ∧ RepL ι vs vs'
  | [], rvs, hcr, _, vs, hv => by
    simp only [crv, Option.some.injEq] at hcr
    subst hcr
    simp only [resAll, Option.some.injEq] at hv
    subst hv
    exact ⟨[], by simp, .nil _⟩
  | r :: rs, rvs, hcr, hg, vs, hv => by
    obtain ⟨x, xs, rfl, hxs, hx⟩ := crv_cons hcr
    simp only [resAll] at hv
    split at hv
    case h_2 => cases hv
    rename_i v vs2 hv1 hv2
    cases hv
    obtain ⟨vs', h1, h2⟩ := resAll_run hs f hf hc hxs (fun r hr => hg r (by simp [hr])) hv2
    have hgx := hg x (by simp)
    cases r with
    | tmp t =>
      simp only at hx
      subst hx
      simp only [resV, Option.some.injEq] at hv1
      subst hv1
      exact ⟨_ :: vs', by simp [List.mapM_cons, hf, h1], .cons hgx h2⟩
    | cell a t =>
      obtain ⟨n, hn, rfl⟩ := hx
      obtain ⟨v', k1, k2⟩ := resV_run hs hn hgx hv1
      exact ⟨v' :: vs', by rw [List.mapM_cons, hc, Sem.run_bind, k1]; simp [h1], .cons k2 h2⟩

theorem results_sound {C : Nat → IC → Code → Prop} {ι : Inj} {h : Heap} {w : World} (hs : Sim C base ι h w) {e : Env} {tmps : Array Value} {fn : Func} {rvs : List RV} (hcr : crv P fn.results.toList = some rvs) (hg : ∀ r ∈ rvs, RVGood ι e tmps r) {vs : List Value} (hv : resAll e h rvs = some vs) :
    ∃ v', (results fn tmps).run P w = .ok v' w ∧ Rep ι (tup vs) v' := by
  suffices H : ∀ f : ResultVar → Sem Value, (∀ u, f (.tmp u) = pure (tmps.getD u undef)) → (∀ a t, f (.cell a t) = (do loadVar t (← asAddr (tmps.getD a undef)))) →
      ∃ v', (do let vs ← fn.results.mapM f; pure (if h : vs.size = 1 then vs[0] else .tuple vs) : Sem Value).run P w = .ok v' w ∧ Rep ι (tup vs) v' from H _ (fun _ => rfl) (fun _ _ => rfl)
  intro f hf hc
  obtain ⟨vs', h1, h2⟩ := resAll_run hs f hf hc hcr hg hv
  have hm : (do let vs ← fn.results.mapM f; pure (if h : vs.size = 1 then vs[0] else .tuple vs) : Sem Value).run P w = .ok (if h : vs'.toArray.size = 1 then vs'.toArray[0] else .tuple vs'.toArray) w := by
    rw [show fn.results = fn.results.toList.toArray by simp, List.mapM_toArray]
    simp only [Sem.run_bind, Sem.run_map]
    rw [h1]
    rfl
  refine ⟨_, hm, ?_⟩
  have hl := h2.1
  match vs, vs', h2, hl with
  | [], [], h2, _ => exact rep_tuple (by simpa using h2)
  | [v], [v'], h2, _ => simpa [tup] using h2.head.1
  | a :: b :: vs, [], h2, hl => simp at hl
  | a :: b :: vs, [_], h2, hl => simp at hl
  | a :: b :: vs, a' :: b' :: vs', h2, _ => simpa [tup] using rep_tuple (x := (a :: b :: vs).toArray) (x' := (a' :: b' :: vs').toArray) (by simpa using h2)
  | [], _ :: _, h2, hl => simp at hl
  | [_], [], h2, hl => simp at hl
  | [_], _ :: _ :: _, h2, hl => simp at hl

theorem rvGood_all {ι : Inj} {e : Env} {tmps : Array Value} (h : ERep ι e tmps) (r : RV) : RVGood ι e tmps r := by cases r <;> exact h _

theorem resAllP_good {ι : Inj} {e : Env} {tmps : Array Value} (hE : PERep ι e tmps) {h : Heap} : ∀ {rvs : List RV} {vs : List Value}, resAllP e h rvs = some vs → resAll e h rvs = some vs ∧ ∀ r ∈ rvs, RVGood ι e tmps r
  | [], vs, hv => by simp only [resAllP, Option.some.injEq] at hv; subst hv; exact ⟨rfl, fun r hr => by simp at hr⟩
  | r :: rs, vs, hv => by
    simp only [resAllP] at hv
    split at hv
    case h_2 => cases hv
    rename_i v vs2 hv1 hv2
    cases hv
    obtain ⟨h1, h2⟩ := resAllP_good hE hv2
    have hr : resV e h r = some v ∧ RVGood ι e tmps r := by
      cases r with
      | tmp t =>
        simp only [resVP] at hv1
        split at hv1
        · cases hv1
        · rename_i hn
          cases hv1
          refine ⟨rfl, ?_⟩
          rcases hE t with hu | hr
          · exact (hn _ hu).elim
          · exact hr
      | cell a n =>
        simp only [resVP] at hv1
        refine ⟨hv1, ?_⟩
        rcases hE a with hu | hr
        · simp [resV, hu, unk] at hv1
        · exact hr
    refine ⟨by simp only [resAll, hr.1, h1], fun r' hr' => ?_⟩
    rcases List.mem_cons.1 hr' with rfl | hh
    · exact hr.2
    · exact h2 r' hh

/-! ### What is being panicked with -/

def MRel (ι : Inj) : Option Value → FrameMode → Prop
  | none, u => u = .returning
  | some v, u => ∃ c : PanicEntry, u = .panicking [c] ∧ c.recovered = false ∧ c.goexit = false ∧ Rep ι v c.v

/-- In a deferred call. -/
def MRelD (ι : Inj) : Option Value → FrameMode → Prop
  | none, u => u = .returning ∨ ∃ c : PanicEntry, u = .panicking [c] ∧ c.recovered = true
  | some v, u => ∃ c : PanicEntry, u = .panicking [c] ∧ c.recovered = false ∧ c.goexit = false ∧ Rep ι v c.v

theorem MRel.toD {ι : Inj} {m : Option Value} {u : FrameMode} (h : MRel ι m u) : MRelD ι m u := by
  cases m with
  | none => exact .inl h
  | some v => exact h

theorem MRelD.settle {ι : Inj} {m : Option Value} {u : FrameMode} (h : MRelD ι m u) : MRel ι m (settle u) := by
  cases m with
  | none =>
    rcases h with rfl | ⟨⟨v, r, g⟩, rfl, h⟩
    · rfl
    · simp only at h; subst h; rfl
  | some v =>
    obtain ⟨⟨v', r, g⟩, rfl, h1, h2, h3⟩ := h
    simp only at h1; subst h1
    exact ⟨_, rfl, rfl, h2, h3⟩

theorem MRelD.mono {ι ι' : Inj} (hl : ι.le ι') {m : Option Value} {u : FrameMode} (h : MRelD ι m u) : MRelD ι' m u := by
  cases m with
  | none => exact h
  | some v => obtain ⟨c, h1, h2, h3, h4⟩ := h; exact ⟨c, h1, h2, h3, h4.mono hl⟩

theorem MRel.mono {ι ι' : Inj} (hl : ι.le ι') {m : Option Value} {u : FrameMode} (h : MRel ι m u) : MRel ι' m u := by
  cases m with
  | none => exact h
  | some v => obtain ⟨c, h1, h2, h3, h4⟩ := h; exact ⟨c, h1, h2, h3, h4.mono hl⟩

/-! ### Code that may recover -/

section
variable {n : Nat} {Q : Exit → Act → List Frame → World → Prop} {a : Act} {cs : List Frame} {w : World} {F : Fence}

theorem wpSIn_scope {c : Code} (h : c.wpSIn F n P (fun e a cs w => match e with | .goto _ => False | e => Q e a cs w) a cs w) : (Code.scope c).wpSIn F n P Q a cs w := by
  intro b k hb hro hF hroom
  have h0 : (lone (b.atR a (.code (.scope c) :: k)) cs w).fenced P F := fenced_calm hF hroom rfl
  obtain ⟨e, a₁, cs₁, w₁, hl, hq, harr⟩ := h b (.inScope c :: k) hb hro hF hroom
  cases e with
  | normal => exact ⟨.normal, a₁, cs₁, w₁, hl, hq, .head h0 stepR_scope (StepsIn.trans harr (.one (fenced_calm hF (hl ▸ hroom) rfl) stepR_inScope))⟩
  | exit id =>
    have hx : exitTo id (.inScope c :: k) = exitTo id k := by simp [exitTo]
    exact ⟨.exit id, a₁, cs₁, w₁, hl, hq, fun k' hk => .head h0 stepR_scope (harr.1 k' (by rw [hx]; exact hk)),
      fun hr' hk => let ⟨k₁, h1, h2⟩ := harr.2 hr' (by rw [hx]; exact hk); ⟨k₁, h1, .head h0 stepR_scope h2⟩⟩
  | goto l => exact hq.elim
  | ret => exact ⟨.ret, a₁, cs₁, w₁, hl, hq, .of_steps (.one h0 stepR_scope) harr⟩
  | panic ch => exact ⟨.panic ch, a₁, cs₁, w₁, hl, hq, .of_steps (.one h0 stepR_scope) harr⟩
  | outgrown => exact ⟨.outgrown, a₁, cs₁, w₁, hl, hq, .of_steps (.one h0 stepR_scope) harr⟩
end

/-- Where code of a deferred call has come to. -/
def ExPostD (P : Program) (base : Nat) (w0 : World) (nt : Nat) (ι : Inj) (h : Heap) (w : World) (x : Ex) (m : Option Value) (s' : St) (e : Exit) (a' : Act) (u' : FrameMode) (w' : World) : Prop :=
  ∃ ι', Ok P base w0 ι' s'.h w' ∧ Ext ι h w ι' s'.h w' ∧ a'.tmps.size = nt ∧ DRep ι' s'.d a'.defers ∧ ExRel ι' s'.e a'.tmps x e ∧ MRelD ι' m u'

theorem ExPostD.trans {nt : Nat} {ι ι1 : Inj} {h h1 : Heap} {w w1 : World} {x : Ex} {m : Option Value} {s' : St} {e : Exit} {a' : Act} {u' : FrameMode} {w' : World} (he : Ext ι h w ι1 h1 w1) (hp : ExPostD P base w0 nt ι1 h1 w1 x m s' e a' u' w') : ExPostD P base w0 nt ι h w x m s' e a' u' w' :=
  let ⟨ι', a, b, c⟩ := hp
  ⟨ι', a, he.trans b, c⟩

theorem copds_length : ∀ {xs : List Operand} {as : List Opd}, copds xs = some as → as.length = xs.length
  | [], as, h => by simp only [copds, Option.some.injEq] at h; subst h; rfl
  | x :: xs, as, h => by
    simp only [copds] at h
    split at h
    · rename_i b bs h1 h2; cases h; simp [copds_length h2]
    · cases h

theorem recover_op {op : Op} {q : IOp} (hc : cop P op = some q) (hq : q = .recover) : ∃ ts, op = .call { callee := .builtin .recover, args := #[], argTypes := ts } := by
  subst hq
  cases op
  case call c =>
    obtain ⟨callee, args, ts⟩ := c
    cases callee
    case builtin b =>
      simp only [cop, cbuiltin] at hc
      repeat' (split at hc)
      all_goals try (cases hc; done)
      rename_i heq
      have : args = #[] := by
        have := copds_length heq
        exact Array.eq_empty_of_size_eq_zero (by simpa using this.symm)
      exact ⟨ts, by rw [this]⟩
    all_goals (simp [cop] at hc)
  all_goals
    simp only [cop, cbin, cconv, csub] at hc
    repeat' (split at hc)
    all_goals first
      | (cases hc; done)
      | (cases ‹_ = Op.call _›; done)
      | (obtain ⟨a, _, h⟩ := opt_map hc; cases h; done)

theorem recoverD_none {c₀ : Frame} {cs : List Frame} {u : FrameMode} (h : u = .returning ∨ ∃ c : PanicEntry, u = .panicking [c] ∧ c.recovered = true) : recoverD ({ c₀ with mode := u } :: cs) = none := by
  rcases h with rfl | ⟨⟨v, r, g⟩, rfl, h⟩
  · rfl
  · simp only at h; subst h; rfl

theorem iopsD_sound {F : Fence} (hfn : ∀ f, F.fn f) {nt n : Nat} {ops : Array Oper} {Q : Exit → Act → List Frame → World → Prop} {c₀ : Frame} {cs : List Frame} :
    ∀ (os : List Oper) (k : Nat) (l : List Step), ops.toList.drop k = os → csteps P nt ops os = some l → ∀ {s : St} {ι : Inj} {a : Act} {w : World} {m : Option Value} {u : FrameMode}, Ok P base w0 ι s.h w → a.tmps.size = nt → ERep ι s.e a.tmps → DRep ι s.d a.defers → MRelD ι m u →
      ∀ {m' : Option Value} {s' : St}, iopsD l m s = some (m', s') → (∀ e a' u' w', ExPostD P base w0 nt ι s.h w .normal m' s' e a' u' w' → Q e a' ({ c₀ with mode := u' } :: cs) w') →
        wpOpsSIn F n P ops Q (List.range' k os.length) a ({ c₀ with mode := u } :: cs) w
  | [], k, l, hos, hl, s, ι, a, w, m, u, hk, hsz, hE, hD, hM, m', s', hi, hQ => by
    simp only [csteps, Option.some.injEq] at hl
    subst hl
    simp only [iopsD, Option.some.injEq, Prod.mk.injEq] at hi
    obtain ⟨rfl, rfl⟩ := hi
    simp only [List.length_nil, List.range'_zero, wpOpsSIn]
    exact hQ _ _ _ _ ⟨ι, hk, .refl _ _ _, hsz, hD, hE, hM⟩
  | o :: os, k, l, hos, hl, s, ι, a, w, m, u, hk, hsz, hE, hD, hM, m', s', hi, hQ => by
    obtain ⟨y, ys, rfl, hy, hys⟩ := csteps_cons hl
    have hko : ops[k]? = some o := by
      have : (ops.toList.drop k)[0]? = some o := by rw [hos]; rfl
      simpa using this
    have hos' : ops.toList.drop (k + 1) = os := by
      rw [← List.drop_drop, hos]; rfl
    obtain ⟨hdst, hstm, hdlt⟩ := cstep_spec hy
    have hdlt' : ∀ d, o.dst = some d → d < a.tmps.size := by rw [hsz]; exact hdlt
    simp only [List.length_cons, List.range'_succ, wpOpsSIn, hko]
    refine ⟨fun f _ => hfn f, ?_⟩
    rw [wanted_spec hy hE]
    simp only [iopsD] at hi
    by_cases hw : wantedE s.e y.grd = true
    · rw [if_pos hw] at hi ⊢
      cases hm : y.stm with
      | op q =>
        rw [hm] at hstm hi
        obtain ⟨hcop, hnd⟩ := cstm_op hstm
        by_cases hq : q = .recover
        · subst hq
          obtain ⟨ts, hop⟩ := recover_op hcop rfl
          have hrun : (execOp a.eval o).run P w = .ok .recover w := by simp [execOp, hop, resolve, invoke, builtin]
          rw [hrun]
          simp only at hi ⊢
          cases m with
          | none =>
            simp only at hi
            rw [recoverD_none hM]
            exact iopsD_sound (s := { s with e := dstUpd s.e y.dst .nilIface }) (m := none) hfn os (k + 1) ys hos' hys hk (by rw [put_size]; exact hsz) (by rw [hdst]; exact hE.putO hdlt' .nilIface) (by rw [put_defers]; exact hD) hM hi hQ
          | some v =>
            simp only at hi
            obtain ⟨⟨v', r, g⟩, rfl, h1, h2, h3⟩ := hM
            simp only at h1 h2 h3; subst h1; subst h2
            have : recoverD ({ c₀ with mode := .panicking [⟨v', false, false⟩] } :: cs) = some (v', { c₀ with mode := .panicking [⟨v', true, false⟩] } :: cs) := rfl
            rw [this]
            exact iopsD_sound (s := { s with e := dstUpd s.e y.dst v }) (m := none) hfn os (k + 1) ys hos' hys hk (by rw [put_size]; exact hsz) (by rw [hdst]; exact hE.putO hdlt' h3) (by rw [put_defers]; exact hD) (Or.inr ⟨_, rfl, rfl⟩ : MRelD ι none (.panicking [⟨v', true, false⟩])) hi hQ
        · have hi' : (match iop q s.e s.h with
            | some (v, h) => iopsD ys m { s with e := dstUpd s.e y.dst v, h := h }
            | none => none) = some (m', s') := by cases q <;> first | exact (hq rfl).elim | exact hi
          clear hi
          split at hi'
          case h_2 => cases hi'
          rename_i v h' hiop
          obtain ⟨v', w', ι', hdo, hs', he', _, hr⟩ := cop_sound hcop hk.sim hk.size (opdRep_of hE) hiop
          have fin : ∀ u', Rep ι' v u' → wpOpsSIn F n P ops Q (List.range' (k + 1) os.length) (a.put o.dst u') ({ c₀ with mode := u } :: cs) w' := fun u' hu =>
            iopsD_sound (s := { s with e := dstUpd s.e y.dst v, h := h' }) (m := m) hfn os (k + 1) ys hos' hys (hk.ext hs' he') (by rw [put_size]; exact hsz) (by rw [hdst]; exact (hE.mono he'.inj).putO hdlt' hu) (by rw [put_defers]; exact hD.mono he'.inj) (hM.mono he'.inj) hi'
              (fun e a' u' w' hp => hQ e a' u' w' (hp.trans he'))
          rcases hdo o rfl with hrun | ⟨hrun, rfl⟩
          · rw [hrun]; exact fin _ hr
          · rw [hrun]; exact fin _ hr
      | _ => rw [hm] at hi; cases hi
    · rw [if_neg hw] at hi ⊢
      exact iopsD_sound (s := { s with e := dstUpd s.e y.dst undef }) (m := m) hfn os (k + 1) ys hos' hys hk (by rw [put_size]; exact hsz) (by rw [hdst]; exact hE.putO hdlt' rep_undef) (by rw [put_defers]; exact hD) hM hi hQ

theorem icodeD_sound {call : CallF} (hcall : CallOk P base w0 call) {nt k : Nat} {n : Nat} {c₀ : Frame} {cs : List Frame} : ∀ {code : Code} {ic : IC}, cic P nt code = some ic → ∀ {s : St} {ι : Inj} {a : Act} {w : World} {m : Option Value} {u : FrameMode}, s.d.isSome = true → Ok P base w0 ι s.h w → a.tmps.size = nt → ERep ι s.e a.tmps → DRep ι s.d a.defers → MRelD ι m u →
    ∀ {x : Ex} {m' : Option Value} {s' : St} {Q : Exit → Act → List Frame → World → Prop}, icodeD call n ic m s = some (x, m', s') → (∀ e a' u' w', ExPostD P base w0 nt ι s.h w x m' s' e a' u' w' → Q e a' ({ c₀ with mode := u' } :: cs) w') →
      code.wpSIn Fence.wide k P Q a ({ c₀ with mode := u } :: cs) w := by
  have plain : ∀ {code : Code} {ic : IC}, cic P nt code = some ic → ∀ {s : St} {ι : Inj} {a : Act} {w : World} {m : Option Value} {u : FrameMode}, s.d.isSome = true → Ok P base w0 ι s.h w → a.tmps.size = nt → ERep ι s.e a.tmps → DRep ι s.d a.defers → MRelD ι m u →
      ∀ {x : Ex} {m' : Option Value} {s' : St} {Q : Exit → Act → List Frame → World → Prop}, (icode call n ic s).map (fun r => (r.1, m, r.2)) = some (x, m', s') → (∀ e a' u' w', ExPostD P base w0 nt ι s.h w x m' s' e a' u' w' → Q e a' ({ c₀ with mode := u' } :: cs) w') →
        code.wpSIn Fence.wide k P Q a ({ c₀ with mode := u } :: cs) w := by
    intro code ic hc s ι a w m u hd hk hsz hE hD hM x m' s' Q hi hQ
    obtain ⟨⟨x1, s1⟩, h1, h2⟩ := opt_map hi
    cases h2
    refine wpSIn_of_wpIn rfl (icode_sound hcall hc (.inl ⟨rfl, hd⟩) hk hsz hE hD h1 fun e a' w' hp => ?_)
    obtain ⟨ι', k1, k2, k3, k4, k5⟩ := hp
    exact hQ e a' u w' ⟨ι', k1, k2, k3, k4, k5, hM.mono k2.inj⟩
  intro code
  induction code with
  | region id ops draw =>
    intro ic hc s ι a w m u hd hk hsz hE hD hM x m' s' Q hi hQ
    have hc0 := hc
    simp only [cic] at hc
    split at hc
    case h_2 => cases hc; simp [icodeD, stuck, ev] at hi
    rename_i l hl
    split at hc
    · split at hc
      case isFalse => cases hc; simp [icodeD, stuck, ev] at hi
      cases hc
      exact plain hc0 hd hk hsz hE hD hM (by simpa only [icodeD] using hi) hQ
    · rename_i hdr
      cases hc
      have : draw = false := by simpa using hdr
      subst this
      simp only [icodeD] at hi
      split at hi
      · obtain ⟨⟨m1, s1⟩, h1, h2⟩ := opt_map hi
        cases h2
        refine wpSIn_region ?_
        have := iopsD_sound (F := Fence.wide) (fun _ => trivial) (n := k) (c₀ := c₀) (cs := cs) (Q := Q) ops.toList 0 l (by simp) hl hk hsz hE hD hM h1 hQ
        simpa [List.range_eq_range'] using this
      · exact plain hc0 hd hk hsz hE hD hM hi hQ
  | seq c1 c2 ih1 ih2 =>
    intro ic hc s ι a w m u hd hk hsz hE hD hM x m' s' Q hi hQ
    simp only [cic] at hc
    split at hc
    case h_2 => cases hc
    rename_i i1 i2 h1 h2
    cases hc
    simp only [icodeD] at hi
    refine wpSIn_seq ?_
    cases hr : icodeD call n i1 m s with
    | none => rw [hr] at hi; cases hi
    | some q =>
      obtain ⟨x1, m1, s1⟩ := q
      rw [hr] at hi
      refine ih1 h1 hd hk hsz hE hD hM hr fun e a1 u1 w1 hp => ?_
      obtain ⟨ι1, k1, k2, k3, k4, k5, k6⟩ := hp
      by_cases hx : x1 = .normal
      · subst hx
        cases e <;> simp only [ExRel] at k5
        simp only at hi
        refine ih2 h2 ?_ k1 k3 k5 k4 k6 hi fun e a2 u2 w2 hp2 => hQ e a2 u2 w2 (hp2.trans k2)
        have : ∀ {i : IC} {m s x m' s'}, icodeD call n i m s = some (x, m', s') → s'.d.isSome = s.d.isSome := by
          intro i
          induction i with
          | ops l =>
            intro m s x m' s' h
            simp only [icodeD] at h
            split at h
            · obtain ⟨⟨m2, s2⟩, g1, g2⟩ := opt_map h
              cases g2
              have : ∀ {l : List Step} {m s m' s'}, iopsD l m s = some (m', s') → s'.d = s.d := by
                intro l
                induction l with
                | nil => intro m s m' s' h; simp only [iopsD, Option.some.injEq, Prod.mk.injEq] at h; rw [← h.2]
                | cons y l ih =>
                  intro m s m' s' h
                  simp only [iopsD] at h
                  repeat' (split at h)
                  all_goals first
                    | (cases h; done)
                    | (have h2 := ih h; exact h2)
              rw [this g1]
            · obtain ⟨⟨x2, s2⟩, g1, g2⟩ := opt_map h
              cases g2
              exact icode_d g1
          | seq i1 i2 j1 j2 =>
            intro m s x m' s' h
            simp only [icodeD] at h
            split at h
            · rename_i g; rw [j2 h, j1 g]
            · exact j1 h
          | cond c i1 i2 j1 j2 =>
            intro m s x m' s' h
            simp only [icodeD] at h
            split at h
            · exact j1 h
            · exact j2 h
            · cases h
          | _ =>
            intro m s x m' s' h
            simp only [icodeD] at h
            obtain ⟨⟨x2, s2⟩, g1, g2⟩ := opt_map h
            cases g2
            exact icode_d g1
        rw [this hr, hd]
      · have : x = x1 ∧ m' = m1 ∧ s' = s1 := by cases x1 <;> first | exact (hx rfl).elim | (cases hi; exact ⟨rfl, rfl, rfl⟩)
        obtain ⟨rfl, rfl, rfl⟩ := this
        have hq := hQ e a1 u1 w1 ⟨ι1, k1, k2, k3, k4, k5, k6⟩
        have hne : e ≠ .normal := by
          intro he
          rw [he] at k5
          cases x with
          | normal => exact hx rfl
          | brk i => exact k5
          | ret => exact k5
          | pan v => exact k5
        cases e <;> first | exact (hne rfl).elim | exact hq
  | cond c c1 c2 ih1 ih2 =>
    intro ic hc s ι a w m u hd hk hsz hE hD hM x m' s' Q hi hQ
    simp only [cic] at hc
    split at hc
    case h_2 => cases hc
    rename_i co i1 i2 hco h1 h2
    cases hc
    simp only [icodeD] at hi
    have hr := (opdRep_of hE).1 _ _ hco
    split at hi
    · rename_i hb
      rw [hb] at hr
      exact wpSIn_cond (t := true) (rep_ofbool hr) (ih1 h1 hd hk hsz hE hD hM hi hQ)
    · rename_i hb
      rw [hb] at hr
      exact wpSIn_cond (t := false) (rep_ofbool hr) (ih2 h2 hd hk hsz hE hD hM hi hQ)
    · cases hi
  | scope b ih =>
    intro ic hc s ι a w m u hd hk hsz hE hD hM x m' s' Q hi hQ
    simp only [cic] at hc
    refine wpSIn_scope (ih hc hd hk hsz hE hD hM hi fun e a1 u1 w1 hp => ?_)
    have hq := hQ e a1 u1 w1 hp
    obtain ⟨ι1, k1, k2, k3, k4, k5, k6⟩ := hp
    have := exRel_exit k5
    cases e <;> first | exact hq | exact (this.1 _ rfl).elim
  | block id b =>
    intro ic hc s ι a w m u hd hk hsz hE hD hM x m' s' Q hi hQ
    have hc0 := hc
    simp only [cic] at hc
    obtain ⟨ib, hib, rfl⟩ := opt_map hc
    exact plain hc0 hd hk hsz hE hD hM (by simpa only [icodeD] using hi) hQ
  | loop b =>
    intro ic hc s ι a w m u hd hk hsz hE hD hM x m' s' Q hi hQ
    have hc0 := hc
    simp only [cic] at hc
    obtain ⟨ib, hib, rfl⟩ := opt_map hc
    exact plain hc0 hd hk hsz hE hD hM (by simpa only [icodeD] using hi) hQ
  | rangeFunc f ps asg body =>
    intro ic hc s ι a w m u hd hk hsz hE hD hM x m' s' Q hi hQ
    have hc0 := hc
    simp only [cic] at hc
    split at hc
    case h_2 => cases hc
    split at hc
    case isFalse => cases hc
    cases hc
    exact plain hc0 hd hk hsz hE hD hM (by simpa only [icodeD] using hi) hQ
  | skip | label | exit | ret =>
    intro ic hc s ι a w m u hd hk hsz hE hD hM x m' s' Q hi hQ
    have hc0 := hc
    simp only [cic, Option.some.injEq] at hc
    subst hc
    exact plain hc0 hd hk hsz hE hD hM (by simpa only [icodeD] using hi) hQ
  | _ =>
    intro ic hc s ι a w m u hd hk hsz hE hD hM x m' s' Q hi hQ
    simp only [cic, Option.some.injEq] at hc
    subst hc
    simp [icodeD, stuck, ev] at hi

end Go.Idl
