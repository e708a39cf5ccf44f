/- A region in the order of the text; an operation under a mask. -/
import Derived.Test.YtfdpknfndjllgaaI4b
import Derived.OrdersIn
namespace Go.Idl
set_option linter.unusedVariables false
set_option linter.unusedSimpArgs false

variable {P : Program} {base : Nat} {w0 : World} {ι : Inj} {h : Heap} {w : World}

theorem afterCall_d {dst : Option Nat} {s s' : St} {o : Option (Out × Heap)} {r : Option Value} (h : afterCall dst s o = some (r, s')) : s'.d = s.d := by
  unfold afterCall at h
  split at h <;> cases h <;> rfl

theorem istm_d {call : CallF} {dst : Option Nat} {m : Stm} {s s' : St} {r : Option Value} (h : istm call dst m s = some (r, s')) : s'.d.isSome = s.d.isSome := by
  unfold istm at h
  split at h
  · split at h
    · cases h; rfl
    · cases h
  · rw [afterCall_d h]
  · split at h
    · rw [afterCall_d h]
    · cases h
  · split at h
    · rename_i ds f vs hd _
      cases h; simp [hd]
    · cases h
  · split at h
    · cases h; rfl
    · cases h

theorem FOk.of {F : Fence} {d d' : Option (List Dfr)} (h : FOk F d) (e : d'.isSome = d.isSome) : FOk F d' := by
  rcases h with ⟨h1, h2⟩ | ⟨l, h1, h2⟩
  · exact .inl ⟨h1, by rw [e, h2]⟩
  · refine .inr ⟨l, h1, ?_⟩
    subst h2
    cases d' <;> simp_all

/-- One step, its guard looked at. -/
def stepRes (call : CallF) (x : Step) (s : St) : Option (Option Value × St) :=
  if wantedE s.e x.grd then istm call x.dst x.stm s else some (none, { s with e := dstUpd s.e x.dst undef })

theorem iops_cons (call : CallF) (x : Step) (rest : List Step) (s : St) : iops call (x :: rest) s = match stepRes call x s with
    | some (none, s') => iops call rest s'
    | r => r := by
  simp only [iops, stepRes]
  split <;> rfl

theorem csteps_cons {nt : Nat} {ops : Array Oper} {o : Oper} {os : List Oper} {l : List Step} (h : csteps P nt ops (o :: os) = some l) : ∃ x xs, l = x :: xs ∧ cstep P nt ops o = some x ∧ csteps P nt ops os = some xs := by
  simp only [csteps] at h
  split at h
  · cases h; exact ⟨_, _, rfl, by assumption, by assumption⟩
  · cases h

theorem stepRes_d {call : CallF} {x : Step} {s s' : St} {r : Option Value} (h : stepRes call x s = some (r, s')) : s'.d.isSome = s.d.isSome := by
  unfold stepRes at h
  split at h
  · exact istm_d h
  · cases h; rfl

theorem rep_undef : Rep ι undef undef := .tuple rfl (fun k v v' h => by simp at h)

theorem step_sound {call : CallF} (hcall : CallOk P base w0 call) {F : Fence} {s s' : St} (hF : FOk F s.d) {nt : Nat} {ops : Array Oper} {o : Oper} {x : Step} (hx : cstep P nt ops o = some x) {r : Option Value}
    (hi : stepRes call x s = some (r, s')) {a : Act} (hk : Ok P base w0 ι s.h w) (hsz : a.tmps.size = nt) (hE : ERep ι s.e a.tmps) (hD : DRep ι s.d a.defers) {n : Nat} {next : Act → World → Prop} {Q : Exit → Act → World → Prop}
    (hp : StepPost P base w0 nt ι s.h w r s' next Q) :
    if Region.wanted o (yielded ops a.tmps) then o.wpIn F n P a w next Q else (∀ f, o.about P w a.eval = some f → F.fn f) ∧ next (a.put o.dst undef) w := by
  have hw := wanted_spec hx hE
  rw [hw]
  unfold stepRes at hi
  by_cases hwe : wantedE s.e x.grd = true
  · rw [if_pos hwe] at hi ⊢
    exact istm_sound hcall hF hx hi hk hsz hE hD hp
  · rw [if_neg hwe] at hi ⊢
    cases hi
    obtain ⟨hdst, _, hdlt⟩ := cstep_spec hx
    refine ⟨fun f _ => hF.fn f, hp ι _ w hk (.refl _ _ _) (by rw [put_size]; exact hsz) ?_ (by rw [put_defers]; exact hD)⟩
    rw [hdst]
    exact hE.putO (by rw [hsz]; exact hdlt) rep_undef

theorem iops_sound {call : CallF} (hcall : CallOk P base w0 call) {F : Fence} {nt n : Nat} {ops : Array Oper} {Q : Exit → Act → World → Prop} :
    ∀ (os : List Oper) (k : Nat) (l : List Step), ops.toList.drop k = os → csteps P nt ops os = some l → ∀ {s : St} {ι : Inj} {a : Act} {w : World}, FOk F s.d → Ok P base w0 ι s.h w → a.tmps.size = nt → ERep ι s.e a.tmps → DRep ι s.d a.defers →
      ∀ {x : Ex} {s' : St}, exOf (iops call l s) = some (x, s') → (∀ e a' w', ExPost P base w0 nt ι s.h w x s' e a' w' → Q e a' w') → wpOpsIn F n P ops Q (List.range' k os.length) a w
  | [], k, l, hos, hl, s, ι, a, w, hF, hk, hsz, hE, hD, x, s', hi, hQ => by
    simp only [csteps, Option.some.injEq] at hl
    subst hl
    simp only [iops, exOf, Option.some.injEq, Prod.mk.injEq] at hi
    obtain ⟨rfl, rfl⟩ := hi
    simp only [List.length_nil, List.range'_zero, wpOpsIn]
    exact hQ _ _ _ ⟨ι, hk, .refl _ _ _, hsz, hD, hE⟩
  | o :: os, k, l, hos, hl, s, ι, a, w, hF, hk, hsz, hE, hD, x, s', hi, hQ => by
    obtain ⟨y, ys, rfl, hy, hys⟩ := csteps_cons hl
    have hko : ops[k]? = some o := by
      have : (ops.toList.drop k)[0]? = some o := by rw [hos]; rfl
      simpa using this
    have hos' : ops.toList.drop (k + 1) = os := by
      rw [← List.drop_drop, hos]; rfl
    simp only [List.length_cons, List.range'_succ, wpOpsIn, hko]
    rw [iops_cons] at hi
    cases hs1 : stepRes call y s with
    | none => rw [hs1] at hi; simp [exOf] at hi
    | some rs =>
      obtain ⟨r, s1⟩ := rs
      rw [hs1] at hi
      have hd := stepRes_d hs1
      refine step_sound hcall hF hy hs1 hk hsz hE hD ?_
      cases r with
      | none =>
        intro ι' a' w' hk' he' hsz' hE' hD'
        exact iops_sound hcall os (k + 1) ys hos' hys (hF.of hd) hk' hsz' hE' hD' hi (fun e a2 w2 hp => hQ e a2 w2 (hp.trans he'))
      | some v =>
        simp only [exOf, Option.some.injEq, Prod.mk.injEq] at hi
        obtain ⟨rfl, rfl⟩ := hi
        intro e' a' w' hp
        exact hQ _ _ _ hp

/-- That an operation can be run: something comes of it. -/
theorem wpIn_some {F : Fence} (hF : F.depth = none) {n : Nat} {o : Oper} {a : Act} {next : Act → World → Prop} (h : o.wpIn F n P a w next (fun _ _ _ => False)) : ∃ a' w', next a' w' := by
  have h := h.2
  generalize (o.semAt F.round a.eval).run P w = r at h
  have hroom : ∀ k, F.room k := fun k d hd => by rw [hF] at hd; cases hd
  cases r with
  | halt x w' => cases x <;> simp only [Oper.uponIn] at h
  | ok x w' =>
    cases x <;> simp only [Oper.uponIn] at h
    case value v => exact ⟨_, _, h⟩
    case skip => exact ⟨_, _, h⟩
    case defer d => exact ⟨_, _, h⟩
    case enter f args =>
      obtain ⟨e, w2, fr, hr, _⟩ := h.2.2 [] (hroom _)
      cases e
      · exact ⟨_, _, hr⟩
      · exact hr.elim
      · obtain ⟨_, _, hf⟩ := hr; exact hf.elim
    case row row args =>
      obtain ⟨v, w2, hr, _⟩ := h.2 (Frame.enter P 0 #[] .normal) [] (hroom _)
      exact ⟨_, _, hr⟩
    case round l f tmps asg body =>
      obtain ⟨e, w2, hr, _⟩ := h.2.2 (Frame.enter P 0 #[] .normal) [] (hroom _)
      cases e
      · exact ⟨_, _, hr⟩
      · exact hr.elim
      · obtain ⟨_, _, hf⟩ := hr; exact hf.elim

/-- One step that goes through has a world behind it. -/
theorem step_some {call : CallF} (hcall : CallOk P base w0 call) {F : Fence} {s s' : St} (hF : FOk F s.d) {nt : Nat} {ops : Array Oper} {o : Oper} {x : Step} (hx : cstep P nt ops o = some x)
    (hi : stepRes call x s = some (none, s')) {a : Act} (hk : Ok P base w0 ι s.h w) (hsz : a.tmps.size = nt) (hE : ERep ι s.e a.tmps) (hD : DRep ι s.d a.defers) :
    ∃ (ι' : Inj) (a' : Act) (w' : World), Ok P base w0 ι' s'.h w' ∧ Ext ι s.h w ι' s'.h w' ∧ a'.tmps.size = nt ∧ ERep ι' s'.e a'.tmps ∧ DRep ι' s'.d a'.defers := by
  have h := step_sound hcall hF hx hi hk hsz hE hD (n := 0) (Q := fun _ _ _ => False) (next := fun (a' : Act) w' => ∃ ι', Ok P base w0 ι' s'.h w' ∧ Ext ι s.h w ι' s'.h w' ∧ a'.tmps.size = nt ∧ ERep ι' s'.e a'.tmps ∧ DRep ι' s'.d a'.defers)
    (fun ι' a' w' h1 h2 h3 h4 h5 => ⟨ι', h1, h2, h3, h4, h5⟩)
  split at h
  · obtain ⟨a', w', ι', hh⟩ := wpIn_some hF.depth h
    exact ⟨ι', a', w', hh⟩
  · obtain ⟨_, ι', hh⟩ := h
    exact ⟨ι', _, w, hh⟩

/-! ### Under a mask -/

theorem ev_congr {e e' : Env} {l : List Opd} (h : ∀ t ∈ opdsT l, e t = e' t) : ∀ x ∈ l, ev e x = ev e' x := by
  intro x hx
  cases x with
  | t i => exact h i (by simp only [opdsT, List.mem_flatMap]; exact ⟨_, hx, by simp [opdT]⟩)
  | c v => rfl

theorem bndO_congr {e e' : Env} {x : Option Opd} (h : ∀ y ∈ x.toList, ev e y = ev e' y) (lo hi d : Nat) : bndO e lo hi d x = bndO e' lo hi d x := by
  cases x with
  | none => rfl
  | some y => simp only [bndO]; rw [h y (by simp)]

theorem iop_congr {e e' : Env} {o : IOp} (h : ∀ x ∈ iopOpds o, ev e x = ev e' x) (hp : Heap) : iop o e hp = iop o e' hp := by
  cases o
  case build z ps =>
    have : evps e ps = evps e' ps := List.map_congr_left fun p hpm => by rw [h _ (by simp only [iopOpds, List.mem_map]; exact ⟨p, hpm, rfl⟩)]
    simp only [iop, this]
  case lit esz len z ps =>
    have : evps e ps = evps e' ps := List.map_congr_left fun p hpm => by rw [h _ (by simp only [iopOpds, List.mem_map]; exact ⟨p, hpm, rfl⟩)]
    simp only [iop, this]
  case fn f a b =>
    simp only [iop]
    rw [List.map_congr_left (f := ev e) (g := ev e') fun x hx => h x (by simp [iopOpds, hx]), List.map_congr_left (l := b) (f := ev e) (g := ev e') fun x hx => h x (by simp [iopOpds, hx])]
  case sub k x lo hi mx =>
    have hx := h x (by simp [iopOpds])
    have hlo := fun a b c => bndO_congr (e := e) (e' := e') (x := lo) (fun y hy => h y (by simp [iopOpds] at hy ⊢; simp [hy])) a b c
    have hhi := fun a b c => bndO_congr (e := e) (e' := e') (x := hi) (fun y hy => h y (by simp [iopOpds] at hy ⊢; simp [hy])) a b c
    simp only [iop, hx, hlo, hhi]
    cases mx with
    | none => rfl
    | some m => simp only [h m (by simp [iopOpds])]
  all_goals
    simp only [iopOpds, List.mem_cons, List.not_mem_nil, or_false, forall_eq_or_imp, forall_eq] at h
    simp only [iop, h]

theorem map_ev_congr {e e' : Env} {l : List Opd} (h : ∀ x ∈ l, ev e x = ev e' x) : l.map (ev e) = l.map (ev e') := List.map_congr_left h

/-- A step elsewhere, where what it reads is the same. -/
theorem istm_congr {call : CallF} {dst : Option Nat} {m : Stm} {e e' : Env} {hp : Heap} {d : Option (List Dfr)} (hev : ∀ x ∈ stmOpds m, ev e x = ev e' x) {r : Option Value} {s' : St} (hi : istm call dst m ⟨e, hp, d⟩ = some (r, s')) :
    (∃ v, r = none ∧ s' = ⟨dstUpd e dst v, s'.h, s'.d⟩ ∧ istm call dst m ⟨e', hp, d⟩ = some (none, ⟨dstUpd e' dst v, s'.h, s'.d⟩)) ∨
    (∃ v, r = some v ∧ s' = ⟨e, s'.h, d⟩ ∧ istm call dst m ⟨e', hp, d⟩ = some (some v, ⟨e', s'.h, d⟩)) := by
  have after : ∀ {o : Option (Out × Heap)}, afterCall dst ⟨e, hp, d⟩ o = some (r, s') → (∃ v, r = none ∧ s' = ⟨dstUpd e dst v, s'.h, s'.d⟩ ∧ afterCall dst ⟨e', hp, d⟩ o = some (none, ⟨dstUpd e' dst v, s'.h, s'.d⟩)) ∨
      (∃ v, r = some v ∧ s' = ⟨e, s'.h, d⟩ ∧ afterCall dst ⟨e', hp, d⟩ o = some (some v, ⟨e', s'.h, d⟩)) := by
    intro o ho
    unfold afterCall at ho
    split at ho
    · cases ho; exact .inl ⟨_, rfl, rfl, rfl⟩
    · cases ho; exact .inr ⟨_, rfl, rfl, rfl⟩
    · cases ho
  unfold istm at hi ⊢
  cases m with
  | op o =>
    simp only [stmOpds] at hev
    simp only at hi ⊢
    rw [← iop_congr hev]
    split at hi
    · rename_i v h' hio; cases hi; exact .inl ⟨v, rfl, rfl, rfl⟩
    · cases hi
  | call f args =>
    simp only [stmOpds] at hev
    simp only at hi ⊢
    rw [← map_ev_congr hev]; exact after hi
  | callv x args =>
    simp only [stmOpds] at hev
    simp only at hi ⊢
    rw [← hev x (by simp), ← map_ev_congr fun y hy => hev y (by simp [hy])]
    split at hi
    · rename_i htg; exact after hi
    · cases hi
  | defer x args =>
    simp only [stmOpds] at hev
    simp only at hi ⊢
    rw [← hev x (by simp), ← map_ev_congr fun y hy => hev y (by simp [hy])]
    split at hi
    · cases hi; exact .inl ⟨undef, rfl, rfl, rfl⟩
    · cases hi
  | panic x =>
    simp only [stmOpds] at hev
    simp only at hi ⊢
    rw [← hev x (by simp)]
    split at hi
    · cases hi; exact .inr ⟨_, rfl, rfl, rfl⟩
    · cases hi

theorem semAt_congr {ρ ρ' : Operand → Value} (ro : Option Nat) (o : Oper) (hs : ∀ cs b, o.op ≠ .select cs b) (h : ∀ x ∈ o.op.operands, ρ x = ρ' x) : o.semAt ro ρ = o.semAt ro ρ' := by
  unfold Oper.semAt
  split
  · rename_i c hop
    rw [resolve_congr c _ fun x hx => h x (by rw [hop]; simpa [Op.operands] using hx)]
  · exact execOp_congr o hs h

theorem wpIn_same {F : Fence} {n : Nat} {o : Oper} {a b : Act} (hs : ∀ cs c, o.op ≠ .select cs c) (he : ∀ x ∈ o.op.operands, b.eval x = a.eval x) (hd : b.defers = a.defers) {next next' : Act → World → Prop} {Q Q' : Exit → Act → World → Prop}
    (hn : ∀ v ds w', next' ({ b with defers := ds }.put o.dst v) w' → next ({ a with defers := ds }.put o.dst v) w') (hQ : ∀ c w', Q' (.panic c) b w' → Q (.panic c) a w') (hl : LetsOut Q' → LetsOut Q)
    (h : o.wpIn F n P b w next' Q') : o.wpIn F n P a w next Q := by
  refine ⟨fun f hf => h.1 f (by rw [about_congr o w he]; exact hf), ?_⟩
  have h := h.2
  rw [semAt_congr F.round o hs he] at h
  have hn0 : ∀ v w', next' (b.put o.dst v) w' → next (a.put o.dst v) w' := fun v w' hh => hn v a.defers w' (by rw [← hd]; exact hh)
  generalize (o.semAt F.round a.eval).run P w = r at h
  cases r with
  | halt x w' =>
    cases x <;> simp only [Oper.uponIn] at h ⊢
    exact hQ _ _ h
  | ok x w' =>
    cases x <;> simp only [Oper.uponIn] at h ⊢
    case value v => exact hn0 _ _ h
    case skip => exact hn0 _ _ h
    case defer d => rw [hd] at h; exact hn _ _ _ h
    case enter f args => exact ⟨h.1, h.2.mono fun e w2 hr => by cases e <;> first | exact hn0 _ _ hr | exact hQ _ _ hr | exact hl hr⟩
    case row row args => exact ⟨h.1, h.2.mono fun v w2 hr => hn0 _ _ hr⟩
    case round l f tmps asg body => exact ⟨h.1, h.2.mono fun e w2 hr => by cases e <;> first | exact hn0 _ _ hr | exact hQ _ _ hr | exact hl hr⟩

end Go.Idl
