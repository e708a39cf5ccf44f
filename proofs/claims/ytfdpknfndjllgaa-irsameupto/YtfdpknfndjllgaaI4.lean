/- Regions and code: what the ideal code comes to, the model's comes to. -/
import Derived.Test.YtfdpknfndjllgaaI3g
import Derived.RangeFuncLeaves
import Derived.RangeFuncCalls
import Derived.RecoverIn
namespace Go.Idl
set_option linter.unusedVariables false
set_option linter.unusedSimpArgs false

abbrev CRel (P : Program) : Nat → IC → Code → Prop := fun nt ic code => cic P nt code = some ic

/-- All that hangs together at one moment of a call that began with 'base' blocks in the world w0. -/
structure Ok (P : Program) (base : Nat) (w0 : World) (ι : Inj) (h : Heap) (w : World) : Prop where
  sim : Sim (CRel P) base ι h w
  size : base ≤ w.heap.size
  old : ∀ k, k < base → w.heap[k]? = w0.heap[k]?

variable {P : Program} {base : Nat} {w0 : World} {ι : Inj} {h : Heap} {w : World}

theorem own_ge {C : Nat → IC → Code → Prop} (hs : Sim C base ι h w) {r : Nat} (hr : Own ι h r) : base ≤ r := by
  obtain ⟨b, i, hi, rfl, hm⟩ := hr
  unfold mine at hm
  split at hm
  case h_1 hb =>
    obtain ⟨o', _, hr⟩ := hs.blk b _ i hb hi
    cases o' <;> simp only [BRel] at hr
    exact (hr.2.2.2.2.1 trivial).2
  case h_2 hb =>
    obtain ⟨o', _, hr⟩ := hs.blk b _ i hb hi
    cases o' <;> simp only [BRel] at hr
    exact hr.1
  case h_3 hb =>
    obtain ⟨o', _, hr⟩ := hs.blk b _ i hb hi
    cases o' <;> simp only [BRel] at hr
    exact hr.1
  case h_4 hb =>
    obtain ⟨o', _, hr⟩ := hs.blk b _ i hb hi
    cases o' <;> simp only [BRel] at hr
    exact hr.1
  case h_5 hb =>
    obtain ⟨o', _, hr⟩ := hs.blk b _ i hb hi
    have key : ∀ o', BRel C base ι i .dfr o' → base ≤ i.blk := by
      intro o' hr
      unfold BRel at hr
      split at hr <;> simp_all
    exact key o' hr
  case h_6 => exact hm.elim

theorem Ok.ext (ho : Ok P base w0 ι h w) {ι' : Inj} {h' : Heap} {w' : World} (hs : Sim (CRel P) base ι' h' w') (he : Ext ι h w ι' h' w') : Ok P base w0 ι' h' w' :=
  ⟨hs, Nat.le_trans ho.size he.keeps.size, fun k hk => by
    rw [he.keeps.block k (Nat.lt_of_lt_of_le hk ho.size) (fun hm => by have := own_ge ho.sim hm; omega)]
    exact ho.old k hk⟩

def EndRep (ι : Inj) : Out → Ending → Prop
  | .ret v, .returned v' => Rep ι v v'
  | .pan v, .panicked [x] => x.recovered = false ∧ x.goexit = false ∧ Rep ι v x.v
  | _, _ => False

def CallPost (P : Program) (base : Nat) (w0 : World) (ι : Inj) (h : Heap) (w : World) (out : Out) (h' : Heap) (e : Ending) (w' : World) : Prop :=
  ∃ ι', Ok P base w0 ι' h' w' ∧ Ext ι h w ι' h' w' ∧ EndRep ι' out e

def CalleeOk (P : Program) (f : FuncId) : Prop := ∃ fn, P.funcs[f]? = some fn ∧ fn.body.isSome = true ∧ (fn.name == "runtime.NumGoroutine") = false

theorem CalleeOk.run {f : FuncId} (h : CalleeOk P f) (args : Array Value) (w : World) : (callFunc f args).run P w = .ok (.enter f args) w := by
  obtain ⟨fn, h1, h2, h3⟩ := h
  have h4 : fn.body ≠ none := by intro e; simp [e] at h2
  have h5 : ¬ fn.name = "runtime.NumGoroutine" := by simpa using h3
  simp [callFunc, h1, h5, h4]

structure CallOk (P : Program) (base : Nat) (w0 : World) (call : CallF) : Prop where
  fn : ∀ f args h out h', call (.fn f) args h = some (out, h') → CalleeOk P f ∧ ∀ ι w rargs, Ok P base w0 ι h w → RepL ι args rargs → Calls P f rargs.toArray w (CallPost P base w0 ι h w out h')
  yld : ∀ l args h out h', call (.yld l) args h = some (out, h') → ∀ ι w rargs i, Ok P base w0 ι h w → RepL ι args rargs → ι l = some i →
    ∃ L : Go.Loop, w.heap[i.blk]? = some (.loop L) ∧ rargs.length = L.params.size ∧
      ∀ n, RoundIn Fence.wide n P i.blk L.fn ((L.params.zip rargs.toArray).foldl (fun tmps (t, a) => tmps.setIfInBounds t a) L.tmps) L.assign L.body w (CallPost P base w0 ι h w out h')

/-- The fence of a plain activation, or of a round's. -/
def FOk (F : Fence) (d : Option (List Dfr)) : Prop := (F = Fence.wide ∧ d.isSome = true) ∨ (∃ l, F = Fence.wide.inRound l ∧ d = none)

theorem FOk.fn {F : Fence} {d : Option (List Dfr)} (h : FOk F d) (f : FuncId) : F.fn f := by rcases h with ⟨rfl, _⟩ | ⟨l, rfl, _⟩ <;> trivial
theorem FOk.depth {F : Fence} {d : Option (List Dfr)} (h : FOk F d) : F.depth = none := by rcases h with ⟨rfl, _⟩ | ⟨l, rfl, _⟩ <;> rfl
theorem FOk.calls {F : Fence} {d : Option (List Dfr)} (h : FOk F d) {n : Nat} {f : FuncId} {args : Array Value} {w : World} {R : Ending → World → Prop} (hc : Calls P f args w R) : CallsIn F n P f args w R := by
  rcases h with ⟨rfl, _⟩ | ⟨l, rfl, _⟩
  · exact callsIn_wide.2 hc
  · exact CallsIn.inRound l (callsIn_wide.2 hc)
theorem FOk.round {F : Fence} {d : Option (List Dfr)} (h : FOk F d) {n l : Nat} {f : FuncId} {tmps : Array Value} {asg body : Code} {w : World} {R : Ending → World → Prop} (hc : RoundIn Fence.wide n P l f tmps asg body w R) : RoundIn F n P l f tmps asg body w R := by
  rcases h with ⟨rfl, _⟩ | ⟨k, rfl, _⟩
  · exact hc
  · exact hc

def DL (ι : Inj) : List Dfr → List Deferred → Prop
  | [], [] => True
  | .fn f vs :: ds, d :: ds' => (∃ cap, d.target = .fn (.func f) cap ∧ RepL ι vs (d.args.toList ++ cap.toList)) ∧ DL ι ds ds'
  | .mark b :: ds, d :: ds' => (∃ i, ι b = some i ∧ d.target = .collected i.blk) ∧ DL ι ds ds'
  | _, _ => False

def DRep (ι : Inj) : Option (List Dfr) → List Deferred → Prop
  | none, ds => ds = []
  | some ds, ds' => DL ι ds ds'

theorem DL.mono {ι ι' : Inj} (hl : ι.le ι') : ∀ {ds : List Dfr} {ds' : List Deferred}, DL ι ds ds' → DL ι' ds ds'
  | [], [], h => h
  | [], _ :: _, h => h.elim
  | .fn f vs :: ds, [], h => h.elim
  | .mark b :: ds, [], h => h.elim
  | .fn f vs :: ds, d :: ds', ⟨⟨cap, h1, h2⟩, h3⟩ => ⟨⟨cap, h1, h2.mono hl⟩, h3.mono hl⟩
  | .mark b :: ds, d :: ds', ⟨⟨i, h1, h2⟩, h3⟩ => ⟨⟨i, hl _ _ h1, h2⟩, h3.mono hl⟩
theorem DRep.mono {ι ι' : Inj} (hl : ι.le ι') {d : Option (List Dfr)} {ds : List Deferred} (h : DRep ι d ds) : DRep ι' d ds := by
  cases d with
  | none => exact h
  | some ds' => exact DL.mono hl h
theorem ERep.mono {ι ι' : Inj} (hl : ι.le ι') {e : Env} {t : Array Value} (h : ERep ι e t) : ERep ι' e t := fun j => (h j).mono hl

def ExRel (ι : Inj) (e : Env) (tmps : Array Value) : Ex → Exit → Prop
  | .normal, .normal | .ret, .ret => ERep ι e tmps
  | .brk i, .exit j => i = j ∧ ERep ι e tmps
  | .pan v, .panic [c] => c.recovered = false ∧ c.goexit = false ∧ Rep ι v c.v ∧ PERep ι e tmps
  | _, _ => False

/-- Where code has come to. -/
def ExPost (P : Program) (base : Nat) (w0 : World) (nt : Nat) (ι : Inj) (h : Heap) (w : World) (x : Ex) (s' : St) (e : Exit) (a' : Act) (w' : World) : Prop :=
  ∃ ι', Ok P base w0 ι' s'.h w' ∧ Ext ι h w ι' s'.h w' ∧ a'.tmps.size = nt ∧ DRep ι' s'.d a'.defers ∧ ExRel ι' s'.e a'.tmps x e

theorem ExPost.trans {nt : Nat} {ι1 : Inj} {h1 : Heap} {w1 : World} {x : Ex} {s' : St} {e : Exit} {a' : Act} {w' : World} (he : Ext ι h w ι1 h1 w1) (hp : ExPost P base w0 nt ι1 h1 w1 x s' e a' w') : ExPost P base w0 nt ι h w x s' e a' w' :=
  let ⟨ι', a, b, c⟩ := hp
  ⟨ι', a, he.trans b, c⟩

theorem opdRep_of {e : Env} {a : Act} (h : ERep ι e a.tmps) : OpdRep ι e a.eval := by
  refine ⟨fun x o hx => ?_, fun v => rfl⟩
  cases x with
  | tmp t => simp [copd] at hx; subst hx; exact h t
  | const v =>
    simp only [copd] at hx
    split at hx
    · cases hx; exact constOk_rep (by assumption)
    · cases hx
  | global g => simp [copd] at hx
  | func f => simp [copd] at hx; subst hx; exact .func rfl (fun k v v' h => by simp at h) rfl (fun k v v' h => by simp at h)

theorem ERep.put {e : Env} {tmps : Array Value} (h : ERep ι e tmps) {d : Nat} (hd : d < tmps.size) {v v' : Value} (hv : Rep ι v v') : ERep ι (upd e d v) (tmps.setIfInBounds d v') := by
  intro j
  unfold upd
  by_cases e : j = d
  · subst e; simp [hd, hv]
  · rw [if_neg e]
    have := h j
    simp only [Array.getD_eq_getD_getElem?, Array.getElem?_setIfInBounds, if_neg (Ne.symm e)] at this ⊢
    exact this

theorem ERep.putO {e : Env} {a : Act} (h : ERep ι e a.tmps) {dst : Option Nat} (hd : ∀ d, dst = some d → d < a.tmps.size) {v v' : Value} (hv : Rep ι v v') : ERep ι (dstUpd e dst v) (a.put dst v').tmps := by
  cases dst with
  | none => exact h
  | some d => exact h.put (hd d rfl) hv

theorem rep_bool' {v : Value} {b : Bool} (h : Rep ι v (.bool b)) : v = .bool b := by cases h; rfl

theorem wanted_spec {nt : Nat} {ops : Array Oper} {o : Oper} {x : Step} (hx : cstep P nt ops o = some x) {e : Env} {tmps : Array Value} (h : ERep ι e tmps) : Region.wanted o (yielded ops tmps) = wantedE e x.grd := by
  unfold cstep at hx
  split at hx
  · cases hx
  split at hx
  case isFalse => cases hx
  split at hx
  · rename_i hg; cases hx; simp [Region.wanted, hg, wantedE]
  · rename_i j b hg
    split at hx
    case h_2 => cases hx
    rename_i t ht
    cases hx
    simp only [Region.wanted, hg, wantedE, yielded, ht, Option.bind_some]
    have hr := h t
    cases hq : tmps[t]? with
    | none =>
      have : tmps.getD t undef = undef := by simp [Array.getD_eq_getD_getElem?, hq]
      rw [this] at hr
      have : e t = .tuple #[] := by
        cases hr2 : e t <;> rw [hr2] at hr <;> cases hr
        rename_i x hs _
        simp at hs
        simp [hs]
      simp [this]
    | some u =>
      have hu : tmps.getD t undef = u := by simp [Array.getD_eq_getD_getElem?, hq]
      rw [hu] at hr
      generalize e t = v at hr
      cases hr <;> simp

theorem cstep_spec {nt : Nat} {ops : Array Oper} {o : Oper} {x : Step} (hx : cstep P nt ops o = some x) : x.dst = o.dst ∧ cstm P o.op = some x.stm ∧ ∀ d, o.dst = some d → d < nt := by
  unfold cstep at hx
  split at hx
  · cases hx
  rename_i m hm
  split at hx
  case isFalse => cases hx
  rename_i hd
  have hd' : ∀ d, o.dst = some d → d < nt := fun d h => by rw [h] at hd; simpa [dstOk] using hd
  split at hx
  · cases hx; exact ⟨rfl, hm, hd'⟩
  · split at hx
    · cases hx; exact ⟨rfl, hm, hd'⟩
    · cases hx

end Go.Idl
