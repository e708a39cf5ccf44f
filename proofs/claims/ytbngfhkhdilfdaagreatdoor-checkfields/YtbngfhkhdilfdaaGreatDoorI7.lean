/- Texts of the proof. -/
import Derived.Test.YtbngfhkhdilfdaaGreatDoorI3g
import Derived.RangeFuncLeaves
import Derived.RangeFuncCalls
import Derived.RecoverIn
import Derived.OrdersIn
import Derived.Scope
import Derived.LoopNIn
import Derived.RangeFuncRecord
set_option linter.unusedVariables false
set_option linter.unusedSimpArgs false
set_option maxRecDepth 100000
section
namespace Go.Idl
abbrev CRel (P : Program) : Nat → IC → Code → Prop := fun nt ic code => cic P nt code = some ic
structure Ok (P : Program) (base : Nat) (w0 : World) (ι : Inj) (h : Heap) (w : World) : Prop where
 sim : Sim (CRel P) base ι h w
 size : base ≤ w.heap.size
 old : ∀ k, k < base → w.heap[k]? = w0.heap[k]?
variable {P : Program} {base : Nat} {w0 : World} {ι : Inj} {h : Heap} {w : World}
theorem own_ge {C : Nat → IC → Code → Prop} (hs : Sim C base ι h w) {r : Nat} (hr : Own ι h r) : base ≤ r := by
 obtain ⟨b, i, hi, rfl, hm⟩ := hr
 unfold mine at hm
 split at hm
 case h_1 hb =>
  obtain ⟨o', _, hr⟩ := hs.blk b _ i hb hi
  cases o' <;> simp only [BRel] at hr
  exact (hr.2.2.2.2.1 trivial).2
 case h_2 hb =>
  obtain ⟨o', _, hr⟩ := hs.blk b _ i hb hi
  cases o' <;> simp only [BRel] at hr
  exact hr.1
 case h_3 hb =>
  obtain ⟨o', _, hr⟩ := hs.blk b _ i hb hi
  cases o' <;> simp only [BRel] at hr
  exact hr.1
 case h_4 hb =>
  obtain ⟨o', _, hr⟩ := hs.blk b _ i hb hi
  cases o' <;> simp only [BRel] at hr
  exact hr.1
 case h_5 hb =>
  obtain ⟨o', _, hr⟩ := hs.blk b _ i hb hi
  have key : ∀ o', BRel C base ι i .dfr o' → base ≤ i.blk := by
   intro o' hr
   unfold BRel at hr
   split at hr <;> simp_all
  exact key o' hr
 case h_6 => exact hm.elim
theorem Ok.ext (ho : Ok P base w0 ι h w) {ι' : Inj} {h' : Heap} {w' : World} (hs : Sim (CRel P) base ι' h' w') (he : Ext ι h w ι' h' w') : Ok P base w0 ι' h' w' :=
 ⟨hs, Nat.le_trans ho.size he.keeps.size, fun k hk => by
  rw [he.keeps.block k (Nat.lt_of_lt_of_le hk ho.size) (fun hm => by have := own_ge ho.sim hm; omega)]
  exact ho.old k hk⟩
def EndRep (ι : Inj) : Out → Ending → Prop
 | .ret v, .returned v' => Rep ι v v'
 | .pan v, .panicked [x] => x.recovered = false ∧ x.goexit = false ∧ Rep ι v x.v
 | _, _ => False
def CallPost (P : Program) (base : Nat) (w0 : World) (ι : Inj) (h : Heap) (w : World) (out : Out) (h' : Heap) (e : Ending) (w' : World) : Prop :=
 ∃ ι', Ok P base w0 ι' h' w' ∧ Ext ι h w ι' h' w' ∧ EndRep ι' out e
def CalleeOk (P : Program) (f : FuncId) : Prop := ∃ fn, P.funcs[f]? = some fn ∧ fn.body.isSome = true ∧ (fn.name == "runtime.NumGoroutine") = false
theorem CalleeOk.run {f : FuncId} (h : CalleeOk P f) (args : Array Value) (w : World) : (callFunc f args).run P w = .ok (.enter f args) w := by
 obtain ⟨fn, h1, h2, h3⟩ := h
 have h4 : fn.body ≠ none := by intro e; simp [e] at h2
 have h5 : ¬ fn.name = "runtime.NumGoroutine" := by simpa using h3
 simp [callFunc, h1, h5, h4]
structure CallOk (P : Program) (base : Nat) (w0 : World) (call : CallF) : Prop where
 fn : ∀ f args h out h', call (.fn f) args h = some (out, h') → CalleeOk P f ∧ ∀ ι w rargs, Ok P base w0 ι h w → RepL ι args rargs → Calls P f rargs.toArray w (CallPost P base w0 ι h w out h')
 yld : ∀ l args h out h', call (.yld l) args h = some (out, h') → ∀ ι w rargs i, Ok P base w0 ι h w → RepL ι args rargs → ι l = some i →
  ∃ L : Go.Loop, w.heap[i.blk]? = some (.loop L) ∧ rargs.length = L.params.size ∧
   ∀ n, RoundIn Fence.wide n P i.blk L.fn ((L.params.zip rargs.toArray).foldl (fun tmps (t, a) => tmps.setIfInBounds t a) L.tmps) L.assign L.body w (CallPost P base w0 ι h w out h')
def FOk (F : Fence) (d : Option (List Dfr)) : Prop := (F = Fence.wide ∧ d.isSome = true) ∨ (∃ l, F = Fence.wide.inRound l ∧ d = none)
theorem FOk.fn {F : Fence} {d : Option (List Dfr)} (h : FOk F d) (f : FuncId) : F.fn f := by rcases h with ⟨rfl, _⟩ | ⟨l, rfl, _⟩ <;> trivial
theorem FOk.depth {F : Fence} {d : Option (List Dfr)} (h : FOk F d) : F.depth = none := by rcases h with ⟨rfl, _⟩ | ⟨l, rfl, _⟩ <;> rfl
theorem FOk.calls {F : Fence} {d : Option (List Dfr)} (h : FOk F d) {n : Nat} {f : FuncId} {args : Array Value} {w : World} {R : Ending → World → Prop} (hc : Calls P f args w R) : CallsIn F n P f args w R := by
 rcases h with ⟨rfl, _⟩ | ⟨l, rfl, _⟩
 ·exact callsIn_wide.2 hc
 ·exact CallsIn.inRound l (callsIn_wide.2 hc)
theorem FOk.round {F : Fence} {d : Option (List Dfr)} (h : FOk F d) {n l : Nat} {f : FuncId} {tmps : Array Value} {asg body : Code} {w : World} {R : Ending → World → Prop} (hc : RoundIn Fence.wide n P l f tmps asg body w R) : RoundIn F n P l f tmps asg body w R := by
 rcases h with ⟨rfl, _⟩ | ⟨k, rfl, _⟩
 ·exact hc
 ·exact hc
def DL (ι : Inj) : List Dfr → List Deferred → Prop
 | [], [] => True
 | .fn f vs :: ds, d :: ds' => (∃ cap, d.target = .fn (.func f) cap ∧ RepL ι vs (d.args.toList ++ cap.toList)) ∧ DL ι ds ds'
 | .mark b :: ds, d :: ds' => (∃ i, ι b = some i ∧ d.target = .collected i.blk) ∧ DL ι ds ds'
 | _, _ => False
def DRep (ι : Inj) : Option (List Dfr) → List Deferred → Prop
 | none, ds => ds = []
 | some ds, ds' => DL ι ds ds'
theorem DL.mono {ι ι' : Inj} (hl : ι.le ι') : ∀ {ds : List Dfr} {ds' : List Deferred}, DL ι ds ds' → DL ι' ds ds'
 | [], [], h => h
 | [], _ :: _, h => h.elim
 | .fn f vs :: ds, [], h => h.elim
 | .mark b :: ds, [], h => h.elim
 | .fn f vs :: ds, d :: ds', ⟨⟨cap, h1, h2⟩, h3⟩ => ⟨⟨cap, h1, h2.mono hl⟩, h3.mono hl⟩
 | .mark b :: ds, d :: ds', ⟨⟨i, h1, h2⟩, h3⟩ => ⟨⟨i, hl _ _ h1, h2⟩, h3.mono hl⟩
theorem DRep.mono {ι ι' : Inj} (hl : ι.le ι') {d : Option (List Dfr)} {ds : List Deferred} (h : DRep ι d ds) : DRep ι' d ds := by
 cases d with
 | none => exact h
 | some ds' => exact DL.mono hl h
theorem ERep.mono {ι ι' : Inj} (hl : ι.le ι') {e : Env} {t : Array Value} (h : ERep ι e t) : ERep ι' e t := fun j => (h j).mono hl
def ExRel (ι : Inj) (e : Env) (tmps : Array Value) : Ex → Exit → Prop
 | .normal, .normal | .ret, .ret => ERep ι e tmps
 | .brk i, .exit j => i = j ∧ ERep ι e tmps
 | .pan v, .panic [c] => c.recovered = false ∧ c.goexit = false ∧ Rep ι v c.v ∧ PERep ι e tmps
 | _, _ => False
def ExPost (P : Program) (base : Nat) (w0 : World) (nt : Nat) (ι : Inj) (h : Heap) (w : World) (x : Ex) (s' : St) (e : Exit) (a' : Act) (w' : World) : Prop :=
 ∃ ι', Ok P base w0 ι' s'.h w' ∧ Ext ι h w ι' s'.h w' ∧ a'.tmps.size = nt ∧ DRep ι' s'.d a'.defers ∧ ExRel ι' s'.e a'.tmps x e
theorem ExPost.trans {nt : Nat} {ι1 : Inj} {h1 : Heap} {w1 : World} {x : Ex} {s' : St} {e : Exit} {a' : Act} {w' : World} (he : Ext ι h w ι1 h1 w1) (hp : ExPost P base w0 nt ι1 h1 w1 x s' e a' w') : ExPost P base w0 nt ι h w x s' e a' w' :=
 let ⟨ι', a, b, c⟩ := hp
 ⟨ι', a, he.trans b, c⟩
theorem opdRep_of {e : Env} {a : Act} (h : ERep ι e a.tmps) : OpdRep ι e a.eval := by
 refine ⟨fun x o hx => ?_, fun v => rfl⟩
 cases x with
 | tmp t => simp [copd] at hx; subst hx; exact h t
 | const v =>
  simp only [copd] at hx
  split at hx
  ·cases hx; exact constOk_rep (by assumption)
  ·cases hx
 | global g => simp [copd] at hx
 | func f => simp [copd] at hx; subst hx; exact .func rfl (fun k v v' h => by simp at h) rfl (fun k v v' h => by simp at h)
theorem ERep.put {e : Env} {tmps : Array Value} (h : ERep ι e tmps) {d : Nat} (hd : d < tmps.size) {v v' : Value} (hv : Rep ι v v') : ERep ι (upd e d v) (tmps.setIfInBounds d v') := by
 intro j
 unfold upd
 by_cases e : j = d
 ·subst e; simp [hd, hv]
 ·rw [if_neg e]
  have := h j
  simp only [Array.getD_eq_getD_getElem?, Array.getElem?_setIfInBounds, if_neg (Ne.symm e)] at this ⊢
  exact this
theorem ERep.putO {e : Env} {a : Act} (h : ERep ι e a.tmps) {dst : Option Nat} (hd : ∀ d, dst = some d → d < a.tmps.size) {v v' : Value} (hv : Rep ι v v') : ERep ι (dstUpd e dst v) (a.put dst v').tmps := by
 cases dst with
 | none => exact h
 | some d => exact h.put (hd d rfl) hv
theorem wanted_spec {nt : Nat} {ops : Array Oper} {o : Oper} {x : Step} (hx : cstep P nt ops o = some x) {e : Env} {tmps : Array Value} (h : ERep ι e tmps) : Region.wanted o (yielded ops tmps) = wantedE e x.grd := by
 unfold cstep at hx
 split at hx
 ·cases hx
 split at hx
 case isFalse => cases hx
 split at hx
 ·rename_i hg; cases hx; simp [Region.wanted, hg, wantedE]
 ·rename_i j b hg
  split at hx
  case h_2 => cases hx
  rename_i t ht
  cases hx
  simp only [Region.wanted, hg, wantedE, yielded, ht, Option.bind_some]
  have hr := h t
  cases hq : tmps[t]? with
  | none =>
   have : tmps.getD t undef = undef := by simp [Array.getD_eq_getD_getElem?, hq]
   rw [this] at hr
   have : e t = .tuple #[] := by
    cases hr2 : e t <;> rw [hr2] at hr <;> cases hr
    rename_i x hs _
    simp at hs
    simp [hs]
   simp [this]
  | some u =>
   have hu : tmps.getD t undef = u := by simp [Array.getD_eq_getD_getElem?, hq]
   rw [hu] at hr
   generalize e t = v at hr
   cases hr <;> simp
theorem cstep_spec {nt : Nat} {ops : Array Oper} {o : Oper} {x : Step} (hx : cstep P nt ops o = some x) : x.dst = o.dst ∧ cstm P o.op = some x.stm ∧ ∀ d, o.dst = some d → d < nt := by
 unfold cstep at hx
 split at hx
 ·cases hx
 rename_i m hm
 split at hx
 case isFalse => cases hx
 rename_i hd
 have hd' : ∀ d, o.dst = some d → d < nt := fun d h => by rw [h] at hd; simpa [dstOk] using hd
 split at hx
 ·cases hx; exact ⟨rfl, hm, hd'⟩
 ·split at hx
  ·cases hx; exact ⟨rfl, hm, hd'⟩
  ·cases hx
end Go.Idl
end

section
namespace Go.Idl
variable {P : Program} {base : Nat} {w0 : World} {ι : Inj} {h : Heap} {w : World}
theorem cstm_op {op : Op} {q : IOp} (h : cstm P op = some (.op q)) : cop P op = some q ∧ ∀ c, op ≠ .defer c := by
 unfold cstm at h
 split at h
 ·obtain ⟨a, _, ha⟩ := opt_map h; cases ha
 ·split at h <;> cases h
 ·split at h <;> cases h
 ·obtain ⟨a, _, ha⟩ := opt_map h; cases ha
 ·obtain ⟨a, h1, ha⟩ := opt_map h
  cases ha
  refine ⟨h1, fun c hc => ?_⟩
  subst hc
  simp [cop] at h1
theorem cstm_call {op : Op} {f : FuncId} {as : List Opd} (h : cstm P op = some (.call f as)) : ∃ args ts, op = .call { callee := .value (.func f), args := args, argTypes := ts } ∧ copds args.toList = some as := by
 unfold cstm at h
 split at h
 ·obtain ⟨a, h1, ha⟩ := opt_map h; cases ha; exact ⟨_, _, rfl, h1⟩
 ·split at h <;> cases h
 ·split at h <;> cases h
 ·obtain ⟨a, _, ha⟩ := opt_map h; cases ha
 ·obtain ⟨a, h1, ha⟩ := opt_map h; cases ha
theorem cstm_callv {op : Op} {x : Opd} {as : List Opd} (h : cstm P op = some (.callv x as)) : ∃ y args ts, op = .call { callee := .value y, args := args, argTypes := ts } ∧ copd y = some x ∧ copds args.toList = some as := by
 unfold cstm at h
 split at h
 ·obtain ⟨a, h1, ha⟩ := opt_map h; cases ha
 ·split at h
  ·cases h; exact ⟨_, _, _, rfl, by assumption, by assumption⟩
  ·cases h
 ·split at h <;> cases h
 ·obtain ⟨a, _, ha⟩ := opt_map h; cases ha
 ·obtain ⟨a, h1, ha⟩ := opt_map h; cases ha
theorem cstm_defer {op : Op} {x : Opd} {as : List Opd} (h : cstm P op = some (.defer x as)) : ∃ y args ts, op = .defer { callee := .value y, args := args, argTypes := ts } ∧ copd y = some x ∧ copds args.toList = some as := by
 unfold cstm at h
 split at h
 ·obtain ⟨a, h1, ha⟩ := opt_map h; cases ha
 ·split at h <;> cases h
 ·split at h
  ·cases h; exact ⟨_, _, _, rfl, by assumption, by assumption⟩
  ·cases h
 ·obtain ⟨a, _, ha⟩ := opt_map h; cases ha
 ·obtain ⟨a, h1, ha⟩ := opt_map h; cases ha
theorem cstm_panic {op : Op} {x : Opd} (h : cstm P op = some (.panic x)) : ∃ y, op = .panic y ∧ copd y = some x := by
 unfold cstm at h
 split at h
 ·obtain ⟨a, h1, ha⟩ := opt_map h; cases ha
 ·split at h <;> cases h
 ·split at h <;> cases h
 ·obtain ⟨a, h1, ha⟩ := opt_map h; cases ha; exact ⟨_, rfl, h1⟩
 ·obtain ⟨a, h1, ha⟩ := opt_map h; cases ha
theorem rep_func {f : FuncId} {x y : Array Value} {v' : Value} (h : Rep ι (.func (.func f) x y) v') : ∃ x' y', v' = .func (.func f) x' y' ∧ RepL ι x.toList x'.toList ∧ RepL ι y.toList y'.toList := by
 cases h with
 | func h1 h2 h3 h4 => exact ⟨_, _, rfl, ⟨by simpa using h1, fun k v v' a b => h2 k v v' (by simpa using a) (by simpa using b)⟩, by simpa using h3, fun k v v' a b => h4 k v v' (by simpa using a) (by simpa using b)⟩
theorem rep_yld {l : Nat} {v' : Value} (h : Rep ι (.func (.yield l) #[] #[]) v') : ∃ i, ι l = some i ∧ v' = .func (.yield i.blk) #[] #[] := by
 cases h with
 | yld h => exact ⟨_, h, rfl⟩
theorem ERep.toP {e : Env} {t : Array Value} (h : ERep ι e t) : PERep ι e t := fun j => .inr (h j)
def StepPost (P : Program) (base : Nat) (w0 : World) (nt : Nat) (ι : Inj) (h : Heap) (w : World) (r : Option Value) (s' : St) (next : Act → World → Prop) (Q : Exit → Act → World → Prop) : Prop :=
 match r with
 | none => ∀ ι' a' w', Ok P base w0 ι' s'.h w' → Ext ι h w ι' s'.h w' → a'.tmps.size = nt → ERep ι' s'.e a'.tmps → DRep ι' s'.d a'.defers → next a' w'
 | some v => ∀ e' a' w', ExPost P base w0 nt ι h w (.pan v) s' e' a' w' → Q e' a' w'
theorem put_size (a : Act) (d : Option Tmp) (v : Value) : (a.put d v).tmps.size = a.tmps.size := by cases d <;> simp [Act.put]
theorem put_defers (a : Act) (d : Option Tmp) (v : Value) : (a.put d v).defers = a.defers := by cases d <;> rfl
def TgtRep (ι : Inj) (d : Deferred) (vs : List Value) : Cal → Prop
 | .fn f => ∃ cap, d.target = .fn (.func f) cap ∧ RepL ι vs (d.args.toList ++ cap.toList)
 | .yld l => ∃ i, ι l = some i ∧ d.target = .fn (.yield i.blk) #[] ∧ RepL ι vs d.args.toList
theorem target_spec {x x' : Value} {args : List Value} {args' : Array Value} {c : Cal} {vs : List Value} (ht : target x args = some (c, vs)) (hx : Rep ι x x') (ha : RepL ι args args'.toList) (w : World) :
 ∃ d, (Deferred.ofValue x' args').run P w = .ok d w ∧ TgtRep ι d vs c := by
 unfold target at ht
 split at ht
 ·rename_i f first cap
  cases ht
  obtain ⟨x1, y1, rfl, h1, h2⟩ := rep_func hx
  refine ⟨{ target := .fn (.func f) y1, args := x1 ++ args' }, by simp [Deferred.ofValue], y1, rfl, ?_⟩
  simpa using (h1.append ha).append h2
 ·rename_i l a b
  split at ht
  case isFalse => cases ht
  rename_i hab
  obtain ⟨rfl, rfl⟩ : a = #[] ∧ b = #[] := by simpa using hab
  cases ht
  obtain ⟨i, hi, rfl⟩ := rep_yld hx
  exact ⟨{ target := .fn (.yield i.blk) #[], args := #[] ++ args' }, by simp [Deferred.ofValue], i, hi, rfl, by simpa using ha⟩
 ·cases ht
theorem istm_sound {call : CallF} (hcall : CallOk P base w0 call) {F : Fence} {s s' : St} (hF : FOk F s.d) {nt : Nat} {ops : Array Oper} {o : Oper} {x : Step} (hx : cstep P nt ops o = some x) {r : Option Value}
 (hi : istm call x.dst x.stm s = some (r, s')) {a : Act} (hk : Ok P base w0 ι s.h w) (hsz : a.tmps.size = nt) (hE : ERep ι s.e a.tmps) (hD : DRep ι s.d a.defers) {n : Nat} {next : Act → World → Prop} {Q : Exit → Act → World → Prop}
 (hp : StepPost P base w0 nt ι s.h w r s' next Q) : o.wpIn F n P a w next Q := by
 obtain ⟨hdst, hstm, hdlt⟩ := cstep_spec hx
 have hdlt' : ∀ d, o.dst = some d → d < a.tmps.size := by rw [hsz]; exact hdlt
 have hρ := opdRep_of hE
 refine ⟨fun f _ => hF.fn f, ?_⟩
 have hdep : F.depth.isSome = true → 1 ≤ n := by rw [hF.depth]; simp
 have calls : ∀ {cal : Cal} {vs : List Value} {d : Deferred}, afterCall x.dst s (call cal vs s.h) = some (r, s') →
  TgtRep ι d vs cal →
  ∃ nx, (invoke d.target d.args).run P w = .ok nx w ∧ o.uponIn F n P a next Q (.ok nx w) := by
  intro cal vs d hcl hd
  have cont : ∀ (out : Out) (h' : Heap), call cal vs s.h = some (out, h') → ∀ e w', CallPost P base w0 ι s.h w out h' e w' → (match (motive := Ending → Prop) e with
   | .returned v => next (a.put o.dst v) w'
   | .panicked chain => Q (.panic chain) a w'
   | .outgrown => LetsOut Q) := by
   intro out h' hc e w' ⟨ι', hk', he', hend⟩
   rw [hc] at hcl
   cases out with
   | ret v =>
    cases e with
    | returned v' =>
     simp only [afterCall] at hcl
     cases hcl
     refine hp ι' _ w' hk' he' (by rw [put_size]; exact hsz) ?_ (by rw [put_defers]; exact hD.mono he'.inj)
     rw [hdst]
     exact (hE.mono he'.inj).putO hdlt' hend
    | panicked ch => exact hend.elim
    | outgrown => exact hend.elim
   | pan v =>
    cases e with
    | returned v' => exact hend.elim
    | panicked ch =>
     simp only [afterCall] at hcl
     cases hcl
     cases ch with
     | nil => exact hend.elim
     | cons c ch => cases ch with
      | cons => exact hend.elim
      | nil => exact hp _ a w' ⟨ι', hk', he', hsz, hD.mono he'.inj, hend.1, hend.2.1, hend.2.2, (hE.mono he'.inj).toP⟩
    | outgrown => exact hend.elim
  cases hcv : call cal vs s.h with
  | none => rw [hcv] at hcl; simp [afterCall] at hcl
  | some oh =>
   obtain ⟨out, h'⟩ := oh
   cases cal with
   | fn f =>
    obtain ⟨cap, ht, hvs⟩ := hd
    obtain ⟨hok, hc⟩ := hcall.fn f vs s.h out h' hcv
    refine ⟨.enter f (d.args ++ cap), by rw [ht]; exact hok.run _ w, ?_⟩
    have := hc ι w (d.args ++ cap).toList hk (by simpa using hvs)
    simp only [Array.toArray_toList] at this
    exact ⟨hdep, hF.calls (this.mono fun e w' hpost => by
     have := cont out h' hcv e w' hpost
     cases e <;> exact this)⟩
   | yld l =>
    obtain ⟨i, hι, ht, hvs⟩ := hd
    obtain ⟨L, hL, hlen, hround⟩ := hcall.yld l vs s.h out h' hcv ι w d.args.toList i hk hvs hι
    refine ⟨.round i.blk L.fn ((L.params.zip d.args).foldl (fun tmps (t, a) => tmps.setIfInBounds t a) L.tmps) L.assign L.body, ?_, ?_⟩
    ·rw [ht]
     have hl : ¬ d.args.size ≠ L.params.size := by simp at hlen; omega
     simp only [invoke, Instr.yield, Instr.getLoop, Sem.run_bind]
     have hg : (getObj i.blk).run P w = .ok (.loop L) w := by simp [getObj, Sem.run, hL]
     simp [hg, hl]
    ·simp only [Array.toArray_toList] at hround
     exact ⟨hdep, hF.round ((hround (n - 1)).mono fun e w' hpost => by
      have := cont out h' hcv e w' hpost
      cases e <;> exact this)⟩
 cases hm : x.stm with
 | op q =>
  rw [hm] at hi hstm
  obtain ⟨hcop, hnd⟩ := cstm_op hstm
  simp only [istm] at hi
  split at hi
  case h_2 => cases hi
  rename_i v h' hiop
  cases hi
  obtain ⟨v', w', ι', hdo, hs', he', _, hr⟩ := cop_sound hcop hk.sim hk.size hρ hiop
  have hsem : o.semAt F.round a.eval = execOp a.eval o := Oper.semAt_eq _ _ _ hnd
  rw [hsem]
  have fin : ∀ u, (Rep ι' v u) → next (a.put o.dst u) w' := fun u hu =>
   hp ι' _ w' (hk.ext hs' he') he' (by rw [put_size]; exact hsz) (by rw [hdst]; exact (hE.mono he'.inj).putO hdlt' hu) (by rw [put_defers]; exact hD.mono he'.inj)
  rcases hdo o rfl with hrun | ⟨hrun, rfl⟩
  ·rw [hrun]; exact fin _ hr
  ·rw [hrun]; exact fin _ hr
 | call f args =>
  rw [hm] at hi hstm
  obtain ⟨args', ts, hop, hargs⟩ := cstm_call hstm
  have hsem : o.semAt F.round a.eval = execOp a.eval o := Oper.semAt_eq _ _ _ (by rw [hop]; simp)
  rw [hsem]
  simp only [istm] at hi
  obtain ⟨nx, h1, h2⟩ := calls (d := { target := .fn (.func f) #[], args := args'.map a.eval }) hi ⟨#[], rfl, by simpa using copds_rep hρ hargs⟩
  have : (execOp a.eval o).run P w = .ok nx w := by
   simp only [execOp, hop, resolve, Sem.run_bind]
   have e1 : a.eval (.func f) = .func (.func f) #[] #[] := rfl
   simp only [e1, Deferred.ofValue, Sem.run_pure, Result.andThen_ok, Array.empty_append]
   exact h1
  rw [this]; exact h2
 | callv y args =>
  rw [hm] at hi hstm
  obtain ⟨y', args', ts, hop, hy, hargs⟩ := cstm_callv hstm
  have hsem : o.semAt F.round a.eval = execOp a.eval o := Oper.semAt_eq _ _ _ (by rw [hop]; simp)
  rw [hsem]
  simp only [istm] at hi
  split at hi
  case h_2 => cases hi
  rename_i c vs htg
  obtain ⟨d, hd1, hd2⟩ := target_spec (P := P) htg (hρ.1 _ _ hy) (args' := args'.map a.eval) (by simpa using copds_rep hρ hargs) w
  obtain ⟨nx, h1, h2⟩ := calls hi hd2
  have : (execOp a.eval o).run P w = .ok nx w := by
   simp only [execOp, hop, resolve, Sem.run_bind, hd1, Result.andThen_ok]
   exact h1
  rw [this]; exact h2
 | defer y args =>
  rw [hm] at hi hstm
  obtain ⟨y', args', ts, hop, hy, hargs⟩ := cstm_defer hstm
  simp only [istm] at hi
  split at hi
  case h_2 => cases hi
  rename_i ds f vs hds htg
  cases hi
  have hround : F.round = none := by
   rcases hF with ⟨rfl, _⟩ | ⟨l, rfl, hn⟩
   ·rfl
   ·rw [hn] at hds; cases hds
  obtain ⟨d, hd1, hd2⟩ := target_spec (P := P) htg (hρ.1 _ _ hy) (args' := args'.map a.eval) (by simpa using copds_rep hρ hargs) w
  have : (o.semAt F.round a.eval).run P w = .ok (.defer d) w := by
   rw [hround, Oper.semAt_none]
   simp only [execOp, hop, resolve, Sem.run_bind, hd1, Result.andThen_ok, Sem.run_pure]
  rw [this]
  have hD' : DL ι ds a.defers := by rw [hds] at hD; exact hD
  refine hp ι _ w hk (.refl _ _ _) (by rw [put_size]; exact hsz) ?_ (by rw [put_defers]; exact ⟨hd2, hD'⟩)
  rw [hdst]
  exact ERep.putO (a := { a with defers := d :: a.defers }) hE hdlt' (.tuple rfl (fun k v v' h => by simp at h))
 | panic y =>
  rw [hm] at hi hstm
  obtain ⟨y', hop, hy⟩ := cstm_panic hstm
  have hsem : o.semAt F.round a.eval = execOp a.eval o := Oper.semAt_eq _ _ _ (by rw [hop]; simp)
  rw [hsem]
  simp only [istm] at hi
  split at hi
  case h_2 => cases hi
  rename_i t v hv
  cases hi
  obtain ⟨v', hv', hr⟩ := rep_iface (hv ▸ hρ.1 _ _ hy)
  have : (execOp a.eval o).run P w = .halt (.panic (.iface t v')) w := by
   simp [execOp, hop, hv', Instr.panic, Result.andThen]
  rw [this]
  exact hp _ a w ⟨ι, hk, .refl _ _ _, hsz, hD, rfl, rfl, .iface hr, hE.toP⟩
end Go.Idl
end

section
namespace Go.Idl
variable {P : Program} {base : Nat} {w0 : World} {ι : Inj} {h : Heap} {w : World}
theorem afterCall_d {dst : Option Nat} {s s' : St} {o : Option (Out × Heap)} {r : Option Value} (h : afterCall dst s o = some (r, s')) : s'.d = s.d := by
 unfold afterCall at h
 split at h <;> cases h <;> rfl
theorem istm_d {call : CallF} {dst : Option Nat} {m : Stm} {s s' : St} {r : Option Value} (h : istm call dst m s = some (r, s')) : s'.d.isSome = s.d.isSome := by
 unfold istm at h
 split at h
 ·split at h
  ·cases h; rfl
  ·cases h
 ·rw [afterCall_d h]
 ·split at h
  ·rw [afterCall_d h]
  ·cases h
 ·split at h
  ·rename_i ds f vs hd _
   cases h; simp [hd]
  ·cases h
 ·split at h
  ·cases h; rfl
  ·cases h
theorem FOk.of {F : Fence} {d d' : Option (List Dfr)} (h : FOk F d) (e : d'.isSome = d.isSome) : FOk F d' := by
 rcases h with ⟨h1, h2⟩ | ⟨l, h1, h2⟩
 ·exact .inl ⟨h1, by rw [e, h2]⟩
 ·refine .inr ⟨l, h1, ?_⟩
  subst h2
  cases d' <;> simp_all
def stepRes (call : CallF) (x : Step) (s : St) : Option (Option Value × St) :=
 if wantedE s.e x.grd then istm call x.dst x.stm s else some (none, { s with e := dstUpd s.e x.dst undef })
theorem iops_cons (call : CallF) (x : Step) (rest : List Step) (s : St) : iops call (x :: rest) s = match stepRes call x s with
 | some (none, s') => iops call rest s'
 | r => r := by
 simp only [iops, stepRes]
 split <;> rfl
theorem csteps_cons {nt : Nat} {ops : Array Oper} {o : Oper} {os : List Oper} {l : List Step} (h : csteps P nt ops (o :: os) = some l) : ∃ x xs, l = x :: xs ∧ cstep P nt ops o = some x ∧ csteps P nt ops os = some xs := by
 simp only [csteps] at h
 split at h
 ·cases h; exact ⟨_, _, rfl, by assumption, by assumption⟩
 ·cases h
theorem stepRes_d {call : CallF} {x : Step} {s s' : St} {r : Option Value} (h : stepRes call x s = some (r, s')) : s'.d.isSome = s.d.isSome := by
 unfold stepRes at h
 split at h
 ·exact istm_d h
 ·cases h; rfl
theorem rep_undef : Rep ι undef undef := .tuple rfl (fun k v v' h => by simp at h)
theorem step_sound {call : CallF} (hcall : CallOk P base w0 call) {F : Fence} {s s' : St} (hF : FOk F s.d) {nt : Nat} {ops : Array Oper} {o : Oper} {x : Step} (hx : cstep P nt ops o = some x) {r : Option Value}
 (hi : stepRes call x s = some (r, s')) {a : Act} (hk : Ok P base w0 ι s.h w) (hsz : a.tmps.size = nt) (hE : ERep ι s.e a.tmps) (hD : DRep ι s.d a.defers) {n : Nat} {next : Act → World → Prop} {Q : Exit → Act → World → Prop}
 (hp : StepPost P base w0 nt ι s.h w r s' next Q) :
 if Region.wanted o (yielded ops a.tmps) then o.wpIn F n P a w next Q else (∀ f, o.about P w a.eval = some f → F.fn f) ∧ next (a.put o.dst undef) w := by
 have hw := wanted_spec hx hE
 rw [hw]
 unfold stepRes at hi
 by_cases hwe : wantedE s.e x.grd = true
 ·rw [if_pos hwe] at hi ⊢
  exact istm_sound hcall hF hx hi hk hsz hE hD hp
 ·rw [if_neg hwe] at hi ⊢
  cases hi
  obtain ⟨hdst, _, hdlt⟩ := cstep_spec hx
  refine ⟨fun f _ => hF.fn f, hp ι _ w hk (.refl _ _ _) (by rw [put_size]; exact hsz) ?_ (by rw [put_defers]; exact hD)⟩
  rw [hdst]
  exact hE.putO (by rw [hsz]; exact hdlt) rep_undef
theorem iops_sound {call : CallF} (hcall : CallOk P base w0 call) {F : Fence} {nt n : Nat} {ops : Array Oper} {Q : Exit → Act → World → Prop} :
 ∀ (os : List Oper) (k : Nat) (l : List Step), ops.toList.drop k = os → csteps P nt ops os = some l → ∀ {s : St} {ι : Inj} {a : Act} {w : World}, FOk F s.d → Ok P base w0 ι s.h w → a.tmps.size = nt → ERep ι s.e a.tmps → DRep ι s.d a.defers →
  ∀ {x : Ex} {s' : St}, exOf (iops call l s) = some (x, s') → (∀ e a' w', ExPost P base w0 nt ι s.h w x s' e a' w' → Q e a' w') → wpOpsIn F n P ops Q (List.range' k os.length) a w
 | [], k, l, hos, hl, s, ι, a, w, hF, hk, hsz, hE, hD, x, s', hi, hQ => by
  simp only [csteps, Option.some.injEq] at hl
  subst hl
  simp only [iops, exOf, Option.some.injEq, Prod.mk.injEq] at hi
  obtain ⟨rfl, rfl⟩ := hi
  simp only [List.length_nil, List.range'_zero, wpOpsIn]
  exact hQ _ _ _ ⟨ι, hk, .refl _ _ _, hsz, hD, hE⟩
 | o :: os, k, l, hos, hl, s, ι, a, w, hF, hk, hsz, hE, hD, x, s', hi, hQ => by
  obtain ⟨y, ys, rfl, hy, hys⟩ := csteps_cons hl
  have hko : ops[k]? = some o := by
   have : (ops.toList.drop k)[0]? = some o := by rw [hos]; rfl
   simpa using this
  have hos' : ops.toList.drop (k + 1) = os := by
   rw [← List.drop_drop, hos]; rfl
  simp only [List.length_cons, List.range'_succ, wpOpsIn, hko]
  rw [iops_cons] at hi
  cases hs1 : stepRes call y s with
  | none => rw [hs1] at hi; simp [exOf] at hi
  | some rs =>
   obtain ⟨r, s1⟩ := rs
   rw [hs1] at hi
   have hd := stepRes_d hs1
   refine step_sound hcall hF hy hs1 hk hsz hE hD ?_
   cases r with
   | none =>
    intro ι' a' w' hk' he' hsz' hE' hD'
    exact iops_sound hcall os (k + 1) ys hos' hys (hF.of hd) hk' hsz' hE' hD' hi (fun e a2 w2 hp => hQ e a2 w2 (hp.trans he'))
   | some v =>
    simp only [exOf, Option.some.injEq, Prod.mk.injEq] at hi
    obtain ⟨rfl, rfl⟩ := hi
    intro e' a' w' hp
    exact hQ _ _ _ hp
theorem wpIn_some {F : Fence} (hF : F.depth = none) {n : Nat} {o : Oper} {a : Act} {next : Act → World → Prop} (h : o.wpIn F n P a w next (fun _ _ _ => False)) : ∃ a' w', next a' w' := by
 have h := h.2
 generalize (o.semAt F.round a.eval).run P w = r at h
 have hroom : ∀ k, F.room k := fun k d hd => by rw [hF] at hd; cases hd
 cases r with
 | halt x w' => cases x <;> simp only [Oper.uponIn] at h
 | ok x w' =>
  cases x <;> simp only [Oper.uponIn] at h
  case value v => exact ⟨_, _, h⟩
  case skip => exact ⟨_, _, h⟩
  case defer d => exact ⟨_, _, h⟩
  case enter f args =>
   obtain ⟨e, w2, fr, hr, _⟩ := h.2.2 [] (hroom _)
   cases e
   ·exact ⟨_, _, hr⟩
   ·exact hr.elim
   ·obtain ⟨_, _, hf⟩ := hr; exact hf.elim
  case row row args =>
   obtain ⟨v, w2, hr, _⟩ := h.2 (Frame.enter P 0 #[] .normal) [] (hroom _)
   exact ⟨_, _, hr⟩
  case round l f tmps asg body =>
   obtain ⟨e, w2, hr, _⟩ := h.2.2 (Frame.enter P 0 #[] .normal) [] (hroom _)
   cases e
   ·exact ⟨_, _, hr⟩
   ·exact hr.elim
   ·obtain ⟨_, _, hf⟩ := hr; exact hf.elim
theorem step_some {call : CallF} (hcall : CallOk P base w0 call) {F : Fence} {s s' : St} (hF : FOk F s.d) {nt : Nat} {ops : Array Oper} {o : Oper} {x : Step} (hx : cstep P nt ops o = some x)
 (hi : stepRes call x s = some (none, s')) {a : Act} (hk : Ok P base w0 ι s.h w) (hsz : a.tmps.size = nt) (hE : ERep ι s.e a.tmps) (hD : DRep ι s.d a.defers) :
 ∃ (ι' : Inj) (a' : Act) (w' : World), Ok P base w0 ι' s'.h w' ∧ Ext ι s.h w ι' s'.h w' ∧ a'.tmps.size = nt ∧ ERep ι' s'.e a'.tmps ∧ DRep ι' s'.d a'.defers := by
 have h := step_sound hcall hF hx hi hk hsz hE hD (n := 0) (Q := fun _ _ _ => False) (next := fun (a' : Act) w' => ∃ ι', Ok P base w0 ι' s'.h w' ∧ Ext ι s.h w ι' s'.h w' ∧ a'.tmps.size = nt ∧ ERep ι' s'.e a'.tmps ∧ DRep ι' s'.d a'.defers)
  (fun ι' a' w' h1 h2 h3 h4 h5 => ⟨ι', h1, h2, h3, h4, h5⟩)
 split at h
 ·obtain ⟨a', w', ι', hh⟩ := wpIn_some hF.depth h
  exact ⟨ι', a', w', hh⟩
 ·obtain ⟨_, ι', hh⟩ := h
  exact ⟨ι', _, w, hh⟩
theorem ev_congr {e e' : Env} {l : List Opd} (h : ∀ t ∈ opdsT l, e t = e' t) : ∀ x ∈ l, ev e x = ev e' x := by
 intro x hx
 cases x with
 | t i => exact h i (by simp only [opdsT, List.mem_flatMap]; exact ⟨_, hx, by simp [opdT]⟩)
 | c v => rfl
theorem bndO_congr {e e' : Env} {x : Option Opd} (h : ∀ y ∈ x.toList, ev e y = ev e' y) (lo hi d : Nat) : bndO e lo hi d x = bndO e' lo hi d x := by
 cases x with
 | none => rfl
 | some y => simp only [bndO]; rw [h y (by simp)]
theorem iop_congr {e e' : Env} {o : IOp} (h : ∀ x ∈ iopOpds o, ev e x = ev e' x) (hp : Heap) : iop o e hp = iop o e' hp := by
 cases o
 case build z ps =>
  have : evps e ps = evps e' ps := List.map_congr_left fun p hpm => by rw [h _ (by simp only [iopOpds, List.mem_map]; exact ⟨p, hpm, rfl⟩)]
  simp only [iop, this]
 case lit esz len z ps =>
  have : evps e ps = evps e' ps := List.map_congr_left fun p hpm => by rw [h _ (by simp only [iopOpds, List.mem_map]; exact ⟨p, hpm, rfl⟩)]
  simp only [iop, this]
 case fn f a b =>
  simp only [iop]
  rw [List.map_congr_left (f := ev e) (g := ev e') fun x hx => h x (by simp [iopOpds, hx]), List.map_congr_left (l := b) (f := ev e) (g := ev e') fun x hx => h x (by simp [iopOpds, hx])]
 case sub k x lo hi mx =>
  have hx := h x (by simp [iopOpds])
  have hlo := fun a b c => bndO_congr (e := e) (e' := e') (x := lo) (fun y hy => h y (by simp [iopOpds] at hy ⊢; simp [hy])) a b c
  have hhi := fun a b c => bndO_congr (e := e) (e' := e') (x := hi) (fun y hy => h y (by simp [iopOpds] at hy ⊢; simp [hy])) a b c
  simp only [iop, hx, hlo, hhi]
  cases mx with
  | none => rfl
  | some m => simp only [h m (by simp [iopOpds])]
 all_goals
  simp only [iopOpds, List.mem_cons, List.not_mem_nil, or_false, forall_eq_or_imp, forall_eq] at h
  simp only [iop, h]
theorem map_ev_congr {e e' : Env} {l : List Opd} (h : ∀ x ∈ l, ev e x = ev e' x) : l.map (ev e) = l.map (ev e') := List.map_congr_left h
theorem istm_congr {call : CallF} {dst : Option Nat} {m : Stm} {e e' : Env} {hp : Heap} {d : Option (List Dfr)} (hev : ∀ x ∈ stmOpds m, ev e x = ev e' x) {r : Option Value} {s' : St} (hi : istm call dst m ⟨e, hp, d⟩ = some (r, s')) :
 (∃ v, r = none ∧ s' = ⟨dstUpd e dst v, s'.h, s'.d⟩ ∧ istm call dst m ⟨e', hp, d⟩ = some (none, ⟨dstUpd e' dst v, s'.h, s'.d⟩)) ∨
 (∃ v, r = some v ∧ s' = ⟨e, s'.h, d⟩ ∧ istm call dst m ⟨e', hp, d⟩ = some (some v, ⟨e', s'.h, d⟩)) := by
 have after : ∀ {o : Option (Out × Heap)}, afterCall dst ⟨e, hp, d⟩ o = some (r, s') → (∃ v, r = none ∧ s' = ⟨dstUpd e dst v, s'.h, s'.d⟩ ∧ afterCall dst ⟨e', hp, d⟩ o = some (none, ⟨dstUpd e' dst v, s'.h, s'.d⟩)) ∨
  (∃ v, r = some v ∧ s' = ⟨e, s'.h, d⟩ ∧ afterCall dst ⟨e', hp, d⟩ o = some (some v, ⟨e', s'.h, d⟩)) := by
  intro o ho
  unfold afterCall at ho
  split at ho
  ·cases ho; exact .inl ⟨_, rfl, rfl, rfl⟩
  ·cases ho; exact .inr ⟨_, rfl, rfl, rfl⟩
  ·cases ho
 unfold istm at hi ⊢
 cases m with
 | op o =>
  simp only [stmOpds] at hev
  simp only at hi ⊢
  rw [← iop_congr hev]
  split at hi
  ·rename_i v h' hio; cases hi; exact .inl ⟨v, rfl, rfl, rfl⟩
  ·cases hi
 | call f args =>
  simp only [stmOpds] at hev
  simp only at hi ⊢
  rw [← map_ev_congr hev]; exact after hi
 | callv x args =>
  simp only [stmOpds] at hev
  simp only at hi ⊢
  rw [← hev x (by simp), ← map_ev_congr fun y hy => hev y (by simp [hy])]
  split at hi
  ·rename_i htg; exact after hi
  ·cases hi
 | defer x args =>
  simp only [stmOpds] at hev
  simp only at hi ⊢
  rw [← hev x (by simp), ← map_ev_congr fun y hy => hev y (by simp [hy])]
  split at hi
  ·cases hi; exact .inl ⟨undef, rfl, rfl, rfl⟩
  ·cases hi
 | panic x =>
  simp only [stmOpds] at hev
  simp only at hi ⊢
  rw [← hev x (by simp)]
  split at hi
  ·cases hi; exact .inr ⟨_, rfl, rfl, rfl⟩
  ·cases hi
theorem semAt_congr {ρ ρ' : Operand → Value} (ro : Option Nat) (o : Oper) (hs : ∀ cs b, o.op ≠ .select cs b) (h : ∀ x ∈ o.op.operands, ρ x = ρ' x) : o.semAt ro ρ = o.semAt ro ρ' := by
 unfold Oper.semAt
 split
 ·rename_i c hop
  rw [resolve_congr c _ fun x hx => h x (by rw [hop]; simpa [Op.operands] using hx)]
 ·exact execOp_congr o hs h
theorem wpIn_same {F : Fence} {n : Nat} {o : Oper} {a b : Act} (hs : ∀ cs c, o.op ≠ .select cs c) (he : ∀ x ∈ o.op.operands, b.eval x = a.eval x) (hd : b.defers = a.defers) {next next' : Act → World → Prop} {Q Q' : Exit → Act → World → Prop}
 (hn : ∀ v ds w', next' ({ b with defers := ds }.put o.dst v) w' → next ({ a with defers := ds }.put o.dst v) w') (hQ : ∀ c w', Q' (.panic c) b w' → Q (.panic c) a w') (hl : LetsOut Q' → LetsOut Q)
 (h : o.wpIn F n P b w next' Q') : o.wpIn F n P a w next Q := by
 refine ⟨fun f hf => h.1 f (by rw [about_congr o w he]; exact hf), ?_⟩
 have h := h.2
 rw [semAt_congr F.round o hs he] at h
 have hn0 : ∀ v w', next' (b.put o.dst v) w' → next (a.put o.dst v) w' := fun v w' hh => hn v a.defers w' (by rw [← hd]; exact hh)
 generalize (o.semAt F.round a.eval).run P w = r at h
 cases r with
 | halt x w' =>
  cases x <;> simp only [Oper.uponIn] at h ⊢
  exact hQ _ _ h
 | ok x w' =>
  cases x <;> simp only [Oper.uponIn] at h ⊢
  case value v => exact hn0 _ _ h
  case skip => exact hn0 _ _ h
  case defer d => rw [hd] at h; exact hn _ _ _ h
  case enter f args => exact ⟨h.1, h.2.mono fun e w2 hr => by cases e <;> first | exact hn0 _ _ hr | exact hQ _ _ hr | exact hl hr⟩
  case row row args => exact ⟨h.1, h.2.mono fun v w2 hr => hn0 _ _ hr⟩
  case round l f tmps asg body => exact ⟨h.1, h.2.mono fun e w2 hr => by cases e <;> first | exact hn0 _ _ hr | exact hQ _ _ hr | exact hl hr⟩
end Go.Idl
end

section
namespace Go.Idl
theorem rankOk_spec {md : Region.Mode} {ops : Array Oper} {rank : Nat → Nat} (h : rankOk md ops rank = true) {i : Nat} {o : Oper} (hi : ops[i]? = some o) {e : Edge} (he : e ∈ o.after) (hb : Region.binds md e = true) : e.on < ops.size ∧ rank e.on < rank i := by
 unfold rankOk at h
 have hlt : i < ops.size := (Array.getElem?_eq_some_iff.1 hi).1
 have := List.all_eq_true.1 h i (List.mem_range.2 hlt)
 simp only [hi, Option.map_some, Option.getD_some, Array.all_eq_true_iff_forall_mem] at this
 have := this e he
 simpa [hb] using this
theorem ready_nil {md : Region.Mode} {ops : Array Oper} {rank : Nat → Nat} (h : rankOk md ops rank = true) {listed : Array Bool} (hs : listed.size = ops.size) (hr : Region.ready md ops listed = []) :
 ∀ k i, rank i < k → i < ops.size → listed.getD i false = true := by
 intro k
 induction k with
 | zero => intro i hk; omega
 | succ k ih =>
  intro i hk hi
  cases hl : listed.getD i false with
  | true => rfl
  | false =>
   exfalso
   have : i ∈ Region.ready md ops listed := by
    unfold Region.ready
    rw [List.mem_filter]
    refine ⟨List.mem_range.2 hi, ?_⟩
    have hl2 : listed.getD i true = false := by
     rw [Array.getD_eq_getD_getElem?] at hl ⊢
     rw [Array.getElem?_eq_getElem (by omega)] at hl ⊢
     exact hl
    rw [hl2, Array.getElem?_eq_getElem hi]
    simp only [Bool.not_false, Bool.true_and, Option.map_some, Option.getD_some, Array.all_eq_true_iff_forall_mem]
    intro e he
    cases hb : Region.binds md e with
    | false => rfl
    | true =>
     obtain ⟨h1, h2⟩ := rankOk_spec h (Array.getElem?_eq_getElem hi) he hb
     simp [ih e.on (by omega) h1]
   rw [hr] at this
   cases this
theorem ready_spec {md : Region.Mode} {ops : Array Oper} {listed : Array Bool} {i : Nat} (hs : listed.size = ops.size) (h : i ∈ Region.ready md ops listed) :
 ∃ o, ops[i]? = some o ∧ listed.getD i false = false ∧ ∀ e ∈ o.after, Region.binds md e = true → listed.getD e.on false = true := by
 unfold Region.ready at h
 rw [List.mem_filter] at h
 have hi := List.mem_range.1 h.1
 have h2 := h.2
 rw [Array.getElem?_eq_getElem hi] at h2
 simp only [Bool.and_eq_true, Bool.not_eq_true', Option.map_some, Option.getD_some, Array.all_eq_true_iff_forall_mem, Bool.or_eq_true] at h2
 refine ⟨_, Array.getElem?_eq_getElem hi, ?_, fun e he hb => ?_⟩
 ·have := h2.1
  rw [Array.getD_eq_getD_getElem?] at this ⊢
  rw [Array.getElem?_eq_getElem (by omega)] at this ⊢
  exact this
 ·rcases h2.2 e he with hn | hl
  ·rw [hb] at hn; cases hn
  ·exact hl
theorem binds_any {md : Region.Mode} {e : Edge} (h : Region.binds .any e = true) : Region.binds md e = true := by
 unfold Region.binds at *
 split <;> simp_all
def ancF (acc : List (List Nat)) (o : Oper) : List Nat := (o.after.toList.foldl (fun s e => if Region.binds .any e then (e.on :: acc.getD e.on []) ++ s else s) []).eraseDups
theorem ancs_append (l : List Oper) (o : Oper) : ancs (l ++ [o]) = ancs l ++ [ancF (ancs l) o] := by
 simp [ancs, ancF]
theorem rev_ind {α : Type} {p : List α → Prop} (l : List α) (h0 : p []) (h1 : ∀ l a, p l → p (l ++ [a])) : p l := by
 have : ∀ l : List α, p l.reverse := by
  intro l
  induction l with
  | nil => exact h0
  | cons a l ih => rw [List.reverse_cons]; exact h1 _ _ ih
 simpa using this l.reverse
theorem ancs_length (l : List Oper) : (ancs l).length = l.length := by
 refine rev_ind (p := fun l => (ancs l).length = l.length) l rfl fun l o ih => ?_
 rw [ancs_append]; simp [ih]
theorem mem_foldl_anc (acc : List (List Nat)) (es : List Edge) (s : List Nat) {j : Nat} (h : j ∈ es.foldl (fun s e => if Region.binds .any e then (e.on :: acc.getD e.on []) ++ s else s) s) :
 j ∈ s ∨ ∃ e ∈ es, Region.binds .any e = true ∧ (j = e.on ∨ j ∈ acc.getD e.on []) := by
 induction es generalizing s with
 | nil => exact .inl h
 | cons e es ih =>
  rw [List.foldl_cons] at h
  rcases ih _ h with h1 | ⟨e', he', hh⟩
  ·split at h1
   ·rename_i hb
    rw [List.mem_append, List.mem_cons] at h1
    rcases h1 with h1 | h1
    ·exact .inr ⟨e, by simp, hb, h1⟩
    ·exact .inl h1
   ·exact .inl h1
  ·exact .inr ⟨e', by simp [he'], hh⟩
theorem ancs_mem (l : List Oper) : ∀ {i j : Nat}, j ∈ (ancs l).getD i [] → ∃ o, l[i]? = some o ∧ ∃ e ∈ o.after, Region.binds .any e = true ∧ (j = e.on ∨ j ∈ (ancs l).getD e.on []) := by
 refine rev_ind (p := fun l => ∀ {i j : Nat}, j ∈ (ancs l).getD i [] → ∃ o, l[i]? = some o ∧ ∃ e ∈ o.after, Region.binds .any e = true ∧ (j = e.on ∨ j ∈ (ancs l).getD e.on [])) l ?_ fun l o ih => ?_
 ·intro i j h; simp [ancs] at h
 ·intro i j h
  have up : ∀ k, j ∈ (ancs l).getD k [] → j ∈ (ancs (l ++ [o])).getD k [] := by
   intro k hk
   rw [ancs_append]
   simp only [List.getD_eq_getElem?_getD] at hk ⊢
   by_cases hlt : k < (ancs l).length
   ·rw [List.getElem?_append_left hlt]; exact hk
   ·rw [List.getElem?_eq_none (by omega)] at hk; simp at hk
  rw [ancs_append] at h
  simp only [List.getD_eq_getElem?_getD] at h
  by_cases hlt : i < (ancs l).length
  ·rw [List.getElem?_append_left hlt] at h
   obtain ⟨o', ho', e, he, hb, hj⟩ := ih (i := i) (j := j) (by simpa [List.getD_eq_getElem?_getD] using h)
   refine ⟨o', ?_, e, he, hb, hj.imp id (up _)⟩
   rw [ancs_length] at hlt
   rw [List.getElem?_append_left hlt]; exact ho'
  ·by_cases hi : i = (ancs l).length
   ·subst hi
    rw [List.getElem?_append_right (Nat.le_refl _)] at h
    simp only [Nat.sub_self, List.getElem?_cons_zero, Option.getD_some] at h
    unfold ancF at h
    rw [List.mem_eraseDups] at h
    rcases mem_foldl_anc _ _ _ h with h1 | ⟨e, he, hb, hj⟩
    ·cases h1
    ·exact ⟨o, by rw [ancs_length]; simp, e, by simpa using he, hb, hj.imp id (up _)⟩
   ·rw [List.getElem?_eq_none (by simp; omega)] at h
    simp at h
theorem anc_listed {md : Region.Mode} {ops : Array Oper} {listed : Array Bool} (hs : listed.size = ops.size) (hcl : ∀ i, listed.getD i false = true → ∀ j ∈ (ancs ops.toList).getD i [], listed.getD j false = true)
 {i : Nat} (hi : i ∈ Region.ready md ops listed) : ∀ j ∈ (ancs ops.toList).getD i [], listed.getD j false = true := by
 intro j hj
 obtain ⟨o, ho, _, hr⟩ := ready_spec hs hi
 obtain ⟨o', ho', e, he, hb, hh⟩ := ancs_mem _ hj
 rw [Array.getElem?_toList, ho] at ho'
 cases ho'
 have hl := hr e he (binds_any hb)
 rcases hh with rfl | hh
 ·exact hl
 ·exact hcl _ hl j hh
def okLoc (anc : List (List Nat)) (i k : Nat) (h h' : Heap) (l : Loc) : Prop := i ∈ anc.getD k [] ∨ sameAt h h' l
structure Run (call : CallF) (anc : List (List Nat)) (l : List Step) (i N : Nat) (σ : Nat → St) : Prop where
 le : i ≤ N
 top : N ≤ i + l.length
 step : ∀ k, i ≤ k → k < N → ∃ x, l[k - i]? = some x ∧ stepRes call x (σ k) = some (none, σ (k + 1))
 rdE : ∀ j k x y, i ≤ j → j < k → k < N → l[j - i]? = some x → l[k - i]? = some y → wantedE (σ j).e x.grd = true → wantedE (σ k).e y.grd = true → kdStm x.stm = .R → kdStm y.stm = .E →
  okLoc anc j k (σ k).h (σ (k + 1)).h (locStm x.stm (σ j).e)
 nwE : ∀ j k x y, i ≤ j → j < k → k < N → l[j - i]? = some x → l[k - i]? = some y → wantedE (σ j).e x.grd = true → wantedE (σ k).e y.grd = true → kdStm x.stm = .A → kdStm y.stm = .E →
  okLoc anc j k (σ k).h (σ (k + 1)).h (.blk (σ j).h.next)
 eRd : ∀ j k x y, i ≤ j → j < k → k < N → l[j - i]? = some x → l[k - i]? = some y → wantedE (σ j).e x.grd = true → wantedE (σ k).e y.grd = true → kdStm x.stm = .E → kdStm y.stm = .R →
  okLoc anc j k (σ j).h (σ (j + 1)).h (locStm y.stm (σ k).e)
structure Past (anc : List (List Nat)) (l : List Step) (i N : Nat) (σ : Nat → St) (rs : List (Nat × Loc)) (es : List (Nat × Heap × Heap)) : Prop where
 rd : ∀ p ∈ rs, ∀ k y, i ≤ k → k < N → l[k - i]? = some y → wantedE (σ k).e y.grd = true → kdStm y.stm = .E → okLoc anc p.1 k (σ k).h (σ (k + 1)).h p.2
 ef : ∀ p ∈ es, ∀ k y, i ≤ k → k < N → l[k - i]? = some y → wantedE (σ k).e y.grd = true → kdStm y.stm = .R → okLoc anc p.1 k p.2.1 p.2.2 (locStm y.stm (σ k).e)
def RunEnd (call : CallF) (anc : List (List Nat)) (ds : List Nat) (l : List Step) (i N : Nat) (σ : Nat → St) (r : Option Value) (s' : St) : Prop :=
 match r with
 | none => N = i + l.length ∧ s' = σ N
 | some v => ∃ x s1, l[N - i]? = some x ∧ N < i + l.length ∧ stepRes call x (σ N) = some (some v, s1) ∧ s' = { s1 with e := forget (σ N).e ds } ∧ allAnc N anc (l.drop (N - i + 1)) (N + 1) = true
theorem idraw_run {call : CallF} {anc : List (List Nat)} {ds : List Nat} : ∀ {l : List Step} {i : Nat} {rs : List (Nat × Loc)} {es : List (Nat × Heap × Heap)} {s : St} {r : Option Value} {s' : St},
 idraw call anc ds l i rs es s = some (r, s') → ∃ σ N, σ i = s ∧ Run call anc l i N σ ∧ Past anc l i N σ rs es ∧ RunEnd call anc ds l i N σ r s'
 | [], i, rs, es, s, r, s', h => by
  simp only [idraw, Option.some.injEq, Prod.mk.injEq] at h
  obtain ⟨rfl, rfl⟩ := h
  refine ⟨fun _ => s, i, rfl, ⟨Nat.le_refl _, by simp, ?_, ?_, ?_, ?_⟩, ⟨?_, ?_⟩, by simp [RunEnd]⟩
  all_goals intros; first | omega | skip
  all_goals (exfalso; omega)
 | x :: rest, i, rs, es, s, r, s', h => by
  have go : ∀ {s1 : St} {rs1 es1}, stepRes call x s = some (none, s1) → idraw call anc ds rest (i + 1) rs1 es1 s1 = some (r, s') →
   (∀ p ∈ rs, p ∈ rs1) → (∀ p ∈ es, p ∈ es1) →
   (wantedE s.e x.grd = true → kdStm x.stm = .R → (i, locStm x.stm s.e) ∈ rs1) → (wantedE s.e x.grd = true → kdStm x.stm = .A → (i, .blk s.h.next) ∈ rs1) → (wantedE s.e x.grd = true → kdStm x.stm = .E → (i, s.h, s1.h) ∈ es1) →
   (wantedE s.e x.grd = true → kdStm x.stm = .E → ∀ p ∈ rs, okLoc anc p.1 i s.h s1.h p.2) → (wantedE s.e x.grd = true → kdStm x.stm = .R → ∀ p ∈ es, okLoc anc p.1 i p.2.1 p.2.2 (locStm x.stm s.e)) →
   ∃ σ N, σ i = s ∧ Run call anc (x :: rest) i N σ ∧ Past anc (x :: rest) i N σ rs es ∧ RunEnd call anc ds (x :: rest) i N σ r s' := by
   intro s1 rs1 es1 hst hi hrs hes hR hA hE hcE hcR
   obtain ⟨σ, N, h0, hrun, hpast, hend⟩ := idraw_run hi
   have hN := hrun.le
   have e1 : ∀ k, i + 1 ≤ k → (if k = i then s else σ k) = σ k := fun k hk => if_neg (by omega)
   have e2 : ∀ k, i + 1 ≤ k → (x :: rest)[k - i]? = rest[k - (i + 1)]? := fun k hk => by
    rw [show k - i = (k - (i + 1)) + 1 by omega]; rfl
   have ex : (x :: rest)[i - i]? = some x := by simp
   refine ⟨fun k => if k = i then s else σ k, N, by simp, ⟨by omega, ?_, ?_, ?_, ?_, ?_⟩, ⟨?_, ?_⟩, ?_⟩
   ·have := hrun.top; simp; omega
   ·intro k hk hkN
    by_cases hki : k = i
    ·subst hki
     exact ⟨x, ex, by simp only [if_pos rfl]; rw [e1 (k + 1) (by omega), h0]; exact hst⟩
    ·obtain ⟨y, hy, hys⟩ := hrun.step k (by omega) hkN
     exact ⟨y, by rw [e2 k (by omega)]; exact hy, by rw [e1 k (by omega), e1 (k + 1) (by omega)]; exact hys⟩
   ·intro j k y z hj hjk hk hy hz hwy hwz hdy hdz
    rw [e2 k (by omega)] at hz
    simp only [e1 k (by omega), e1 (k + 1) (by omega)] at hwz ⊢
    by_cases hji : j = i
    ·subst hji
     rw [ex] at hy; cases hy
     simp only [if_pos] at hwy ⊢
     exact hpast.rd _ (hR hwy hdy) k z (by omega) hk hz hwz hdz
    ·rw [e2 j (by omega)] at hy
     simp only [e1 j (by omega)] at hwy ⊢
     exact hrun.rdE j k y z (by omega) hjk hk hy hz hwy hwz hdy hdz
   ·intro j k y z hj hjk hk hy hz hwy hwz hdy hdz
    rw [e2 k (by omega)] at hz
    simp only [e1 k (by omega), e1 (k + 1) (by omega)] at hwz ⊢
    by_cases hji : j = i
    ·subst hji
     rw [ex] at hy; cases hy
     simp only [if_pos] at hwy ⊢
     exact hpast.rd _ (hA hwy hdy) k z (by omega) hk hz hwz hdz
    ·rw [e2 j (by omega)] at hy
     simp only [e1 j (by omega)] at hwy ⊢
     exact hrun.nwE j k y z (by omega) hjk hk hy hz hwy hwz hdy hdz
   ·intro j k y z hj hjk hk hy hz hwy hwz hdy hdz
    rw [e2 k (by omega)] at hz
    simp only [e1 k (by omega)] at hwz ⊢
    by_cases hji : j = i
    ·subst hji
     rw [ex] at hy; cases hy
     rw [e1 (j + 1) (by omega), h0]
     simp only [if_pos] at hwy ⊢
     exact hpast.ef _ (hE hwy hdy) k z (by omega) hk hz hwz hdz
    ·rw [e2 j (by omega)] at hy
     simp only [e1 j (by omega), e1 (j + 1) (by omega)] at hwy ⊢
     exact hrun.eRd j k y z (by omega) hjk hk hy hz hwy hwz hdy hdz
   ·intro p hp k y hk hkN hy hwy hdy
    by_cases hki : k = i
    ·subst hki
     rw [ex] at hy; cases hy
     rw [e1 (k + 1) (by omega), h0]
     simp only [if_pos] at hwy ⊢
     exact hcE hwy hdy p hp
    ·rw [e2 k (by omega)] at hy
     simp only [e1 k (by omega), e1 (k + 1) (by omega)] at hwy ⊢
     exact hpast.rd p (hrs p hp) k y (by omega) hkN hy hwy hdy
   ·intro p hp k y hk hkN hy hwy hdy
    by_cases hki : k = i
    ·subst hki
     rw [ex] at hy; cases hy
     simp only [if_pos] at hwy ⊢
     exact hcR hwy hdy p hp
    ·rw [e2 k (by omega)] at hy
     simp only [e1 k (by omega)] at hwy ⊢
     exact hpast.ef p (hes p hp) k y (by omega) hkN hy hwy hdy
   ·unfold RunEnd at hend ⊢
    cases r with
    | none =>
     simp only at hend ⊢
     simp only [e1 N (by omega)]
     exact ⟨by rw [hend.1]; simp; omega, hend.2⟩
    | some v =>
     obtain ⟨y, s2, h1, h2, h3, h4, h5⟩ := hend
     refine ⟨y, s2, by rw [e2 N (by omega)]; exact h1, by simp; omega, by simp only [e1 N (by omega)]; exact h3, by simp only [e1 N (by omega)]; exact h4, ?_⟩
     rw [show N - i + 1 = (N - (i + 1) + 1) + 1 by omega]
     exact h5
  simp only [idraw] at h
  by_cases hw : wantedE s.e x.grd = true
  ·rw [if_pos hw] at h
   have hsr : stepRes call x s = istm call x.dst x.stm s := by unfold stepRes; rw [if_pos hw]
   cases hm : istm call x.dst x.stm s with
   | none => rw [hm] at h; cases h
   | some q =>
    obtain ⟨rv, s1⟩ := q
    rw [hm] at h hsr
    cases rv with
    | some v =>
     simp only at h
     split at h
     case isFalse => cases h
     rename_i hall
     simp only [Option.some.injEq, Prod.mk.injEq] at h
     obtain ⟨rfl, rfl⟩ := h
     refine ⟨fun _ => s, i, rfl, ⟨Nat.le_refl _, by simp, ?_, ?_, ?_, ?_⟩, ⟨?_, ?_⟩, x, s1, by simp, by simp, hsr, rfl, by simpa using hall⟩
     all_goals (intros; exfalso; omega)
    | none =>
     simp only at h
     cases hk : kdStm x.stm with
     | P =>
      rw [hk] at h
      exact go hsr h (fun _ h => h) (fun _ h => h) (fun _ h => by rw [hk] at h; cases h) (fun _ h => by rw [hk] at h; cases h) (fun _ h => by rw [hk] at h; cases h) (fun _ h => by rw [hk] at h; cases h) (fun _ h => by rw [hk] at h; cases h)
     | R =>
      rw [hk] at h
      simp only at h
      split at h
      case isFalse => cases h
      rename_i hc
      exact go hsr h (fun _ h => List.mem_cons_of_mem _ h) (fun _ h => h) (fun _ _ => List.mem_cons_self ..) (fun _ h => by rw [hk] at h; cases h) (fun _ h => by rw [hk] at h; cases h) (fun _ h => by rw [hk] at h; cases h) (fun _ _ p hp => hc p hp)
     | A =>
      rw [hk] at h
      exact go hsr h (fun _ h => List.mem_cons_of_mem _ h) (fun _ h => h) (fun _ h => by rw [hk] at h; cases h) (fun _ _ => List.mem_cons_self ..) (fun _ h => by rw [hk] at h; cases h) (fun _ h => by rw [hk] at h; cases h) (fun _ h => by rw [hk] at h; cases h)
     | E =>
      rw [hk] at h
      simp only at h
      split at h
      case isFalse => cases h
      rename_i hc
      exact go hsr h (fun _ h => h) (fun _ h => List.mem_cons_of_mem _ h) (fun _ h => by rw [hk] at h; cases h) (fun _ h => by rw [hk] at h; cases h) (fun _ _ => List.mem_cons_self ..) (fun _ _ p hp => hc p hp) (fun _ h => by rw [hk] at h; cases h)
  ·rw [if_neg hw] at h
   have hsr : stepRes call x s = some (none, { s with e := dstUpd s.e x.dst undef }) := by unfold stepRes; rw [if_neg hw]
   exact go hsr h (fun _ h => h) (fun _ h => h) (fun h => (hw h).elim) (fun h => (hw h).elim) (fun h => (hw h).elim) (fun h => (hw h).elim) (fun h => (hw h).elim)
end Go.Idl
end

section
namespace Go.Idl
theorem quiet_of_kd {P : Program} {op : Op} {q : IOp} (hc : cop P op = some q) (hk : kdOp q = .P ∨ kdOp q = .R) : loudOp op = false := by
 have no : ∀ {o : Option IOp} {f : Opd → IOp}, True := fun {_ _} => trivial
 cases hl : loudOp op with
 | false => rfl
 | true =>
  exfalso
  unfold loudOp at hl
  split at hl
  case h_1 => simp only [cop] at hc; obtain ⟨a, _, rfl⟩ := opt_map hc; simp [kdOp] at hk
  case h_2 => simp only [cop] at hc; obtain ⟨a, _, rfl⟩ := opt_map hc; simp [kdOp] at hk
  case h_3 =>
   simp only [cop] at hc
   split at hc
   ·split at hc
    ·split at hc
     ·obtain ⟨a, _, rfl⟩ := opt_map hc; simp [kdOp] at hk
     ·cases hc
    ·cases hc
   ·cases hc
  case h_4 =>
   simp only [cop] at hc
   split at hc
   ·cases hc; simp [kdOp] at hk
   ·cases hc
  case h_5 =>
   simp only [cop] at hc
   split at hc
   ·split at hc
    ·cases hc; simp [kdOp] at hk
    ·cases hc; simp [kdOp] at hk
    ·cases hc
   ·cases hc
  case h_6 =>
   simp only [cop] at hc
   split at hc
   ·split at hc
    ·split at hc
     ·cases hc; simp [kdOp] at hk
     ·cases hc
    ·cases hc
   ·cases hc
  case h_7 =>
   simp only [cop] at hc
   split at hc
   ·split at hc
    ·cases hc; simp [kdOp] at hk
    ·cases hc
   ·cases hc
  case h_8 =>
   simp only [cop] at hc
   split at hc
   ·split at hc
    ·cases hc; simp [kdOp] at hk
    ·cases hc
   ·cases hc
  case h_9 =>
   simp only [cop] at hc
   split at hc
   ·obtain ⟨a, _, rfl⟩ := opt_map hc; simp [kdOp] at hk
   ·cases hc
  case h_10 x b =>
   cases b
   ·simp [cop] at hc
   ·simp only [cop] at hc; obtain ⟨a, _, rfl⟩ := opt_map hc; simp [kdOp] at hk
  case h_11 =>
   simp only [cop, cbuiltin] at hc
   repeat' (split at hc)
   all_goals first
    | (cases hc; done)
    | (cases hc; simp [kdOp] at hk; done)
    | simp_all
  case h_12 =>
   simp only [cop, cbuiltin] at hc
   repeat' (split at hc)
   all_goals first
    | (cases hc; done)
    | (cases hc; simp [kdOp] at hk; done)
    | (obtain ⟨a, _, rfl⟩ := opt_map hc; simp [kdOp] at hk; done)
    | simp_all
  case h_13 => cases hl
theorem iop_P {q : IOp} {e : Env} {h h' : Heap} {v : Value} (hk : kdOp q = .P) (hi : iop q e h = some (v, h')) : h' = h ∧ ∀ K, iop q e K = some (v, K) := by
 cases q <;> first | (simp [kdOp] at hk; done) | skip
 case len k x =>
  cases k <;> first | (simp [kdOp] at hk; done) | skip
  all_goals
   simp only [iop] at hi ⊢
   first
    | (cases hi; exact ⟨rfl, fun K => rfl⟩; done)
    | (generalize ev e x = y at *
       cases y <;> first | (cases hi; done) | (cases hi; exact ⟨rfl, fun K => rfl⟩))
 case minmax mx x y =>
  simp only [iop] at hi ⊢
  generalize ev e x = a at *
  generalize ev e y = b at *
  cases a <;> first | (cases hi; done) | skip
  cases b <;> first | (cases hi; done) | skip
  simp only at hi ⊢
  split at hi
  ·rename_i hkk; cases hi; exact ⟨rfl, fun K => if_pos hkk⟩
  ·cases hi
 all_goals
  simp only [iop] at hi ⊢
  repeat' (split at hi)
  all_goals first
   | (cases hi; done)
   | (cases hi; exact ⟨rfl, fun K => by first | rfl | simp_all⟩)
   | (obtain ⟨u, hu, hp⟩ := opt_map hi; cases hp; refine ⟨rfl, fun K => ?_⟩; first | simp [hu] | simp_all)
   | skip
theorem cells_cell {h K : Heap} {b o : Nat} (hs : h.cells b o 1 = K.cells b o 1) {v : Value} (hc : h.cell b o = some v) : K.cell b o = some v := by
 unfold Heap.cell Heap.cells at *
 cases h1 : h.get b with
 | none => rw [h1] at hc; simp at hc
 | some x =>
  rw [h1] at hc hs
  cases x <;> simp only [reduceCtorEq] at hc
  rename_i cs own esz
  have hlt : o < cs.length := (List.getElem?_eq_some_iff.1 hc).1
  simp only [if_pos (show o + 1 ≤ cs.length by omega)] at hs
  cases h2 : K.get b with
  | none => rw [h2] at hs; simp at hs
  | some y =>
   rw [h2] at hs
   cases y <;> simp only [reduceCtorEq] at hs
   rename_i cs2 own2 esz2
   simp only at hs ⊢
   split at hs
   case isFalse => cases hs
   rename_i hle
   have := congrArg (fun l => l.bind (fun l => l[0]?)) hs
   simp only [Option.bind_some] at this
   rw [List.getElem?_take, if_pos (by omega), List.getElem?_drop, List.getElem?_take, if_pos (by omega), List.getElem?_drop] at this
   simp only [Nat.add_zero] at this
   rw [← this]; exact hc
def Loc.blk? : Loc → Option Nat
 | .cells b _ _ | .blk b | .sz b _ => some b
 | .none => Option.none
theorem iop_loc {q : IOp} {e : Env} {h h' : Heap} {v : Value} (hk : kdOp q = .R) (hi : iop q e h = some (v, h')) : ∀ b, (locOp q e).blk? = some b → h.get b ≠ none := by
 intro b0 hb hn
 cases q <;> first | (simp [kdOp] at hk; done) | skip
 case load n a =>
  simp only [iop] at hi
  split at hi
  case h_2 => cases hi
  rename_i b o ha
  have : b = b0 := by cases n <;> simpa [locOp, ha, Loc.blk?] using hb
  subst this
  split at hi <;> simp [Heap.cell, Heap.cells, hn] at hi
 case lookup kk z ok m k =>
  simp only [iop] at hi
  cases hm : ev e m with
  | map a =>
   cases a with
   | none => simp [locOp, hm, Loc.blk?] at hb
   | some b =>
    have : b = b0 := by simpa [locOp, hm, Loc.blk?] using hb
    subst this
    simp [hm, hn] at hi
  | _ => simp [locOp, hm, Loc.blk?] at hb
 case len k x =>
  cases k <;> first | (simp [kdOp] at hk; done) | skip
  simp only [iop] at hi
  cases hm : ev e x with
  | map a =>
   cases a with
   | none => simp [locOp, hm, Loc.blk?] at hb
   | some b =>
    have : b = b0 := by simpa [locOp, hm, Loc.blk?] using hb
    subst this
    simp [hm, hn] at hi
  | _ => simp [locOp, hm, Loc.blk?] at hb
 case sub k x lo hi' mx =>
  simp only [iop] at hi
  cases k with
  | str => simp [locOp, Loc.blk?] at hb
  | sl size =>
   cases hx : ev e x with
   | slice a len cap =>
    cases a with
    | none => simp [locOp, hx, Loc.blk?] at hb
    | some p =>
     have : p.block = b0 := by simpa [locOp, hx, Loc.blk?] using hb
     have hz : okSzO h size (some p) = false := by simp [okSzO, okSz, this, hn]
     simp only [hx, hz, Bool.not_false, Bool.or_true, if_true] at hi
     repeat' (split at hi)
     all_goals cases hi
   | _ => simp [locOp, hx, Loc.blk?] at hb
  | ar n size =>
   cases hx : ev e x with
   | pointer a =>
    cases a with
    | none => simp [locOp, hx, Loc.blk?] at hb
    | some p =>
     have : p.block = b0 := by simpa [locOp, hx, Loc.blk?] using hb
     have hz : okSz h p.block 0 = false := by simp [okSz, this, hn]
     simp only [hx, hz, Bool.false_eq_true, if_false] at hi
     repeat' (split at hi)
     all_goals cases hi
   | _ => simp [locOp, hx, Loc.blk?] at hb
theorem iop_R {q : IOp} {e : Env} {h h' : Heap} {v : Value} (hk : kdOp q = .R) (hi : iop q e h = some (v, h')) : h' = h ∧ ∀ K, sameAt h K (locOp q e) → iop q e K = some (v, K) := by
 cases q <;> first | (simp [kdOp] at hk; done) | skip
 case load n a =>
  simp only [iop] at hi ⊢
  split at hi
  case h_2 => cases hi
  rename_i b o ha
  split at hi
  ·obtain ⟨u, hu, hp⟩ := opt_map hi
   cases hp
   refine ⟨rfl, fun K hs => ?_⟩
   simp only [locOp, ha, sameAt] at hs
   simp only [cells_cell hs hu, Option.map_some]
  ·obtain ⟨u, hu, hp⟩ := opt_map hi
   cases hp
   refine ⟨rfl, fun K hs => ?_⟩
   simp only [locOp, ha, sameAt] at hs
   simp only [← hs, hu, Option.map_some]
 case lookup kk z ok m k =>
  simp only [iop] at hi ⊢
  cases hm : ev e m with
  | map a =>
   cases a with
   | none =>
    simp only [hm] at hi ⊢
    repeat' (split at hi)
    all_goals first
     | (cases hi; done)
     | (cases hi; refine ⟨rfl, fun K hs => ?_⟩; simp_all)
   | some b =>
    simp only [hm] at hi ⊢
    have e2 : ∀ K, sameAt h K (locOp (.lookup kk z ok m k) e) → K.get b = h.get b := fun K hs => by simp only [locOp, hm, sameAt] at hs; exact hs.symm
    split at hi
    case h_2 => cases hi
    rename_i es k' h1 h2
    refine ⟨by split at hi <;> cases hi <;> rfl, fun K hs => ?_⟩
    rw [e2 K hs, h1, h2]
    simp only
    split at hi <;> cases hi <;> rename_i hf <;> simp [hf]
  | _ => simp [hm] at hi
 case len k x =>
  cases k <;> first | (simp [kdOp] at hk; done) | skip
  simp only [iop] at hi ⊢
  split at hi <;> first | (cases hi; done) | skip
  all_goals first | (cases ‹LenK.mp = _›; done) | skip
  ·rename_i hx; cases hi; exact ⟨rfl, fun K hs => by simp [hx]⟩
  ·rename_i b _ hx
   split at hi
   ·rename_i hg
    cases hi
    refine ⟨rfl, fun K hs => ?_⟩
    simp only [locOp, hx, sameAt] at hs
    simp [hx, ← hs, hg]
   ·cases hi
 case sub k x lo hi' mx =>
  have hcong : ∀ K, sameAt h K (locOp (.sub k x lo hi' mx) e) → iop (.sub k x lo hi' mx) e K = (iop (.sub k x lo hi' mx) e h).map fun p => (p.1, K) := by
   intro K hs
   simp only [iop]
   cases k with
   | str =>
    cases ev e x <;> try rfl
    simp only
    split
    ·split
     ·split <;> rfl
     ·rfl
    ·rfl
   | sl size =>
    cases hx : ev e x <;> try rfl
    rename_i a len cap
    have hz : okSzO K size a = okSzO h size a := by
     cases a with
     | none => rfl
     | some p => simp only [locOp, hx, sameAt] at hs; simp only [okSzO]; exact hs.symm
    simp only [hz]
    clear hz
    split
    ·rfl
    ·split
     ·split
      ·split <;> rfl
      ·rfl
     ·rfl
   | ar n size =>
    cases hx : ev e x <;> try rfl
    rename_i a
    cases a with
    | none => rfl
    | some p =>
     simp only
     have hz : okSz K p.block 0 = okSz h p.block 0 := by simp only [locOp, hx, sameAt] at hs; exact hs.symm
     simp only [hz]
     clear hz
     split
     ·split
      ·split
       ·split <;> rfl
       ·rfl
      ·rfl
     ·rfl
  have hh : h' = h := by
   have := hcong h (by unfold sameAt; split <;> first | rfl | trivial)
   rw [hi] at this
   simp only [Option.map_some, Option.some.injEq, Prod.mk.injEq] at this
   exact this.2
  refine ⟨hh, fun K hs => ?_⟩
  rw [hcong K hs, hi]; rfl
def mineB : Blk → Bool
 | .cells _ true _ | .map _ _ | .siter _ _ | .loop _ | .dfr => true
 | _ => false
theorem mine_of {h : Heap} {b : Nat} {o : Blk} (hg : h.get b = some o) : mine h b ↔ mineB o = true := by
 unfold mine mineB
 rw [hg]
 cases o with
 | cells cs own esz => cases own <;> simp
 | _ => simp
theorem iop_A {q : IOp} {e : Env} {h h' : Heap} {v : Value} (hk : kdOp q = .A) (hi : iop q e h = some (v, h')) : ∃ o, h' = h.new o ∧ mineB o = true ∧ ∀ K : Heap, K.next = h.next → iop q e K = some (v, K.new o) := by
 cases q <;> first | (simp [kdOp] at hk; done) | skip
 case len k x => cases k <;> simp [kdOp] at hk
 case mkmap kk => simp only [iop] at hi ⊢; cases hi; exact ⟨_, rfl, rfl, fun K hK => by rw [hK]⟩
 case alloc z => simp only [iop] at hi ⊢; cases hi; exact ⟨_, rfl, rfl, fun K hK => by rw [hK]⟩
 all_goals
  simp only [iop] at hi ⊢
  repeat' (split at hi)
  all_goals first
   | (cases hi; done)
   | (cases hi; exact ⟨_, rfl, rfl, fun K hK => by first | (rw [hK]; done) | simp_all⟩)
   | (obtain ⟨u, hu, hp⟩ := opt_map hi; cases hp; exact ⟨_, rfl, rfl, fun K hK => by simp [hu, hK]⟩)
   | skip
def cut (ι : Inj) (p : Nat) : Inj := fun b => if b < p then ι b else none
theorem cut_lt {ι : Inj} {p b : Nat} (h : b < p) : cut ι p b = ι b := by simp [cut, h]
theorem cut_some {ι : Inj} {p b : Nat} {i : BI} (h : cut ι p b = some i) : b < p ∧ ι b = some i := by
 unfold cut at h
 split at h
 ·exact ⟨by assumption, h⟩
 ·cases h
theorem cut_le (ι : Inj) (p : Nat) : (cut ι p).le ι := fun b i h => (cut_some h).2
theorem cut_mono {ι ι' : Inj} (h : ι.le ι') {p q : Nat} (hpq : p ≤ q) : (cut ι p).le (cut ι' q) := fun b i hb => by
 obtain ⟨h1, h2⟩ := cut_some hb
 rw [cut_lt (by omega)]; exact h b i h2
theorem Rep.cut {ι ι2 : Inj} {p : Nat} (hd : ∀ b i, ι2 b = some i → b < p) {v v' : Value} (h : Rep ι v v') : ∀ {u : Value}, Rep ι2 v u → Rep (Idl.cut ι p) v v' := by
 induction h with
 | bool b => intro u _; exact .bool b
 | int k n => intro u _; exact .int k n
 | string s => intro u _; exact .string s
 | pnil => intro u _; exact .pnil
 | ptr h => intro u hu; cases hu with | ptr h2 => exact .ptr (by rw [cut_lt (hd _ _ h2)]; exact h)
 | snil => intro u _; exact .snil
 | slice h h1 h2 h3 h4 => intro u hu; cases hu with | slice g => exact .slice (by rw [cut_lt (hd _ _ g)]; exact h) h1 h2 h3 h4
 | mnil => intro u _; exact .mnil
 | map h => intro u hu; cases hu with | map h2 => exact .map (by rw [cut_lt (hd _ _ h2)]; exact h)
 | @func f x y x' y' h1 _ h2 _ ih1 ih2 =>
  intro u hu
  cases hu with
  | @func _ _ _ a' b' g1 g2 g3 g4 =>
   refine .func h1 (fun k v v' e1 e2 => ?_) h2 fun k v v' e1 e2 => ?_
   ·have hk : k < a'.size := by rw [← g1]; exact (Array.getElem?_eq_some_iff.1 e1).1
    exact ih1 k v v' e1 e2 (g2 k v _ e1 (Array.getElem?_eq_getElem hk))
   ·have hk : k < b'.size := by rw [← g3]; exact (Array.getElem?_eq_some_iff.1 e1).1
    exact ih2 k v v' e1 e2 (g4 k v _ e1 (Array.getElem?_eq_getElem hk))
 | yld h => intro u hu; cases hu with | yld h2 => exact .yld (by rw [cut_lt (hd _ _ h2)]; exact h)
 | nilFunc => intro u _; exact .nilFunc
 | iface _ ih => intro u hu; cases hu with | iface h2 => exact .iface (ih h2)
 | nilIface => intro u _; exact .nilIface
 | @agg x x' h1 hf _ ih =>
  intro u hu
  cases hu with
  | @agg _ a' g1 g2 g3 =>
   refine .agg h1 hf fun k v v' e1 e2 => ?_
   have hk : k < a'.size := by rw [← g1]; exact (Array.getElem?_eq_some_iff.1 e1).1
   exact ih k v v' e1 e2 (g3 k v _ e1 (Array.getElem?_eq_getElem hk))
 | @tuple x x' h1 _ ih =>
  intro u hu
  cases hu with
  | @tuple _ a' g1 g3 =>
   refine .tuple h1 fun k v v' e1 e2 => ?_
   have hk : k < a'.size := by rw [← g1]; exact (Array.getElem?_eq_some_iff.1 e1).1
   exact ih k v v' e1 e2 (g3 k v _ e1 (Array.getElem?_eq_getElem hk))
theorem brel_mine {C : Nat → IC → Code → Prop} {base : Nat} {ι : Inj} {i : BI} {o : Blk} {o' : Obj} (h : BRel C base ι i o o') (hm : mineB o = true) : base ≤ i.blk := by
 cases o <;> simp only [mineB, Bool.false_eq_true] at hm
 case cells cs own esz =>
  cases own <;> simp only [Bool.false_eq_true] at hm
  cases o' <;> simp only [BRel] at h
  exact (h.2.2.2.2.1 trivial).2
 case map => cases o' <;> simp only [BRel] at h; exact h.1
 case siter => cases o' <;> simp only [BRel] at h; exact h.1
 case loop => cases o' <;> simp only [BRel] at h; exact h.1
 case dfr =>
  unfold BRel at h
  split at h <;> simp_all
theorem brel_other {C : Nat → IC → Code → Prop} {base : Nat} {ι : Inj} {i : BI} {o : Blk} {o' : Obj} (h : BRel C base ι i o o') (hm : mineB o = false) (hd : o ≠ .dead) : i.blk < base := by
 cases o <;> simp only [mineB, reduceCtorEq] at hm
 case cells cs own esz =>
  cases own <;> simp only [reduceCtorEq] at hm
  cases o' <;> simp only [BRel] at h
  exact h.2.2.2.2.2 trivial
 case dead => exact (hd rfl).elim
def Grew (w w' : World) : Prop := w.heap.size ≤ w'.heap.size ∧ ∀ k, k < w.heap.size → w'.heap[k]? = w.heap[k]?
theorem Sim.grew {C : Nat → IC → Code → Prop} {base : Nat} {ι : Inj} {h : Heap} {w w' : World} (hs : Sim C base ι h w) (hg : Grew w w') : Sim C base ι h w' :=
 ⟨hs.dom, hs.vac, fun b o i h1 h2 => by
  obtain ⟨o', ho, hr⟩ := hs.blk b o i h1 h2
  exact ⟨o', by rw [hg.2 _ (Array.getElem?_eq_some_iff.1 ho).1]; exact ho, hr⟩, hs.inj⟩
theorem live_some {h : Heap} {b : Nat} (hl : live h b) : ∃ o, h.get b = some o ∧ o ≠ .dead := by
 unfold live at hl
 split at hl
 ·exact hl.elim
 ·exact hl.elim
 ·rename_i x hd
  cases hg : h.get b with
  | none => exact (hd hg).elim
  | some o => exact ⟨o, rfl, fun e => by subst e; exact x hg⟩
end Go.Idl
end

section
namespace Go.Idl
def kAt (l : List Step) (σ : Nat → St) (k : Nat) : Kd :=
 match l[k]? with
 | some x => if wantedE (σ k).e x.grd then kdStm x.stm else .P
 | none => .P
def writes (l : List Step) (k t : Nat) : Prop := (l[k]?.bind (·.dst)) = some t
def nmAt (ops : Array Oper) (l : List Step) (i : Nat) : List Nat :=
 match ops[i]?, l[i]? with
 | some o, some x => namesAt ops o x
 | _, _ => []
structure Draw (P : Program) (base : Nat) (w0 : World) (nt : Nat) (call : CallF) (ops : Array Oper) (l : List Step) (anc : List (List Nat)) (N : Nat) (σ : Nat → St) (F : Fence) (ι0 : Inj) (w1 : World) : Prop where
 hcall : CallOk P base w0 call
 hF : FOk F (σ 0).d
 len : l.length = ops.size
 st : ∀ (i : Nat) o x, ops[i]? = some o → l[i]? = some x → cstep P nt ops o = some x
 ok : ∀ i j, i < j → j < l.length → pairOk ops l anc i j = true
 run : Run call anc l 0 N σ
 gh : ∀ i, i ≤ N → ∃ (ι : Inj) (a : Act) (w : World), Ok P base w0 ι (σ i).h w ∧ a.tmps.size = nt ∧ ERep ι (σ i).e a.tmps ∧ DRep ι (σ i).d a.defers
 nx : ∀ i, i < N → (σ i).h.next ≤ (σ (i + 1)).h.next
 start : Ok P base w0 ι0 (σ 0).h w1
section
variable {P : Program} {base : Nat} {w0 : World} {nt : Nat} {call : CallF} {ops : Array Oper} {l : List Step} {anc : List (List Nat)} {N : Nat} {σ : Nat → St} {F : Fence} {ι0 : Inj} {w1 : World}
theorem Draw.step (d : Draw P base w0 nt call ops l anc N σ F ι0 w1) {k : Nat} (hk : k < N) : ∃ o x, ops[k]? = some o ∧ l[k]? = some x ∧ cstep P nt ops o = some x ∧ stepRes call x (σ k) = some (none, σ (k + 1)) := by
 obtain ⟨x, hx, hs⟩ := d.run.step k (Nat.zero_le _) hk
 simp only [Nat.sub_zero] at hx
 have hlt : k < ops.size := by rw [← d.len]; exact (List.getElem?_eq_some_iff.1 hx).1
 exact ⟨_, x, Array.getElem?_eq_getElem hlt, hx, d.st k _ x (Array.getElem?_eq_getElem hlt) hx, hs⟩
theorem Draw.top (d : Draw P base w0 nt call ops l anc N σ F ι0 w1) : N ≤ l.length := by
 have := d.run.top; omega
theorem Draw.mono (d : Draw P base w0 nt call ops l anc N σ F ι0 w1) {i j : Nat} (hij : i ≤ j) (hj : j ≤ N) : (σ i).h.next ≤ (σ j).h.next := by
 induction j with
 | zero => have : i = 0 := by omega
           subst this; exact Nat.le_refl _
 | succ j ih =>
  by_cases e : i = j + 1
  ·subst e; exact Nat.le_refl _
  ·exact Nat.le_trans (ih (by omega) (by omega)) (d.nx j (by omega))
theorem stepRes_e {call : CallF} {x : Step} {s s' : St} (h : stepRes call x s = some (none, s')) : ∃ v, s'.e = dstUpd s.e x.dst v := by
 unfold stepRes at h
 split at h
 ·obtain ⟨e, hp, d⟩ := s
  rcases istm_congr (e' := e) (fun _ _ => rfl) h with ⟨v, _, hs, _⟩ | ⟨v, hv, _⟩
  ·exact ⟨v, by rw [hs]⟩
  ·cases hv
 ·cases h; exact ⟨undef, rfl⟩
theorem stepRes_quiet {call : CallF} {x : Step} {s s' : St} (h : stepRes call x s = some (none, s')) (hk : (if wantedE s.e x.grd then kdStm x.stm else .P) ≠ .E) :
 s'.d = s.d ∧ ((if wantedE s.e x.grd then kdStm x.stm else .P) ≠ .A → s'.h = s.h) ∧ ((if wantedE s.e x.grd then kdStm x.stm else .P) = .A → ∃ o, s'.h = s.h.new o ∧ mineB o = true) := by
 unfold stepRes at h
 split at h
 ·rename_i hw
  rw [if_pos hw] at hk ⊢
  cases hm : x.stm with
  | op q =>
   rw [hm] at h hk
   simp only [kdStm] at hk ⊢
   simp only [istm] at h
   split at h
   ·rename_i v h' hi
    cases h
    cases hkd : kdOp q with
    | P => exact ⟨rfl, fun _ => (iop_P hkd hi).1, fun e => by cases e⟩
    | R => exact ⟨rfl, fun _ => (iop_R hkd hi).1, fun e => by cases e⟩
    | A => obtain ⟨o, h1, h2, _⟩ := iop_A hkd hi; exact ⟨rfl, fun e => (e rfl).elim, fun _ => ⟨o, h1, h2⟩⟩
    | E => exact (hk hkd).elim
   ·cases h
  | _ => rw [hm] at hk; exact (hk rfl).elim
 ·rename_i hw
  cases h
  refine ⟨rfl, fun _ => rfl, fun e => ?_⟩
  rw [if_neg hw] at e; cases e
theorem kAt_eq {k : Nat} {x : Step} (hx : l[k]? = some x) : kAt l σ k = if wantedE (σ k).e x.grd then kdStm x.stm else .P := by
 unfold kAt; rw [hx]
theorem Draw.env (d : Draw P base w0 nt call ops l anc N σ F ι0 w1) {k t : Nat} (hk : k < N) (hw : ¬ writes l k t) : (σ (k + 1)).e t = (σ k).e t := by
 obtain ⟨o, x, _, hx, _, hs⟩ := d.step hk
 obtain ⟨v, hv⟩ := stepRes_e hs
 rw [hv]
 unfold writes at hw
 rw [hx] at hw
 simp only [Option.bind_some] at hw
 cases hd : x.dst with
 | none => rfl
 | some u => rw [hd] at hw; simp only [dstUpd, upd]; rw [if_neg (fun e => hw (by rw [e]))]
theorem Draw.quiet (d : Draw P base w0 nt call ops l anc N σ F ι0 w1) {k : Nat} (hk : k < N) (he : kAt l σ k ≠ .E) :
 (σ (k + 1)).d = (σ k).d ∧ (kAt l σ k ≠ .A → (σ (k + 1)).h = (σ k).h) ∧ (kAt l σ k = .A → ∃ o, (σ (k + 1)).h = (σ k).h.new o ∧ mineB o = true) := by
 obtain ⟨o, x, _, hx, _, hs⟩ := d.step hk
 rw [kAt_eq hx] at he ⊢
 exact stepRes_quiet hs he
theorem Draw.dSome (d : Draw P base w0 nt call ops l anc N σ F ι0 w1) {k : Nat} (hk : k ≤ N) : (σ k).d.isSome = (σ 0).d.isSome := by
 induction k with
 | zero => rfl
 | succ k ih =>
  obtain ⟨o, x, _, hx, _, hs⟩ := d.step (show k < N by omega)
  rw [stepRes_d hs, ih (by omega)]
theorem Draw.chain (d : Draw P base w0 nt call ops l anc N σ F ι0 w1) {i j : Nat} (hij : i ≤ j) (hj : j ≤ N) {lc : Loc} (hlt : ∀ b, lc.blk? = some b → b < (σ i).h.next)
 (he : ∀ k, i ≤ k → k < j → kAt l σ k = .E → sameAt (σ k).h (σ (k + 1)).h lc) : sameAt (σ i).h (σ j).h lc := by
 have tr : ∀ {a b c : Heap}, sameAt a b lc → sameAt b c lc → sameAt a c lc := by
  intro a b c h1 h2
  cases lc <;> simp only [sameAt] at *
  ·exact h1.trans h2
  ·exact h1.trans h2
  ·exact h1.trans h2
 have rf : ∀ {a : Heap}, sameAt a a lc := by intro a; cases lc <;> simp [sameAt]
 have of : ∀ {a c : Heap}, (∀ b, lc.blk? = some b → a.get b = c.get b) → sameAt a c lc := by
  intro a c h
  cases lc with
  | cells b o n => have := h b rfl; simp [sameAt, Heap.cells, this]
  | blk b => exact h b rfl
  | sz b n => have := h b rfl; simp [sameAt, okSz, this]
  | none => trivial
 induction j with
 | zero => have : i = 0 := by omega
           subst this; exact rf
 | succ j ih =>
  by_cases e : i = j + 1
  ·subst e; exact rf
  ·refine tr (ih (by omega) (by omega) fun k h1 h2 => he k h1 (by omega)) ?_
   by_cases hE : kAt l σ j = .E
   ·exact he j (by omega) (by omega) hE
   ·obtain ⟨_, h1, h2⟩ := d.quiet (show j < N by omega) hE
    by_cases hA : kAt l σ j = .A
    ·obtain ⟨o, ho, _⟩ := h2 hA
     rw [ho]
     refine of fun b hb => ?_
     have := hlt b hb
     have hm := d.mono (show i ≤ j by omega) (by omega)
     rw [new_get_ne _ _ (by omega)]
    ·rw [h1 hA]; exact rf
theorem Draw.chainGet (d : Draw P base w0 nt call ops l anc N σ F ι0 w1) {i j b : Nat} (hij : i ≤ j) (hj : j ≤ N) (hlt : b < (σ i).h.next)
 (he : ∀ k, i ≤ k → k < j → kAt l σ k = .E → (σ (k + 1)).h.get b = (σ k).h.get b) : (σ j).h.get b = (σ i).h.get b :=
 (d.chain hij hj (lc := .blk b) (fun b' hb => by cases hb; exact hlt) fun k h1 h2 h3 => (he k h1 h2 h3).symm).symm
theorem Draw.vac (d : Draw P base w0 nt call ops l anc N σ F ι0 w1) {i b : Nat} (hi : i ≤ N) (hb : (σ i).h.next ≤ b) : (σ i).h.get b = none := by
 obtain ⟨_, _, _, hk, _⟩ := d.gh i hi
 exact hk.sim.vac b hb
theorem Draw.bounded (d : Draw P base w0 nt call ops l anc N σ F ι0 w1) {i t : Nat} (hi : i ≤ N) {ι : Inj} {v' : Value} (h : Rep ι ((σ i).e t) v') : Rep (cut ι (σ i).h.next) ((σ i).e t) v' := by
 obtain ⟨ι2, a, w, hk, _, hE, _⟩ := d.gh i hi
 exact h.cut hk.sim.dom (hE t)
theorem Draw.pairT (d : Draw P base w0 nt call ops l anc N σ F ι0 w1) {i j t : Nat} (hij : i < j) (hj : j < l.length) (hw : (writes l i t ∧ t ∈ nmAt ops l j) ∨ (writes l j t ∧ t ∈ nmAt ops l i)) : i ∈ anc.getD j [] := by
 have hp := d.ok i j hij hj
 unfold pairOk at hp
 have hi2 : i < ops.size := by rw [← d.len]; omega
 have hj2 : j < ops.size := by rw [← d.len]; omega
 unfold writes nmAt at hw
 rw [Array.getElem?_eq_getElem hi2, Array.getElem?_eq_getElem hj2, List.getElem?_eq_getElem hj, List.getElem?_eq_getElem (show i < l.length by omega)] at hp hw
 simp only [Bool.or_eq_true, Option.bind_some] at hp hw
 rcases hp with hp | hp
 ·simpa using hp
 ·exfalso
  simp only [Bool.and_eq_true] at hp
  rcases hw with ⟨h1, h2⟩ | ⟨h1, h2⟩
  ·have := hp.1.1
   rw [h1] at this
   simp [h2] at this
  ·have := hp.1.2
   rw [h1] at this
   simp [h2] at this
theorem Draw.pairE (d : Draw P base w0 nt call ops l anc N σ F ι0 w1) {i j : Nat} (hij : i < j) (hj : j < l.length) (h1 : kAt l σ i = .E) (h2 : kAt l σ j = .E) : i ∈ anc.getD j [] := by
 have hp := d.ok i j hij hj
 unfold pairOk at hp
 have hi2 : i < ops.size := by rw [← d.len]; omega
 have hj2 : j < ops.size := by rw [← d.len]; omega
 have hil : i < l.length := by omega
 have e1 := List.getElem?_eq_getElem hil
 have e2 := List.getElem?_eq_getElem hj
 rw [kAt_eq e1] at h1
 rw [kAt_eq e2] at h2
 rw [Array.getElem?_eq_getElem hi2, Array.getElem?_eq_getElem hj2, e1, e2] at hp
 simp only [Bool.or_eq_true] at hp
 rcases hp with hp | hp
 ·simpa using hp
 ·exfalso
  simp only [Bool.and_eq_true] at hp
  have k1 : kdStm l[i].stm = .E := by split at h1 <;> simp_all
  have k2 : kdStm l[j].stm = .E := by split at h2 <;> simp_all
  have := hp.2
  simp [k1, k2] at this
def mixI (D : Nat → Bool) (l : List Step) : Nat → Nat → Nat
 | 0, _ => 0
 | k + 1, t => if D k = true ∧ (l[k]?.bind (·.dst)) = some t then k + 1 else mixI D l k t
theorem Draw.mix_all (d : Draw P base w0 nt call ops l anc N σ F ι0 w1) {D : Nat → Bool} {t : Nat} : ∀ k, k ≤ N → (∀ j, j < k → writes l j t → D j = true) → (σ (mixI D l k t)).e t = (σ k).e t
 | 0, _, _ => rfl
 | k + 1, hk, h => by
  unfold mixI
  split
  ·rfl
  ·rename_i hn
   rw [d.mix_all k (by omega) fun j hj => h j (by omega)]
   refine (d.env (show k < N by omega) fun hw => hn ⟨h k (by omega) hw, hw⟩).symm
theorem mix_none {D : Nat → Bool} {t k : Nat} : ∀ m, k ≤ m → (∀ j, k ≤ j → j < m → writes l j t → D j = false) → mixI D l m t = mixI D l k t
 | 0, hk, _ => by have : k = 0 := by omega
                  subst this; rfl
 | m + 1, hk, h => by
  by_cases e : k = m + 1
  ·subst e; rfl
  ·rw [show mixI D l (m + 1) t = if D m = true ∧ (l[m]?.bind (·.dst)) = some t then m + 1 else mixI D l m t from rfl]
   rw [if_neg (fun hn => by rw [h m (by omega) (by omega) hn.2] at hn; cases hn.1), mix_none m (by omega) fun j h1 h2 => h j h1 (by omega)]
theorem mix_other {D D' : Nat → Bool} {i t : Nat} (hD : ∀ j, j ≠ i → D' j = D j) (hw : ¬ writes l i t) : ∀ m, mixI D' l m t = mixI D l m t
 | 0 => rfl
 | m + 1 => by
  unfold mixI
  rw [mix_other hD hw m]
  by_cases e : m = i
  ·subst e
   rw [if_neg (fun h => hw h.2), if_neg (fun h => hw h.2)]
  ·rw [hD m e]
theorem Draw.looks (d : Draw P base w0 nt call ops l anc N σ F ι0 w1) {D : Nat → Bool} (hN : ∀ j, D j = true → j < N) (hcl : ∀ j, D j = true → ∀ k ∈ anc.getD j [], D k = true) {i : Nat} (hi : i ≤ N) (hl : i < l.length) (hD : D i = false)
 (han : ∀ j ∈ anc.getD i [], D j = true) {t : Nat} (ht : t ∈ nmAt ops l i) : (σ (mixI D l N t)).e t = (σ i).e t := by
 rw [mix_none (k := i) N hi, d.mix_all i hi]
 ·intro j hj hw
  exact han j (d.pairT hj hl (.inl ⟨hw, ht⟩))
 ·intro j h1 h2 hw
  cases hDj : D j with
  | false => rfl
  | true =>
   by_cases e : j = i
   ·subst e; rw [hD] at hDj; cases hDj
   ·have htop := d.top
    have := hcl j hDj i (d.pairT (show i < j by omega) (by omega) (.inr ⟨hw, ht⟩))
    rw [hD] at this; cases this
structure Inv (P : Program) (base : Nat) (w0 : World) (nt : Nat) (l : List Step) (anc : List (List Nat)) (N : Nat) (σ : Nat → St) (ι0 : Inj) (w1 : World) (D : Nat → Bool) (c : Nat) (ι : Inj) (a : Act) (w : World) : Prop where
 cN : c ≤ N
 dN : ∀ i, D i = true → i < N
 lev : ∀ k, k < N → kAt l σ k = .E → (D k = true ↔ k < c)
 cl : ∀ i, D i = true → ∀ j ∈ anc.getD i [], D j = true
 main : Sim (CRel P) base (cut ι (σ c).h.next) (σ c).h w
 side : ∀ b i, (σ c).h.next ≤ b → ι b = some i → ∃ j, j < N ∧ kAt l σ j = .A ∧ D j = true ∧ c ≤ j ∧ b = (σ j).h.next ∧ w1.heap.size ≤ i.blk ∧
  ∃ o o', (σ (j + 1)).h.get b = some o ∧ mineB o = true ∧ w.heap[i.blk]? = some o' ∧ BRel (CRel P) base (cut ι (b + 1)) i o o'
 dist : ∀ b i b2 i2, (σ c).h.next ≤ b → ι b = some i → ι b2 = some i2 → b2 ≠ b → ((σ c).h.next ≤ b2 ∨ live (σ c).h b2) → i.blk ≠ i2.blk
 none : ∀ j, j < N → kAt l σ j = .A → D j = false → ι (σ j).h.next = Option.none
 size : base ≤ w.heap.size
 old : ∀ k, k < base → w.heap[k]? = w0.heap[k]?
 tsz : a.tmps.size = nt
 tmp : ∀ t, Rep ι ((σ (mixI D l N t)).e t) (a.tmps.getD t undef)
 dfr : DRep ι (σ c).d a.defers
 inj : ι0.le ι
 keeps : Keeps (Own ι0 (σ 0).h) w1 w
 own : ∀ r, r < w1.heap.size → Own (cut ι (σ c).h.next) (σ c).h r → Own ι0 (σ 0).h r
 fresh : ∀ b i, ι b = some i → ι0 b = some i ∨ (σ 0).h.next ≤ b
variable {D : Nat → Bool} {c : Nat} {ι : Inj} {a : Act} {w : World}
theorem cut_eq {ι : Inj} {p : Nat} (h : ∀ b i, ι b = some i → b < p) : cut ι p = ι := by
 funext b
 unfold cut
 split
 ·rfl
 ·cases hb : ι b with
  | none => rfl
  | some i => have := h b i hb; omega
theorem Draw.begin (d : Draw P base w0 nt call ops l anc N σ F ι0 w1) {a : Act} (hsz : a.tmps.size = nt) (hE : ERep ι0 (σ 0).e a.tmps) (hD : DRep ι0 (σ 0).d a.defers) : Inv P base w0 nt l anc N σ ι0 w1 (fun _ => false) 0 ι0 a w1 := by
 have hc : cut ι0 (σ 0).h.next = ι0 := cut_eq d.start.sim.dom
 refine ⟨Nat.zero_le _, by simp, by simp, by simp, by rw [hc]; exact d.start.sim, ?_, ?_, ?_, d.start.size, d.start.old, hsz, ?_, hD, .refl _, .refl _ _, ?_, fun b i h => .inl h⟩
 ·intro b i hb hi; have := d.start.sim.dom b i hi; omega
 ·intro b i b2 i2 hb hi; have := d.start.sim.dom b i hi; omega
 ·intro j hj hk _
  cases hb : ι0 (σ j).h.next with
  | none => rfl
  | some i =>
   have := d.start.sim.dom _ i hb
   have := d.mono (Nat.zero_le j) (by omega)
   omega
 ·intro t
  have : mixI (fun _ => false) l N t = 0 := by
   rw [mix_none (k := 0) N (Nat.zero_le _) (fun _ _ _ _ => rfl)]; rfl
  rw [this]; exact hE t
 ·intro r _ h; rw [hc] at h; exact h
theorem Inv.bound (d : Draw P base w0 nt call ops l anc N σ F ι0 w1) (I : Inv P base w0 nt l anc N σ ι0 w1 D c ι a w) {b : Nat} {i : BI} (hb : ι b = some i) : b < (σ N).h.next := by
 by_cases h : b < (σ c).h.next
 ·exact Nat.lt_of_lt_of_le h (d.mono I.cN (Nat.le_refl _))
 ·obtain ⟨j, hj, hA, _, _, rfl, _⟩ := I.side b i (by omega) hb
  obtain ⟨o, ho, _⟩ := (d.quiet hj (by rw [hA]; simp)).2.2 hA
  have h1 : (σ (j + 1)).h.next = (σ j).h.next + 1 := by rw [ho]; rfl
  have h2 := d.mono (show j + 1 ≤ N by omega) (Nat.le_refl _)
  omega
theorem Draw.nextA (d : Draw P base w0 nt call ops l anc N σ F ι0 w1) {j : Nat} (hj : j < N) (hA : kAt l σ j = .A) : (σ (j + 1)).h.next = (σ j).h.next + 1 := by
 obtain ⟨o, ho, _⟩ := (d.quiet hj (by rw [hA]; simp)).2.2 hA
 rw [ho]; rfl
theorem Inv.lt (d : Draw P base w0 nt call ops l anc N σ F ι0 w1) (I : Inv P base w0 nt l anc N σ ι0 w1 D c ι a w) {b : Nat} {i : BI} (hb : ι b = some i) (hl : b < (σ c).h.next → live (σ c).h b) : i.blk < w.heap.size := by
 by_cases h : b < (σ c).h.next
 ·exact I.main.lt (by rw [cut_lt h]; exact hb) (hl h)
 ·obtain ⟨_, _, _, _, _, _, _, o, o', _, _, ho, _⟩ := I.side b i (by omega) hb
  exact (Array.getElem?_eq_some_iff.1 ho).1
theorem Inv.restrict (d : Draw P base w0 nt call ops l anc N σ F ι0 w1) (I : Inv P base w0 nt l anc N σ ι0 w1 D c ι a w) {i : Nat} (hci : c ≤ i) (hi : i ≤ N) (hno : ∀ k, c ≤ k → k < i → kAt l σ k ≠ .E) :
 Sim (CRel P) base (cut ι (σ i).h.next) (σ i).h w ∧ ∀ r, r < w1.heap.size → Own (cut ι (σ i).h.next) (σ i).h r → Own ι0 (σ 0).h r := by
 have hq := d.mono hci hi
 have low : ∀ b, b < (σ c).h.next → (σ i).h.get b = (σ c).h.get b := fun b hb => d.chainGet hci hi hb fun k h1 h2 h3 => (hno k h1 h2 h3).elim
 have high : ∀ b bi, (σ c).h.next ≤ b → b < (σ i).h.next → ι b = some bi → ∃ o o', (σ i).h.get b = some o ∧ mineB o = true ∧ w1.heap.size ≤ bi.blk ∧ w.heap[bi.blk]? = some o' ∧ BRel (CRel P) base (cut ι (b + 1)) bi o o' := by
  intro b bi h1 h2 h3
  obtain ⟨j, hj, hA, hDj, hcj, rfl, hw1, o, o', ho, hm, hw, hr⟩ := I.side b bi h1 h3
  have hji : j < i := by
   rcases Nat.lt_or_ge j i with h | h
   ·exact h
   ·have := d.mono h (by omega); omega
  refine ⟨o, o', ?_, hm, hw1, hw, hr⟩
  rw [d.chainGet (i := j + 1) (j := i) (by omega) hi (by rw [d.nextA hj hA]; omega) fun k h1 h2 h3 => (hno k (by omega) h2 h3).elim]
  exact ho
 refine ⟨⟨fun b bi hb => (cut_some hb).1, fun b hb => d.vac hi hb, ?_, ?_⟩, ?_⟩
 ·intro b o bi hg hb
  obtain ⟨hlt, hι⟩ := cut_some hb
  by_cases h : b < (σ c).h.next
  ·rw [low b h] at hg
   obtain ⟨o', ho', hr⟩ := I.main.blk b o bi hg (by rw [cut_lt h]; exact hι)
   exact ⟨o', ho', hr.mono (cut_mono (.refl ι) hq)⟩
  ·obtain ⟨o1, o', h1, _, _, h2, h3⟩ := high b bi (by omega) hlt hι
   rw [hg] at h1; cases h1
   exact ⟨o', h2, h3.mono (cut_mono (.refl ι) (by omega))⟩
 ·intro b1 b2 i1 i2 hne hm hl h1 h2
  obtain ⟨g1, k1⟩ := cut_some h1
  obtain ⟨g2, k2⟩ := cut_some h2
  by_cases e1 : b1 < (σ c).h.next
  ·by_cases e2 : b2 < (σ c).h.next
   ·exact I.main.inj b1 b2 i1 i2 hne (by rwa [mine_congr (low b1 e1)] at hm) (by rwa [live_congr (low b2 e2)] at hl) (by rw [cut_lt e1]; exact k1) (by rw [cut_lt e2]; exact k2)
   ·exact (I.dist b2 i2 b1 i1 (by omega) k2 k1 hne (.inr (by have := hm.live; rwa [live_congr (low b1 e1)] at this))).symm
  ·refine I.dist b1 i1 b2 i2 (by omega) k1 k2 (Ne.symm hne) ?_
   by_cases e2 : b2 < (σ c).h.next
   ·exact .inr (by rwa [live_congr (low b2 e2)] at hl)
   ·exact .inl (by omega)
 ·intro r hr ⟨b, bi, hb, hbr, hm⟩
  obtain ⟨hlt, hι⟩ := cut_some hb
  by_cases h : b < (σ c).h.next
  ·exact I.own r hr ⟨b, bi, by rw [cut_lt h]; exact hι, hbr, by rwa [mine_congr (low b h)] at hm⟩
  ·obtain ⟨_, _, _, _, hw1, _⟩ := high b bi (by omega) hlt hι
   omega
end
end Go.Idl
end

section
namespace Go.Idl
section
variable {P : Program} {base : Nat} {w0 : World} {nt : Nat} {call : CallF} {ops : Array Oper} {l : List Step} {anc : List (List Nat)} {N : Nat} {σ : Nat → St} {F : Fence} {ι0 : Inj} {w1 : World}
variable {D : Nat → Bool} {c : Nat} {ι : Inj} {a : Act} {w : World}
def also (D : Nat → Bool) (i : Nat) : Nat → Bool := fun j => if j = i then true else D j
theorem also_ne {D : Nat → Bool} {i j : Nat} (h : j ≠ i) : also D i j = D j := by simp [also, h]
theorem also_self {D : Nat → Bool} {i : Nat} : also D i i = true := by simp [also]
theorem also_of {D : Nat → Bool} {i j : Nat} (h : D j = true) : also D i j = true := by unfold also; split <;> simp_all
theorem also_false {D : Nat → Bool} {i j : Nat} (h : also D i j = false) : j ≠ i ∧ D j = false := by
 unfold also at h
 split at h
 ·cases h
 ·exact ⟨by assumption, h⟩
theorem Keeps.step {M : Nat → Prop} {a b c : World} (h : Keeps M a b) (h1 : c.os = b.os) (h2 : c.tape = b.tape) (h3 : c.output = b.output) (h4 : b.heap.size ≤ c.heap.size) (h5 : ∀ k, k < a.heap.size → ¬ M k → c.heap[k]? = b.heap[k]?) : Keeps M a c :=
 ⟨h1.trans h.os, h2.trans h.tape, h3.trans h.output, Nat.le_trans h.size h4, fun k hk hn => (h5 k hk hn).trans (h.block k hk hn)⟩
def maskA (ns : List Nat) (a : Act) : Act := { a with tmps := a.tmps.mapIdx fun t v => if ns.contains t then v else undef }
def maskE (ns : List Nat) (e : Env) : Env := fun t => if ns.contains t then e t else undef
theorem maskA_get (ns : List Nat) (a : Act) (t : Nat) : (maskA ns a).tmps.getD t undef = if ns.contains t then a.tmps.getD t undef else undef := by
 simp only [maskA, Array.getD_eq_getD_getElem?, Array.getElem?_mapIdx]
 cases a.tmps[t]? <;> simp
theorem maskRep {ι : Inj} {ns : List Nat} {e : Env} {a : Act} (h : ∀ t ∈ ns, Rep ι (e t) (a.tmps.getD t undef)) : ERep ι (maskE ns e) (maskA ns a).tmps := by
 intro t
 rw [maskA_get]
 unfold maskE
 split
 ·rename_i hc; exact h t (by simpa using hc)
 ·exact rep_undef
theorem mask_eval {o : Oper} {x : Step} (a : Act) : ∀ y ∈ o.op.operands, (maskA (namesAt ops o x) a).eval y = a.eval y := by
 intro y hy
 cases y with
 | tmp t =>
  have : t ∈ namesAt ops o x := List.mem_append_left _ (List.mem_append_left _ (by
   unfold Oper.looksAt
   exact List.mem_append_left _ (List.mem_filterMap.2 ⟨.tmp t, by simpa using hy, rfl⟩)))
  simp only [Act.eval, maskA_get]
  simp [this]
 | const v => rfl
 | global g => rfl
 | func f => rfl
theorem mask_wanted {o : Oper} {x : Step} (a : Act) : Region.wanted o (yielded ops (maskA (namesAt ops o x) a).tmps) = Region.wanted o (yielded ops a.tmps) := by
 unfold Region.wanted
 cases hg : o.guard with
 | none => rfl
 | some gw =>
  obtain ⟨g, want⟩ := gw
  have hy : yielded ops (maskA (namesAt ops o x) a).tmps g = yielded ops a.tmps g := by
   unfold yielded
   cases ht : (ops[g]?).bind (·.dst) with
   | none => rfl
   | some t =>
    have hm : t ∈ namesAt ops o x := List.mem_append_left _ (List.mem_append_left _ (by
     unfold Oper.looksAt
     exact List.mem_append_right _ (by simp [hg, ht])))
    simp only [maskA, Option.bind_some, Array.getElem?_mapIdx]
    cases a.tmps[t]? <;> simp [hm]
  simp only [hy]
theorem maskE_ev {o : Oper} {x : Step} (e : Env) : ∀ y ∈ stmOpds x.stm, ev e y = ev (maskE (namesAt ops o x) e) y := by
 apply ev_congr
 intro t ht
 have : t ∈ namesAt ops o x := List.mem_append_right _ (List.mem_append_right _ ht)
 simp [maskE, this]
theorem maskE_wanted {o : Oper} {x : Step} (e : Env) : wantedE (maskE (namesAt ops o x) e) x.grd = wantedE e x.grd := by
 cases hg : x.grd with
 | none => rfl
 | some g =>
  obtain ⟨j, b⟩ := g
  have : j ∈ namesAt ops o x := List.mem_append_right _ (List.mem_append_left _ (by rw [hg]; simp))
  simp [wantedE, maskE, this]
theorem nmAt_eq {i : Nat} {o : Oper} {x : Step} (ho : ops[i]? = some o) (hx : l[i]? = some x) : nmAt ops l i = namesAt ops o x := by unfold nmAt; rw [ho, hx]
theorem Inv.tmpNext (d : Draw P base w0 nt call ops l anc N σ F ι0 w1) (I : Inv P base w0 nt l anc N σ ι0 w1 D c ι a w) {i : Nat} (hi : i < N) {o : Oper} {x : Step} (ho : ops[i]? = some o) (hx : l[i]? = some x) (hst : cstep P nt ops o = some x)
 (hD : D i = false) {ι' : Inj} (hle : ι.le ι') {v' : Value} (hv : ∀ t, x.dst = some t → Rep ι' ((σ (i + 1)).e t) v') (ds : List Deferred) :
 ∀ t, Rep ι' ((σ (mixI (also D i) l N t)).e t) (({ a with defers := ds }.put o.dst v').tmps.getD t undef) := by
 obtain ⟨hdst, _, hlt⟩ := cstep_spec hst
 intro t
 by_cases hw : writes l i t
 ·have hxd : x.dst = some t := by unfold writes at hw; rw [hx] at hw; simpa using hw
  have htop := d.top
  have : mixI (also D i) l N t = i + 1 := by
   rw [mix_none (k := i + 1) N (by omega)]
   ·simp only [mixI]
    rw [if_pos ⟨also_self, hw⟩]
   ·intro j h1 h2 hwj
    rw [also_ne (by omega)]
    cases hDj : D j with
    | false => rfl
    | true =>
     have hm : t ∈ nmAt ops l i := by
      rw [nmAt_eq ho hx]
      exact List.mem_append_left _ (List.mem_append_right _ (by rw [hxd]; simp))
     have := I.cl j hDj i (d.pairT (show i < j by omega) (by omega) (.inr ⟨hwj, hm⟩))
     rw [hD] at this; cases this
  rw [this]
  have ht : t < a.tmps.size := by rw [I.tsz]; exact hlt t (by rw [← hdst, hxd])
  have hod : o.dst = some t := by rw [← hdst, hxd]
  simp only [Act.put, hod, Array.getD_eq_getD_getElem?, Array.getElem?_setIfInBounds_self_of_lt ht, Option.getD_some]
  exact hv t hxd
 ·rw [mix_other (D := D) (i := i) (fun j hj => also_ne hj) hw]
  have : ({ a with defers := ds }.put o.dst v').tmps.getD t undef = a.tmps.getD t undef := by
   cases hod : o.dst with
   | none => rfl
   | some u =>
    have hne : u ≠ t := fun e => hw (by unfold writes; rw [hx]; simp [hdst, hod, e])
    simp [Act.put, Array.getElem?_setIfInBounds_ne hne]
  rw [this]
  exact (I.tmp t).mono hle
theorem Inv.lev' (I : Inv P base w0 nt l anc N σ ι0 w1 D c ι a w) {i : Nat} (hk : kAt l σ i ≠ .E) : ∀ k, k < N → kAt l σ k = .E → (also D i k = true ↔ k < c) := by
 intro k hkN hkE
 rw [also_ne (fun e => hk (by rw [← e]; exact hkE))]
 exact I.lev k hkN hkE
theorem Inv.cl' (I : Inv P base w0 nt l anc N σ ι0 w1 D c ι a w) {i : Nat} (han : ∀ j ∈ anc.getD i [], D j = true) : ∀ k, also D i k = true → ∀ j ∈ anc.getD k [], also D i j = true := by
 intro k hk j hj
 by_cases e : k = i
 ·subst e; exact also_of (han j hj)
 ·rw [also_ne e] at hk; exact also_of (I.cl k hk j hj)
theorem Inv.dN' (I : Inv P base w0 nt l anc N σ ι0 w1 D c ι a w) {i : Nat} (hi : i < N) : ∀ k, also D i k = true → k < N := by
 intro k hk
 by_cases e : k = i
 ·omega
 ·rw [also_ne e] at hk; exact I.dN k hk
theorem Inv.quietUp (d : Draw P base w0 nt call ops l anc N σ F ι0 w1) (I : Inv P base w0 nt l anc N σ ι0 w1 D c ι a w) {i : Nat} (hi : i < N) {o : Oper} {x : Step} (ho : ops[i]? = some o) (hx : l[i]? = some x) (hst : cstep P nt ops o = some x)
 (hD : D i = false) (han : ∀ j ∈ anc.getD i [], D j = true) (hk : kAt l σ i ≠ .E) (hk2 : kAt l σ i ≠ .A) {v' : Value} (hv : ∀ t, x.dst = some t → Rep ι ((σ (i + 1)).e t) v') :
 Inv P base w0 nt l anc N σ ι0 w1 (also D i) c ι (a.put o.dst v') w :=
 { cN := I.cN, dN := I.dN' hi, lev := I.lev' hk, cl := I.cl' han, main := I.main
   side := fun b bi h1 h2 => by
    obtain ⟨j, h3, h4, h5, h6⟩ := I.side b bi h1 h2
    exact ⟨j, h3, h4, also_of h5, h6⟩
   dist := I.dist
   none := fun j h1 h2 h3 => I.none j h1 h2 (also_false h3).2
   size := I.size, old := I.old, tsz := by rw [put_size]; exact I.tsz
   tmp := I.tmpNext d hi ho hx hst hD (.refl ι) hv a.defers
   dfr := by rw [put_defers]; exact I.dfr
   inj := I.inj, keeps := I.keeps, own := I.own, fresh := I.fresh }
theorem Inv.newUp (d : Draw P base w0 nt call ops l anc N σ F ι0 w1) (I : Inv P base w0 nt l anc N σ ι0 w1 D c ι a w) {i : Nat} (hi : i < N) {o : Oper} {x : Step} (ho : ops[i]? = some o) (hx : l[i]? = some x) (hst : cstep P nt ops o = some x)
 (hD : D i = false) (han : ∀ j ∈ anc.getD i [], D j = true) (hA : kAt l σ i = .A) {ob : Blk} (hob : (σ (i + 1)).h = (σ i).h.new ob) (hmb : mineB ob = true) {ι' : Inj} {w' : World}
 (hs' : Sim (CRel P) base ι' ((Heap.mk (fun _ => Option.none) (σ i).h.next).new ob) w') (he : Ext (cut ι (σ i).h.next) (Heap.mk (fun _ => Option.none) (σ i).h.next) w ι' ((Heap.mk (fun _ => Option.none) (σ i).h.next).new ob) w')
 {v' : Value} (hv : ∀ t, x.dst = some t → Rep ι' ((σ (i + 1)).e t) v') :
 ∃ ι2, Inv P base w0 nt l anc N σ ι0 w1 (also D i) c ι2 (a.put o.dst v') w' := by
 have hnE : kAt l σ i ≠ .E := by rw [hA]; simp
 generalize hp : (σ i).h.next = p at *
 have hp1 : (σ (i + 1)).h.next = p + 1 := by rw [d.nextA hi hA, hp]
 have hgrew : Grew w w' := ⟨he.keeps.size, fun k hk => he.keeps.block k hk fun ⟨b, j, _, _, hm⟩ => by simp [mine] at hm⟩
 have hgetp : ((Heap.mk (fun _ => Option.none) p).new ob).get p = some ob := by simp [Heap.new]
 have hdom : ∀ b j, ι' b = some j → b < p + 1 := fun b j hb => hs'.dom b j hb
 have low : ∀ b, b < p → ι' b = ι b := by
  intro b hb
  cases h : ι b with
  | some j => exact he.inj b j (by rw [cut_lt hb]; exact h)
  | none =>
   cases h2 : ι' b with
   | none => rfl
   | some j =>
    rcases he.fresh b j h2 with h3 | h3
    ·rw [cut_lt hb, h] at h3; cases h3
    ·simp only at h3; omega
 have hιp : ι p = Option.none := by rw [← hp]; exact I.none i hi hA hD
 let ι2 : Inj := fun b => if b = p then ι' p else ι b
 have h2p : ι2 p = ι' p := by simp [ι2]
 have h2n : ∀ b, b ≠ p → ι2 b = ι b := fun b hb => by simp [ι2, hb]
 have hle : ι.le ι2 := fun b j hb => by
  by_cases e : b = p
  ·subst e; rw [hιp] at hb; cases hb
  ·rw [h2n b e]; exact hb
 have hle' : ι'.le ι2 := fun b j hb => by
  by_cases e : b = p
  ·subst e; rw [h2p]; exact hb
  ·have := hdom b j hb
   rw [h2n b e, ← low b (by omega)]; exact hb
 have hnew : ∀ j, ι' p = some j → w.heap.size ≤ j.blk ∧ ∃ o', w'.heap[j.blk]? = some o' ∧ BRel (CRel P) base ι' j ob o' := by
  intro j hj
  obtain ⟨o', ho', hr⟩ := hs'.blk p ob j hgetp hj
  refine ⟨?_, o', ho', hr⟩
  rcases Nat.lt_or_ge j.blk w.heap.size with h | h
  ·obtain ⟨b, k, _, _, hm⟩ := he.own j.blk h ⟨p, j, hj, rfl, (mine_of hgetp).2 hmb⟩
   simp [mine] at hm
  ·exact h
 have hw1 : w1.heap.size ≤ w.heap.size := I.keeps.size
 have sideOf : ∀ b bi, (σ c).h.next ≤ b → ι b = some bi → ∃ j, j < N ∧ kAt l σ j = .A ∧ also D i j = true ∧ c ≤ j ∧ b = (σ j).h.next ∧ w1.heap.size ≤ bi.blk ∧
  ∃ o o', (σ (j + 1)).h.get b = some o ∧ mineB o = true ∧ w'.heap[bi.blk]? = some o' ∧ BRel (CRel P) base (cut ι2 (b + 1)) bi o o' := by
  intro b bi h1 h2
  obtain ⟨j, h3, h4, h5, h6, h7, h8, o1, o2, h9, h10, h11, h12⟩ := I.side b bi h1 h2
  exact ⟨j, h3, h4, also_of h5, h6, h7, h8, o1, o2, h9, h10, by rw [hgrew.2 _ (Array.getElem?_eq_some_iff.1 h11).1]; exact h11, h12.mono (cut_mono hle (Nat.le_refl _))⟩
 have hcN := I.cN
 refine ⟨ι2, ?_⟩
 refine { cN := I.cN, dN := I.dN' hi, lev := I.lev' hnE, cl := I.cl' han, main := ?_, side := ?_, dist := ?_, none := ?_, size := Nat.le_trans I.size hgrew.1, old := ?_, tsz := by rw [put_size]; exact I.tsz,
          tmp := I.tmpNext d hi ho hx hst hD hle (fun t ht => (hv t ht).mono hle') a.defers, dfr := by rw [put_defers]; exact I.dfr.mono hle, inj := I.inj.trans hle,
          keeps := I.keeps.trans ⟨he.keeps.os, he.keeps.tape, he.keeps.output, hgrew.1, fun k hk _ => hgrew.2 k hk⟩, own := ?_, fresh := ?_ }
 ·-- the heap of the level
  by_cases hci : c ≤ i
  ·have hq := d.mono hci (by omega)
   have : cut ι2 (σ c).h.next = cut ι (σ c).h.next := by
    funext b
    unfold cut
    split
    ·rw [h2n b (by omega)]
    ·rfl
   rw [this]; exact I.main.grew hgrew
  ·have hq : p + 1 ≤ (σ c).h.next := by rw [← hp1]; exact d.mono (by omega) hcN
   have hgp : (σ c).h.get p = some ob := by
    rw [d.chainGet (i := i + 1) (j := c) (by omega) hcN (by omega)]
    ·rw [hob, ← hp]; exact new_get _ _
    ·intro k h1 h2 h3
     obtain ⟨ok, xk, _, hxk, _, _⟩ := d.step (show k < N by omega)
     have hDk : D k = true := (I.lev k (by omega) h3).2 (by omega)
     have h3' := h3
     rw [kAt_eq hxk] at h3'
     have hA' := hA
     rw [kAt_eq hx] at hA'
     rcases d.run.nwE i k x xk (Nat.zero_le _) (by omega) (by omega) (by simpa using hx) (by simpa using hxk) (by split at hA' <;> simp_all) (by split at h3' <;> simp_all) (by split at hA' <;> simp_all) (by split at h3' <;> simp_all) with h | h
     ·have := I.cl k hDk i h; rw [hD] at this; cases this
     ·simp only [sameAt, hp] at h; exact h.symm
   refine ⟨fun b j hb => (cut_some hb).1, I.main.vac, ?_, ?_⟩
   ·intro b o1 j hg hb
    obtain ⟨hlt, hb'⟩ := cut_some hb
    by_cases e : b = p
    ·subst e
     rw [hgp] at hg; cases hg
     rw [h2p] at hb'
     obtain ⟨_, o', ho', hr⟩ := hnew j hb'
     exact ⟨o', ho', hr.mono fun b1 j1 h1 => by rw [cut_lt (by have := hdom b1 j1 h1; omega)]; exact hle' b1 j1 h1⟩
    ·rw [h2n b e] at hb'
     obtain ⟨o', ho', hr⟩ := I.main.blk b o1 j hg (by rw [cut_lt hlt]; exact hb')
     exact ⟨o', by rw [hgrew.2 _ (Array.getElem?_eq_some_iff.1 ho').1]; exact ho', hr.mono (cut_mono hle (Nat.le_refl _))⟩
   ·intro b1 b2 i1 i2 hne hm hl h1 h2
    obtain ⟨l1, k1⟩ := cut_some h1
    obtain ⟨l2, k2⟩ := cut_some h2
    by_cases e1 : b1 = p
    ·have e2 : b2 ≠ p := fun e => hne (by rw [e1, e])
     rw [e1, h2p] at k1
     rw [h2n b2 e2] at k2
     have := (hnew i1 k1).1
     have := I.main.lt (by rw [cut_lt l2]; exact k2) hl
     omega
    ·by_cases e2 : b2 = p
     ·rw [e2, h2p] at k2
      rw [h2n b1 e1] at k1
      have := (hnew i2 k2).1
      have := I.main.lt (by rw [cut_lt l1]; exact k1) hm.live
      omega
     ·rw [h2n b1 e1] at k1
      rw [h2n b2 e2] at k2
      exact I.main.inj b1 b2 i1 i2 hne hm hl (by rw [cut_lt l1]; exact k1) (by rw [cut_lt l2]; exact k2)
 ·intro b bi h1 h2
  by_cases e : b = p
  ·subst e
   rw [h2p] at h2
   obtain ⟨hge, o', ho', hr⟩ := hnew bi h2
   have hci : c ≤ i := by
    rcases Nat.lt_or_ge i c with h | h
    ·have := d.mono (show i + 1 ≤ c by omega) hcN; omega
    ·exact h
   refine ⟨i, hi, hA, also_self, hci, hp.symm, by omega, ob, o', by rw [hob, ← hp]; exact new_get _ _, hmb, ho', hr.mono fun b1 j1 h1 => ?_⟩
   rw [cut_lt (hdom b1 j1 h1)]; exact hle' b1 j1 h1
  ·rw [h2n b e] at h2; exact sideOf b bi h1 h2
 ·intro b bi b2 i2 h1 h2 h3 hne hl
  by_cases e1 : b = p
  ·have e2 : b2 ≠ p := fun e => hne (by rw [e1, e])
   rw [e1, h2p] at h2
   rw [h2n b2 e2] at h3
   have := (hnew bi h2).1
   have := I.lt d h3 (fun hlt => hl.elim (fun h => by omega) id)
   omega
  ·by_cases e2 : b2 = p
   ·rw [h2n b e1] at h2
    rw [e2, h2p] at h3
    have := (hnew i2 h3).1
    have := I.lt d h2 (fun hlt => by omega)
    omega
   ·rw [h2n b e1] at h2
    rw [h2n b2 e2] at h3
    exact I.dist b bi b2 i2 h1 h2 h3 hne hl
 ·intro j h1 h2 h3
  obtain ⟨hji, hDj⟩ := also_false h3
  have hne : (σ j).h.next ≠ p := by
   have hj1 := d.nextA h1 h2
   rcases Nat.lt_or_ge j i with h | h
   ·have := d.mono (show j + 1 ≤ i by omega) (by omega); omega
   ·have := d.mono (show i + 1 ≤ j by omega) (by omega); omega
  rw [h2n _ hne]; exact I.none j h1 h2 hDj
 ·intro k hk
  rw [hgrew.2 k (Nat.lt_of_lt_of_le hk I.size)]; exact I.old k hk
 ·intro r hr ⟨b, bi, hb, hbr, hm⟩
  obtain ⟨hlt, hb'⟩ := cut_some hb
  by_cases e : b = p
  ·rw [e, h2p] at hb'
   have := (hnew bi hb').1
   omega
  ·rw [h2n b e] at hb'
   exact I.own r hr ⟨b, bi, by rw [cut_lt hlt]; exact hb', hbr, hm⟩
 ·intro b bi hb
  by_cases e : b = p
  ·right
   have := d.mono (Nat.zero_le i) (show i ≤ N by omega)
   omega
  ·rw [h2n b e] at hb; exact I.fresh b bi hb
theorem Inv.ahead (d : Draw P base w0 nt call ops l anc N σ F ι0 w1) (I : Inv P base w0 nt l anc N σ ι0 w1 D c ι a w) {i : Nat} (hi : i ≤ N) (hl : i < l.length) (hD : D i = false) (han : ∀ j ∈ anc.getD i [], D j = true) (hE : kAt l σ i = .E) :
 c ≤ i ∧ (∀ k, k < i → kAt l σ k = .E → D k = true) ∧ ∀ k, c ≤ k → k < i → kAt l σ k ≠ .E := by
 have h1 : ∀ k, k < i → kAt l σ k = .E → D k = true := fun k hk hkE => han k (d.pairE hk hl hkE hE)
 refine ⟨?_, h1, fun k hc hk hkE => ?_⟩
 ·rcases Nat.lt_or_ge i c with h | h
  ·have := I.cN
   have := (I.lev i (by omega) hE).2 h
   rw [hD] at this; cases this
  ·exact h
 ·have := (I.lev k (by omega) hkE).1 (h1 k hk hkE)
  omega
theorem Inv.effUp (d : Draw P base w0 nt call ops l anc N σ F ι0 w1) (I : Inv P base w0 nt l anc N σ ι0 w1 D c ι a w) {i : Nat} (hi : i < N) {o : Oper} {x : Step} (ho : ops[i]? = some o) (hx : l[i]? = some x) (hst : cstep P nt ops o = some x)
 (hD : D i = false) (han : ∀ j ∈ anc.getD i [], D j = true) (hE : kAt l σ i = .E) {ι' : Inj} {w' : World} (hk' : Ok P base w0 ι' (σ (i + 1)).h w') (he : Ext (cut ι (σ i).h.next) (σ i).h w ι' (σ (i + 1)).h w')
 {v' : Value} {ds : List Deferred} (hv : ∀ t, x.dst = some t → Rep ι' ((σ (i + 1)).e t) v') (hds : DRep ι' (σ (i + 1)).d ds) :
 ∃ ι2, Inv P base w0 nt l anc N σ ι0 w1 (also D i) (i + 1) ι2 ({ a with defers := ds }.put o.dst v') w' := by
 have htop := d.top
 obtain ⟨hci, hpre, hno⟩ := I.ahead d (by omega) (by omega) hD han hE
 obtain ⟨hres, hown⟩ := I.restrict d hci (by omega) hno
 have hs' := hk'.sim
 have hqp := d.mono hci (by omega)
 have hpq := d.nx i hi
 generalize hp : (σ i).h.next = p at *
 generalize hq' : (σ (i + 1)).h.next = q' at *
 have hdom : ∀ b j, ι' b = some j → b < q' := fun b j hb => by rw [← hq']; exact hs'.dom b j hb
 have gap : ∀ b bi, p ≤ b → b < q' → ι b = some bi → False := by
  intro b bi h1 h2 h3
  obtain ⟨j, hj, hA, hDj, hcj, rfl, _⟩ := I.side b bi (by omega) h3
  have hj1 := d.nextA hj hA
  rcases Nat.lt_trichotomy j i with h | h | h
  ·have := d.mono (show j + 1 ≤ i by omega) (by omega); omega
  ·subst h; rw [hE] at hA; cases hA
  ·have := d.mono (show i + 1 ≤ j by omega) (by omega); omega
 let ι2 : Inj := fun b => if b < q' then ι' b else ι b
 have h2l : ∀ b, b < q' → ι2 b = ι' b := fun b hb => by simp [ι2, hb]
 have h2h : ∀ b, q' ≤ b → ι2 b = ι b := fun b hb => by simp only [ι2]; rw [if_neg (by omega)]
 have hle : ι.le ι2 := fun b j hb => by
  by_cases h : b < q'
  ·rw [h2l b h]
   by_cases h' : b < p
   ·exact he.inj b j (by rw [cut_lt h']; exact hb)
   ·exact (gap b j (by omega) h hb).elim
  ·rw [h2h b (by omega)]; exact hb
 have hle' : ι'.le ι2 := fun b j hb => by rw [h2l b (hdom b j hb)]; exact hb
 have hcut : cut ι2 q' = ι' := by
  funext b
  unfold cut
  split
  ·rename_i h; exact h2l b h
  ·cases hb : ι' b with
   | none => rfl
   | some j => have := hdom b j hb; omega
 have notOwn : ∀ b bi, q' ≤ b → ι b = some bi → ¬ Own (cut ι p) (σ i).h bi.blk := by
  intro b bi h1 h2 ⟨b2, i2, h3, h4, hm⟩
  obtain ⟨hlt, h3'⟩ := cut_some h3
  refine I.dist b bi b2 i2 (by omega) h2 h3' (by omega) ?_ h4.symm
  by_cases h : b2 < (σ c).h.next
  ·right
   have := d.chainGet hci (show i ≤ N by omega) h fun k h1 h2 h3 => (hno k h1 h2 h3).elim
   have hl := hm.live
   rwa [live_congr this] at hl
  ·exact .inl (by omega)
 have hlt : ∀ b bi, q' ≤ b → ι b = some bi → bi.blk < w.heap.size := fun b bi h1 h2 => I.lt d h2 (fun h => by omega)
 have same : ∀ b bi, q' ≤ b → ι b = some bi → w'.heap[bi.blk]? = w.heap[bi.blk]? := fun b bi h1 h2 => he.keeps.block _ (hlt b bi h1 h2) (notOwn b bi h1 h2)
 have hw1 : w1.heap.size ≤ w.heap.size := I.keeps.size
 refine ⟨ι2, ?_⟩
 refine { cN := by omega, dN := I.dN' hi, lev := ?_, cl := I.cl' han, main := by rw [hq', hcut]; exact hs', side := ?_, dist := ?_, none := ?_, size := hk'.size, old := hk'.old, tsz := by rw [put_size]; exact I.tsz,
          tmp := I.tmpNext d hi ho hx hst hD hle (fun t ht => (hv t ht).mono hle') ds, dfr := by rw [put_defers]; exact hds.mono hle', inj := I.inj.trans hle,
          keeps := I.keeps.step he.keeps.os he.keeps.tape he.keeps.output he.keeps.size ?_, own := ?_, fresh := ?_ }
 ·intro k hk hkE
  by_cases e : k = i
  ·subst e; exact ⟨fun _ => by omega, fun _ => also_self⟩
  ·rw [also_ne e]
   refine ⟨fun h => ?_, fun h => hpre k (by omega) hkE⟩
   have := (I.lev k hk hkE).1 h
   omega
 ·intro b bi h1 h2
  rw [hq'] at h1
  rw [h2h b h1] at h2
  obtain ⟨j, hj, hA, hDj, hcj, hbj, hw, o1, o2, h3, h4, h5, h6⟩ := I.side b bi (by omega) h2
  refine ⟨j, hj, hA, also_of hDj, ?_, hbj, hw, o1, o2, h3, h4, by rw [same b bi h1 h2]; exact h5, h6.mono (cut_mono hle (Nat.le_refl _))⟩
  have hj1 := d.nextA hj hA
  rcases Nat.lt_or_ge j (i + 1) with h | h
  ·have := d.mono (show j + 1 ≤ i + 1 by omega) (by omega); omega
  ·exact h
 ·intro b bi b2 i2 h1 h2 h3 hne hl
  rw [hq'] at h1 hl
  rw [h2h b h1] at h2
  by_cases h : b2 < q'
  ·rw [h2l b2 h] at h3
   obtain ⟨o2, ho2, hdead⟩ := live_some (hl.resolve_left (by omega))
   obtain ⟨o2', ho2', hr2⟩ := hs'.blk b2 o2 i2 ho2 h3
   cases hm : mineB o2 with
   | true =>
    intro heq
    have := he.own i2.blk (by rw [← heq]; exact hlt b bi h1 h2) ⟨b2, i2, h3, rfl, (mine_of ho2).2 hm⟩
    exact notOwn b bi h1 h2 (by rw [heq]; exact this)
   | false =>
    have := brel_other hr2 hm hdead
    obtain ⟨j, _, _, _, _, _, _, o1, o1', _, hm1, _, hr1⟩ := I.side b bi (by omega) h2
    have := brel_mine hr1 hm1
    omega
  ·rw [h2h b2 (by omega)] at h3
   exact I.dist b bi b2 i2 (by omega) h2 h3 hne (.inl (by omega))
 ·intro j h1 h2 h3
  obtain ⟨hji, hDj⟩ := also_false h3
  by_cases h : (σ j).h.next < q'
  ·rw [h2l _ h]
   cases hb : ι' (σ j).h.next with
   | none => rfl
   | some bi =>
    exfalso
    rcases he.fresh _ bi hb with h4 | h4
    ·have := (cut_some h4).2
     rw [I.none j h1 h2 hDj] at this; cases this
    ·have hj1 := d.nextA h1 h2
     rcases Nat.lt_or_ge j i with h5 | h5
     ·have := d.mono (show j + 1 ≤ i by omega) (by omega); omega
     ·have := d.mono (show i + 1 ≤ j by omega) (by omega); omega
  ·rw [h2h _ (by omega)]; exact I.none j h1 h2 hDj
 ·intro k hk hn
  exact he.keeps.block k (by omega) fun ho => hn (hown k hk ho)
 ·intro r hr ho
  rw [hq', hcut] at ho
  exact hown r hr (he.own r (by omega) ho)
 ·intro b bi hb
  by_cases h : b < q'
  ·rw [h2l b h] at hb
   rcases he.fresh b bi hb with h1 | h1
   ·exact I.fresh b bi (cut_some h1).2
   ·right
    have := d.mono (Nat.zero_le i) (show i ≤ N by omega)
    omega
  ·rw [h2h b (by omega)] at hb; exact I.fresh b bi hb
end
end Go.Idl
end

section
namespace Go.Idl
theorem DL.cut {ι ι2 : Inj} {p : Nat} (hd : ∀ b i, ι2 b = some i → b < p) : ∀ {ds : List Dfr} {ds' ds2 : List Deferred}, DL ι ds ds' → DL ι2 ds ds2 → DL (Idl.cut ι p) ds ds'
 | [], [], _, _, _ => trivial
 | [], _ :: _, _, h, _ => h.elim
 | .fn f vs :: ds, [], _, h, _ => h.elim
 | .mark b :: ds, [], _, h, _ => h.elim
 | .fn f vs :: ds, d :: ds', [], _, h => h.elim
 | .mark b :: ds, d :: ds', [], _, h => h.elim
 | .fn f vs :: ds, d :: ds', d2 :: ds2, ⟨⟨cap, h1, h2⟩, h3⟩, ⟨⟨cap2, g1, g2⟩, g3⟩ => by
  refine ⟨⟨cap, h1, h2.1, fun k v v' e1 e2 => ?_⟩, DL.cut hd h3 g3⟩
  obtain ⟨u, _, hu⟩ := g2.get e1
  exact (h2.2 k v v' e1 e2).cut hd hu
 | .mark b :: ds, d :: ds', d2 :: ds2, ⟨⟨i, h1, h2⟩, h3⟩, ⟨⟨i2, g1, g2⟩, g3⟩ => ⟨⟨i, by rw [cut_lt (hd _ _ g1)]; exact h1, h2⟩, DL.cut hd h3 g3⟩
theorem DRep.cut {ι ι2 : Inj} {p : Nat} (hd : ∀ b i, ι2 b = some i → b < p) {d : Option (List Dfr)} {ds ds2 : List Deferred} (h : DRep ι d ds) (h2 : DRep ι2 d ds2) : DRep (Idl.cut ι p) d ds := by
 cases d with
 | none => exact h
 | some l => exact DL.cut hd h h2
theorem does_wpIn {P : Program} {F : Fence} (hfn : ∀ f, F.fn f) {n : Nat} {o : Oper} (hnd : ∀ c, o.op ≠ .defer c) {a : Act} {w w' : World} {v' : Value} {ρ : Operand → Value} (hdo : Does P ρ o.op w w' v') (hρ : execOp ρ o = execOp a.eval o)
 {next : Act → World → Prop} {Q : Exit → Act → World → Prop} (h : next (a.put o.dst v') w') : o.wpIn F n P a w next Q := by
 refine ⟨fun f _ => hfn f, ?_⟩
 rw [Oper.semAt_eq _ _ _ hnd, ← hρ]
 rcases hdo o rfl with h1 | ⟨h1, rfl⟩ <;> rw [h1] <;> exact h
theorem cstm_noSel {P : Program} {op : Op} {m : Stm} (h : cstm P op = some m) : ∀ cs b, op ≠ .select cs b := by
 intro cs b e
 subst e
 simp [cstm, cop] at h
section
variable {P : Program} {base : Nat} {w0 : World} {nt : Nat} {call : CallF} {ops : Array Oper} {l : List Step} {anc : List (List Nat)} {N : Nat} {σ : Nat → St} {F : Fence} {ι0 : Inj} {w1 : World}
variable {D : Nat → Bool} {c : Nat} {ι : Inj} {a : Act} {w : World}
theorem sim_empty (C : Nat → IC → Code → Prop) (base : Nat) (ι : Inj) (p : Nat) (hd : ∀ b i, ι b = some i → b < p) (w : World) : Sim C base ι (Heap.mk (fun _ => Option.none) p) w :=
 ⟨hd, fun _ _ => rfl, fun b o i h => by simp at h, fun b1 b2 i1 i2 _ hm => by simp [mine] at hm⟩
theorem Inv.masked (d : Draw P base w0 nt call ops l anc N σ F ι0 w1) (I : Inv P base w0 nt l anc N σ ι0 w1 D c ι a w) {i : Nat} (hi : i ≤ N) {o : Oper} {x : Step} (ho : ops[i]? = some o) (hx : l[i]? = some x)
 (hD : D i = false) (han : ∀ j ∈ anc.getD i [], D j = true) :
 ERep ι (maskE (namesAt ops o x) (σ i).e) (maskA (namesAt ops o x) a).tmps ∧ ERep (cut ι (σ i).h.next) (maskE (namesAt ops o x) (σ i).e) (maskA (namesAt ops o x) a).tmps := by
 have hl : i < l.length := (List.getElem?_eq_some_iff.1 hx).1
 have key : ∀ t ∈ namesAt ops o x, Rep ι ((σ i).e t) (a.tmps.getD t undef) := by
  intro t ht
  have := d.looks I.dN I.cl hi hl hD han (t := t) (by rw [nmAt_eq ho hx]; exact ht)
  rw [← this]; exact I.tmp t
 exact ⟨maskRep key, maskRep fun t ht => d.bounded hi (key t ht)⟩
theorem Inv.readHeap (d : Draw P base w0 nt call ops l anc N σ F ι0 w1) (I : Inv P base w0 nt l anc N σ ι0 w1 D c ι a w) {i : Nat} (hi : i < N) {x : Step} (hx : l[i]? = some x) (hD : D i = false) (han : ∀ j ∈ anc.getD i [], D j = true)
 (hw : wantedE (σ i).e x.grd = true) (hk : kdStm x.stm = .R) (hloc : ∀ b, (locStm x.stm (σ i).e).blk? = some b → (σ i).h.get b ≠ Option.none) :
 ∃ K, Sim (CRel P) base ι K w ∧ sameAt (σ i).h K (locStm x.stm (σ i).e) := by
 have hcN := I.cN
 cases hb : (locStm x.stm (σ i).e).blk? with
 | none =>
  refine ⟨_, sim_empty _ _ _ (σ N).h.next (fun b j hj => I.bound d hj) w, ?_⟩
  cases hlc : locStm x.stm (σ i).e <;> rw [hlc] at hb <;> simp [Loc.blk?] at hb
  trivial
 | some b0 =>
  have hlt0 : b0 < (σ i).h.next := by
   rcases Nat.lt_or_ge b0 (σ i).h.next with h | h
   ·exact h
   ·exact (hloc b0 hb (d.vac (by omega) h)).elim
  have one : ∀ (B : Option Blk), (∀ ob bi, B = some ob → ι b0 = some bi → ∃ o', w.heap[bi.blk]? = some o' ∧ BRel (CRel P) base ι bi ob o') →
   Sim (CRel P) base ι (Heap.mk (fun b => if b = b0 then B else Option.none) (σ N).h.next) w := by
   intro B hB
   refine ⟨fun b j hj => I.bound d hj, fun b hb => ?_, fun b ob bi hg hbi => ?_, fun b1 b2 i1 i2 hne hm hl _ _ => ?_⟩
   ·have := d.mono (show i ≤ N by omega) (Nat.le_refl _)
    simp only at hb ⊢
    rw [if_neg (by omega)]
   ·simp only at hg
    split at hg
    ·rename_i e; subst e; exact hB ob bi hg hbi
    ·cases hg
   ·exfalso
    have g1 := (live_some hm.live)
    have g2 := (live_some hl)
    obtain ⟨_, g1, _⟩ := g1
    obtain ⟨_, g2, _⟩ := g2
    simp only at g1 g2
    split at g1
    ·split at g2
     ·omega
     ·cases g2
    ·cases g1
  have sameOf : ∀ (h2 : Heap), sameAt (σ i).h h2 (locStm x.stm (σ i).e) → sameAt (σ i).h (Heap.mk (fun b => if b = b0 then h2.get b0 else Option.none) (σ N).h.next) (locStm x.stm (σ i).e) := by
   intro h2 hs
   cases hlc : locStm x.stm (σ i).e <;> rw [hlc] at hb hs <;> simp only [Loc.blk?, Option.some.injEq, reduceCtorEq] at hb
   ·subst hb; simp only [sameAt] at hs ⊢; rw [hs]; simp [Heap.cells]
   ·subst hb; simp only [sameAt] at hs ⊢; rw [hs]; simp
   ·subst hb; simp only [sameAt] at hs ⊢; rw [hs]; simp [okSz]
  have sym : ∀ {h1 h2 : Heap} {lc : Loc}, sameAt h1 h2 lc → sameAt h2 h1 lc := by
   intro h1 h2 lc h
   cases lc <;> simp only [sameAt] at h ⊢
   ·exact h.symm
   ·exact h.symm
   ·exact h.symm
  have before : ∀ m, m ≤ i → c ≤ m → (∀ b, (locStm x.stm (σ i).e).blk? = some b → b < (σ m).h.next) → sameAt (σ i).h (σ m).h (locStm x.stm (σ i).e) := by
   intro m hm hcm hl
   refine sym (d.chain hm (by omega) hl fun k h1 h2 h3 => ?_)
   obtain ⟨ok, xk, _, hxk, _, _⟩ := d.step (show k < N by omega)
   have h3' := h3
   rw [kAt_eq hxk] at h3'
   rcases d.run.eRd k i xk x (Nat.zero_le _) (by omega) hi (by simpa using hxk) (by simpa using hx) (by split at h3' <;> simp_all) hw (by split at h3' <;> simp_all) hk with h | h
   ·have := (I.lev k (by omega) h3).1 (han k h)
    omega
   ·exact h
  cases hι : ι b0 with
  | none =>
   refine ⟨_, one ((σ i).h.get b0) fun ob bi _ h => (by rw [hι] at h; cases h), sameOf _ ?_⟩
   cases hlc : locStm x.stm (σ i).e <;> simp [sameAt]
  | some b0i =>
   by_cases hq : b0 < (σ c).h.next
   ·refine ⟨_, one ((σ c).h.get b0) fun ob bi hg h => ?_, sameOf _ ?_⟩
    ·obtain ⟨o', ho', hr⟩ := I.main.blk b0 ob bi hg (by rw [cut_lt hq]; exact h)
     exact ⟨o', ho', hr.mono (cut_le _ _)⟩
    ·by_cases hci : c ≤ i
     ·exact before c hci (Nat.le_refl _) fun b h => by rw [hb] at h; cases h; exact hq
     ·refine d.chain (show i ≤ c by omega) hcN (fun b h => by rw [hb] at h; cases h; exact hlt0) fun k h1 h2 h3 => ?_
      obtain ⟨ok, xk, _, hxk, _, _⟩ := d.step (show k < N by omega)
      have hki : k ≠ i := by
       intro e
       subst e
       rw [kAt_eq hx, if_pos hw, hk] at h3; cases h3
      have h3' := h3
      rw [kAt_eq hxk] at h3'
      rcases d.run.rdE i k x xk (Nat.zero_le _) (by omega) (by omega) (by simpa using hx) (by simpa using hxk) hw (by split at h3' <;> simp_all) hk (by split at h3' <;> simp_all) with h | h
      ·have := I.cl k ((I.lev k (by omega) h3).2 h2) i h
       rw [hD] at this; cases this
      ·exact h
   ·obtain ⟨j, hj, hA, hDj, hcj, hbj, _, o1, o2, h1, h2, h3, h4⟩ := I.side b0 b0i (by omega) hι
    have hj1 := d.nextA hj hA
    have hji : j < i := by
     rcases Nat.lt_trichotomy j i with h | h | h
     ·exact h
     ·subst h; rw [hD] at hDj; cases hDj
     ·have := d.mono (show i ≤ j by omega) (by omega); omega
    refine ⟨_, one ((σ (j + 1)).h.get b0) fun ob bi hg h => ?_, sameOf _ ?_⟩
    ·rw [h1] at hg; cases hg
     rw [hι] at h; cases h
     exact ⟨o2, h3, h4.mono (cut_le _ _)⟩
    ·exact before (j + 1) (by omega) (by omega) fun b h => by rw [hb] at h; cases h; omega
theorem Draw.opStep (d : Draw P base w0 nt call ops l anc N σ F ι0 w1) (I : Inv P base w0 nt l anc N σ ι0 w1 D c ι a w) {i : Nat} (hi : i < N) (hD : D i = false) (han : ∀ j ∈ anc.getD i [], D j = true) {n : Nat} {K : Act → World → Prop} {Q : Exit → Act → World → Prop}
 (hK : ∀ c' ι' a' w', Inv P base w0 nt l anc N σ ι0 w1 (also D i) c' ι' a' w' → K a' w') : wpOpIn F n P ops Q i K a w := by
 obtain ⟨o, x, ho, hx, hst, hs⟩ := d.step hi
 have htop := d.top
 obtain ⟨hE, hEp⟩ := I.masked d (by omega) ho hx hD han
 obtain ⟨hdst, hstm, hdlt⟩ := cstep_spec hst
 have hwanted : Region.wanted o (yielded ops a.tmps) = wantedE (σ i).e x.grd := by
  have := wanted_spec hst hE
  rw [mask_wanted, maskE_wanted] at this
  exact this
 have hkAt := kAt_eq (σ := σ) hx
 unfold wpOpIn
 simp only [ho]
 rw [hwanted]
 unfold stepRes at hs
 by_cases hw : wantedE (σ i).e x.grd = true
 ·rw [if_pos hw] at hs ⊢
  rw [if_pos hw] at hkAt
  have hsel := cstm_noSel hstm
  have heval : execOp (maskA (namesAt ops o x) a).eval o = execOp a.eval o := execOp_congr o hsel (mask_eval a)
  have hρ := opdRep_of (a := maskA (namesAt ops o x) a) hE
  have hρp := opdRep_of (a := maskA (namesAt ops o x) a) hEp
  by_cases hkE : kdStm x.stm = .E
  ·-- an effect
   rw [hkE] at hkAt
   obtain ⟨hci, hpre, hno⟩ := I.ahead d (by omega) (by omega) hD han hkAt
   obtain ⟨hres, hown⟩ := I.restrict d hci (by omega) hno
   have hok : Ok P base w0 (cut ι (σ i).h.next) (σ i).h w := ⟨hres, I.size, I.old⟩
   have hdd : DRep (cut ι (σ i).h.next) (σ i).d a.defers := by
    obtain ⟨ι3, a3, w3, hk3, _, _, hD3⟩ := d.gh i (by omega)
    have : (σ i).d = (σ c).d := by
     have : ∀ m, c ≤ m → m ≤ i → (σ m).d = (σ c).d := by
      intro m
      induction m with
      | zero => intro h1 _; have : c = 0 := by omega
                subst this; rfl
      | succ m ih =>
       intro h1 h2
       by_cases e : c = m + 1
       ·subst e; rfl
       ·rw [(d.quiet (show m < N by omega) (hno m (by omega) (by omega))).1]
        exact ih (by omega) (by omega)
     exact this i hci (Nat.le_refl _)
    have hh : DRep ι (σ i).d a.defers := by rw [this]; exact I.dfr
    exact hh.cut hk3.sim.dom hD3
   rcases istm_congr (maskE_ev (ops := ops) (o := o) (x := x) (σ i).e) hs with ⟨v, _, hs1, hs2⟩ | ⟨v, hv, _⟩
   case inr => cases hv
   refine wpIn_same (b := maskA (namesAt ops o x) a) (next' := fun a1 w' => ∀ v' ds, a1 = { (maskA (namesAt ops o x) a) with defers := ds }.put o.dst v' → K ({ a with defers := ds }.put o.dst v') w') (Q' := fun _ _ _ => False)
    hsel (mask_eval a) rfl (fun v' ds w' h => h v' ds rfl) (fun _ _ h => h.elim) (fun ⟨_, _, h⟩ => h.elim) ?_
   refine istm_sound d.hcall (d.hF.of (d.dSome (by omega))) hst hs2 hok (by simp [maskA, I.tsz]) hEp hdd (s := ⟨maskE (namesAt ops o x) (σ i).e, (σ i).h, (σ i).d⟩) ?_
   intro ι' a1 w' hk' he' hsz' hE' hD' v' ds hput
   subst hput
   have hval : ∀ t, x.dst = some t → Rep ι' ((σ (i + 1)).e t) v' := by
    intro t ht
    have h1 : (σ (i + 1)).e t = v := by rw [hs1]; simp [dstUpd, ht, upd]
    have h2 := hE' t
    have hod : o.dst = some t := by rw [← hdst, ht]
    have htl : t < (maskA (namesAt ops o x) a).tmps.size := by simp [maskA, I.tsz]; exact hdlt t hod
    simp only [ht, dstUpd, upd, if_true, Act.put, hod, Array.getD_eq_getD_getElem?, Array.getElem?_setIfInBounds_self_of_lt htl, Option.getD_some] at h2
    rw [h1]; exact h2
   obtain ⟨ι2, I2⟩ := I.effUp d hi ho hx hst hD han hkAt hk' he' (v' := v') (ds := ds) hval (by rw [put_defers] at hD'; exact hD')
   exact hK _ _ _ _ I2
  ·-- an operation of the model's own
   have hq : ∃ q, x.stm = .op q := by
    cases hm : x.stm with
    | op q => exact ⟨q, rfl⟩
    | _ => rw [hm] at hkE; exact (hkE rfl).elim
   obtain ⟨q, hq⟩ := hq
   rw [hq] at hstm hs
   obtain ⟨hcop, hnd⟩ := cstm_op hstm
   simp only [istm] at hs
   split at hs
   case h_2 => cases hs
   rename_i v h' hi0
   simp only [Option.some.injEq, Prod.mk.injEq, true_and] at hs
   have hev : (σ (i + 1)).e = dstUpd (σ i).e x.dst v := by rw [← hs]
   have hh' : (σ (i + 1)).h = h' := by rw [← hs]
   have hiop := hi0
   rw [iop_congr (e' := maskE (namesAt ops o x) (σ i).e) (by have := maskE_ev (ops := ops) (o := o) (x := x) (σ i).e; rw [hq] at this; exact this)] at hiop
   have hvd : ∀ {ι' : Inj} {v' : Value}, Rep ι' v v' → ∀ t, x.dst = some t → Rep ι' ((σ (i + 1)).e t) v' := by
    intro ι' v' hr t ht
    rw [hev, ht]; simpa [dstUpd, upd] using hr
   have hkd : kdStm x.stm = kdOp q := by rw [hq]; rfl
   cases hkq : kdOp q with
   | E => exact (hkE (by rw [hkd, hkq])).elim
   | P =>
    have hk0 : kAt l σ i = .P := by rw [hkAt, hkd, hkq]
    obtain ⟨v', w', ι', hdo, hs', he', hl', hr'⟩ := cop_sound hcop (sim_empty (CRel P) base ι (σ N).h.next (fun b j hj => I.bound d hj) w) I.size hρ ((iop_P hkq hiop).2 _)
    obtain ⟨rfl, rfl⟩ := hl' (quiet_of_kd hcop (.inl hkq))
    exact does_wpIn d.hF.fn hnd hdo heval (hK _ _ _ _ (I.quietUp d hi ho hx hst hD han (by rw [hk0]; simp) (by rw [hk0]; simp) (hvd hr')))
   | R =>
    have hk0 : kAt l σ i = .R := by rw [hkAt, hkd, hkq]
    have hloc0 : locStm x.stm (σ i).e = locOp q (σ i).e := by rw [hq]; rfl
    obtain ⟨Kh, hsim, hsame⟩ := I.readHeap d hi hx hD han hw (by rw [hkd, hkq]) (by rw [hloc0]; exact iop_loc hkq hi0)
    have hi2 := (iop_R hkq hi0).2 Kh (by rw [← hloc0]; exact hsame)
    rw [iop_congr (e' := maskE (namesAt ops o x) (σ i).e) (by have := maskE_ev (ops := ops) (o := o) (x := x) (σ i).e; rw [hq] at this; exact this)] at hi2
    obtain ⟨v', w', ι', hdo, hs', he', hl', hr'⟩ := cop_sound hcop hsim I.size hρ hi2
    obtain ⟨rfl, rfl⟩ := hl' (quiet_of_kd hcop (.inr hkq))
    exact does_wpIn d.hF.fn hnd hdo heval (hK _ _ _ _ (I.quietUp d hi ho hx hst hD han (by rw [hk0]; simp) (by rw [hk0]; simp) (hvd hr')))
   | A =>
    have hk0 : kAt l σ i = .A := by rw [hkAt, hkd, hkq]
    obtain ⟨ob, hob, hmb, hall⟩ := iop_A hkq hiop
    have hob' : (σ (i + 1)).h = (σ i).h.new ob := by rw [hh', hob]
    obtain ⟨v', w', ι', hdo, hs', he', _, hr'⟩ := cop_sound hcop (sim_empty (CRel P) base (cut ι (σ i).h.next) (σ i).h.next (fun b j hj => (cut_some hj).1) w) I.size hρp (hall _ rfl)
    obtain ⟨ι2, I2⟩ := I.newUp d hi ho hx hst hD han hk0 hob' hmb hs' he' (hvd hr')
    exact does_wpIn d.hF.fn hnd hdo heval (hK _ _ _ _ I2)
 ·rw [if_neg hw] at hs ⊢
  rw [if_neg hw] at hkAt
  simp only [Option.some.injEq, Prod.mk.injEq, true_and] at hs
  refine ⟨fun f _ => d.hF.fn f, hK _ _ _ _ (I.quietUp d hi ho hx hst hD han (by rw [hkAt]; simp) (by rw [hkAt]; simp) fun t ht => ?_)⟩
  rw [← hs]
  simp only [dstUpd, ht, upd, if_true]
  exact rep_undef
theorem Inv.post (d : Draw P base w0 nt call ops l anc N σ F ι0 w1) (I : Inv P base w0 nt l anc N σ ι0 w1 D c ι a w) {i : Nat} (hi : i ≤ N) (hown : ∀ r, r < w1.heap.size → Own (cut ι (σ i).h.next) (σ i).h r → Own ι0 (σ 0).h r) {ι' : Inj} {h' : Heap} {w' : World}
 (he : Ext (cut ι (σ i).h.next) (σ i).h w ι' h' w') : Ext ι0 (σ 0).h w1 ι' h' w' := by
 have hm := d.mono (Nat.zero_le i) hi
 have hw1 : w1.heap.size ≤ w.heap.size := I.keeps.size
 refine ⟨fun b j hb => he.inj b j ?_, I.keeps.step he.keeps.os he.keeps.tape he.keeps.output he.keeps.size fun k hk hn => he.keeps.block k (by omega) fun ho => hn (hown k hk ho), fun r hr ho => hown r hr (he.own r (by omega) ho), Nat.le_trans hm he.next, fun b j hb => ?_⟩
 ·rw [cut_lt (Nat.lt_of_lt_of_le (d.start.sim.dom b j hb) hm)]; exact I.inj b j hb
 ·rcases he.fresh b j hb with h | h
  ·exact I.fresh b j (cut_some h).2
  ·exact .inr (by omega)
theorem Inv.done (d : Draw P base w0 nt call ops l anc N σ F ι0 w1) (I : Inv P base w0 nt l anc N σ ι0 w1 D c ι a w) (hall : ∀ i, i < N → D i = true) : ExPost P base w0 nt ι0 (σ 0).h w1 .normal (σ N) .normal a w := by
 have hcN := I.cN
 have hno : ∀ k, c ≤ k → k < N → kAt l σ k ≠ .E := fun k h1 h2 h3 => by
  have := (I.lev k h2 h3).1 (hall k h2); omega
 obtain ⟨hres, hown⟩ := I.restrict d hcN (Nat.le_refl _) hno
 have hc : cut ι (σ N).h.next = ι := cut_eq fun b j hb => I.bound d hb
 have hd : (σ N).d = (σ c).d := by
  have : ∀ m, c ≤ m → m ≤ N → (σ m).d = (σ c).d := by
   intro m
   induction m with
   | zero => intro h1 _; have : c = 0 := by omega
             subst this; rfl
   | succ m ih =>
    intro h1 h2
    by_cases e : c = m + 1
    ·subst e; rfl
    ·rw [(d.quiet (show m < N by omega) (hno m (by omega) (by omega))).1]
     exact ih (by omega) (by omega)
  exact this N hcN (Nat.le_refl _)
 have hpost := I.post d (Nat.le_refl _) hown (.refl _ _ _)
 rw [hc] at hres hpost
 refine ⟨ι, ⟨hres, I.size, I.old⟩, hpost, I.tsz, by rw [hd]; exact I.dfr, fun t => ?_⟩
 have := I.tmp t
 rw [d.mix_all N (Nat.le_refl _) fun j hj _ => hall j hj] at this
 exact this
theorem Draw.panStep (d : Draw P base w0 nt call ops l anc N σ F ι0 w1) (I : Inv P base w0 nt l anc N σ ι0 w1 D c ι a w) (hN : N < l.length) {x : Step} (hx : l[N]? = some x) {v : Value} {s1 : St} (hs : stepRes call x (σ N) = some (some v, s1))
 (hD : D N = false) (han : ∀ j ∈ anc.getD N [], D j = true) {ds : List Nat} (hds : ∀ j t, writes l j t → t ∈ ds) {n : Nat} {K : Act → World → Prop} {Q : Exit → Act → World → Prop}
 (hQ : ∀ e a' w', ExPost P base w0 nt ι0 (σ 0).h w1 (.pan v) { s1 with e := forget (σ N).e ds } e a' w' → Q e a' w') : wpOpIn F n P ops Q N K a w := by
 have hNs : N < ops.size := by rw [← d.len]; exact hN
 obtain ⟨o, ho⟩ : ∃ o, ops[N]? = some o := ⟨_, Array.getElem?_eq_getElem hNs⟩
 have hst := d.st N o x ho hx
 obtain ⟨hE, hEp⟩ := I.masked d (Nat.le_refl _) ho hx hD han
 obtain ⟨hdst, hstm, hdlt⟩ := cstep_spec hst
 have hwanted : Region.wanted o (yielded ops a.tmps) = wantedE (σ N).e x.grd := by
  have := wanted_spec hst hE
  rw [mask_wanted, maskE_wanted] at this
  exact this
 unfold stepRes at hs
 by_cases hw : wantedE (σ N).e x.grd = true
 case neg => rw [if_neg hw] at hs; cases hs
 rw [if_pos hw] at hs
 have hkAt := kAt_eq (σ := σ) hx
 rw [if_pos hw] at hkAt
 have hkE : kdStm x.stm = .E := by
  cases hm : x.stm with
  | op q =>
   rw [hm] at hs
   simp only [istm] at hs
   split at hs <;> cases hs
  | _ => rfl
 rw [hkE] at hkAt
 obtain ⟨hci, hpre, hno⟩ := I.ahead d (Nat.le_refl _) hN hD han hkAt
 obtain ⟨hres, hown⟩ := I.restrict d hci (Nat.le_refl _) hno
 have hok : Ok P base w0 (cut ι (σ N).h.next) (σ N).h w := ⟨hres, I.size, I.old⟩
 have hsel := cstm_noSel hstm
 have hdd : DRep (cut ι (σ N).h.next) (σ N).d a.defers := by
  obtain ⟨ι3, a3, w3, hk3, _, _, hD3⟩ := d.gh N (Nat.le_refl _)
  have : (σ N).d = (σ c).d := by
   have : ∀ m, c ≤ m → m ≤ N → (σ m).d = (σ c).d := by
    intro m
    induction m with
    | zero => intro h1 _; have : c = 0 := by omega
              subst this; rfl
    | succ m ih =>
     intro h1 h2
     by_cases e : c = m + 1
     ·subst e; rfl
     ·rw [(d.quiet (show m < N by omega) (hno m (by omega) (by omega))).1]
      exact ih (by omega) (by omega)
   exact this N hci (Nat.le_refl _)
  have hh : DRep ι (σ N).d a.defers := by rw [this]; exact I.dfr
  exact hh.cut hk3.sim.dom hD3
 unfold wpOpIn
 simp only [ho]
 rw [hwanted, if_pos hw]
 rcases istm_congr (maskE_ev (ops := ops) (o := o) (x := x) (σ N).e) hs with ⟨v1, hv1, _⟩ | ⟨v1, hv1, hs1, hs2⟩
 ·cases hv1
 cases hv1
 refine wpIn_same (b := maskA (namesAt ops o x) a) (next' := fun _ _ => False) (Q' := fun e a1 w' => match e with | .panic c => a1 = maskA (namesAt ops o x) a → Q (.panic c) a w' | _ => False)
  hsel (mask_eval a) rfl (fun v' ds w' h => h.elim) (fun c w' h => h rfl) (fun ⟨_, _, h⟩ => h.elim) ?_
 refine istm_sound d.hcall (d.hF.of (d.dSome (Nat.le_refl _))) hst hs2 hok (by simp [maskA, I.tsz]) hEp hdd (s := ⟨maskE (namesAt ops o x) (σ N).e, (σ N).h, (σ N).d⟩) ?_
 intro e a1 w' hpost
 obtain ⟨ι', hk', he', hsz', hD', hex⟩ := hpost
 cases e <;> simp only [ExRel] at hex
 rename_i chain
 rcases chain with _ | ⟨c1, _ | _⟩
 ·exact hex.elim
 ·intro ha1
  subst ha1
  refine hQ _ _ _ ⟨ι', hk', I.post d (Nat.le_refl _) hown he', I.tsz, ?_, hex.1, hex.2.1, hex.2.2.1, fun j => ?_⟩
  ·rw [hs1]; exact hD'
  ·simp only [forget]
   split
   ·exact .inl rfl
   ·rename_i hj
    right
    have hnw : ∀ m t, t = j → ¬ writes l m t := fun m t ht hwm => hj (by subst ht; simpa using hds m t hwm)
    have h0 := I.tmp j
    rw [mix_none (k := 0) N (Nat.zero_le _) fun m _ _ hwm => (hnw m j rfl hwm).elim] at h0
    simp only [mixI] at h0
    have h1 : (σ N).e j = (σ 0).e j := by
     have := d.mix_all (D := fun _ => false) (t := j) N (Nat.le_refl _) fun m _ hwm => (hnw m j rfl hwm).elim
     rw [mix_none (k := 0) N (Nat.zero_le _) fun m _ _ hwm => (hnw m j rfl hwm).elim] at this
     exact this.symm
    rw [h1]
    have h2 := d.bounded (Nat.zero_le N) h0
    exact (h2.mono (cut_mono (.refl ι) (d.mono (Nat.zero_le N) (Nat.le_refl _)))).mono he'.inj
 ·exact hex.elim
end
end Go.Idl
end

section
namespace Go.Idl
variable {P : Program} {base : Nat} {w0 : World}
theorem Ok.drew {ι : Inj} {h : Heap} {w : World} (hk : Ok P base w0 ι h w) (w' : World) (e : w'.heap = w.heap) : Ok P base w0 ι h w' :=
 ⟨hk.sim.congr e, by rw [e]; exact hk.size, fun k hk' => by rw [e]; exact hk.old k hk'⟩
theorem Ext.drew {ι ι' : Inj} {h h' : Heap} {w w1 w' : World} (he : Ext ι h w1 ι' h' w') (e : w1.heap = w.heap) (e1 : w1.os = w.os) (e2 : w1.tape = w.tape) (e3 : w1.output = w.output) : Ext ι h w ι' h' w' :=
 ⟨he.inj, ⟨he.keeps.os.trans e1, he.keeps.tape.trans e2, he.keeps.output.trans e3, by rw [← e]; exact he.keeps.size, fun k hk hn => by rw [← e]; exact he.keeps.block k (by rw [e]; exact hk) hn⟩,
  fun r hr ho => he.own r (by rw [e]; exact hr) ho, he.next, he.fresh⟩
theorem csteps_spec {nt : Nat} {ops : Array Oper} : ∀ {os : List Oper} {l : List Step}, csteps P nt ops os = some l → l.length = os.length ∧ ∀ (i : Nat) o x, os[i]? = some o → l[i]? = some x → cstep P nt ops o = some x
 | [], l, h => by simp only [csteps, Option.some.injEq] at h; subst h; exact ⟨rfl, fun i o x ho => by simp at ho⟩
 | o :: os, l, h => by
  obtain ⟨y, ys, rfl, h1, h2⟩ := csteps_cons h
  obtain ⟨h3, h4⟩ := csteps_spec h2
  refine ⟨by simp [h3], fun i p x hp hx => ?_⟩
  cases i with
  | zero => simp at hp hx; subst hp; subst hx; exact h1
  | succ i => simp at hp hx; exact h4 i p x hp hx
theorem allAnc_spec {i : Nat} {anc : List (List Nat)} : ∀ {l : List Step} {k : Nat}, allAnc i anc l k = true → ∀ j, j < l.length → i ∈ anc.getD (k + j) []
 | [], _, _, j, hj => by simp at hj
 | x :: rest, k, h, j, hj => by
  simp only [allAnc, Bool.and_eq_true] at h
  cases j with
  | zero => simpa using h.1
  | succ j =>
   have := allAnc_spec h.2 j (by simpa using hj)
   rw [show k + (j + 1) = k + 1 + j by omega]; exact this
theorem Draw.any {nt : Nat} {call : CallF} {ops : Array Oper} {l : List Step} {N : Nat} {σ : Nat → St} {F : Fence} {ι0 : Inj} {w1 : World} (d : Draw P base w0 nt call ops l (ancs ops.toList) N σ F ι0 w1)
 {md : Region.Mode} {rank : Nat → Nat} (hr : rankOk md ops rank = true) {ds : List Nat} (hds : ∀ j t, writes l j t → t ∈ ds) {r : Option Value} {s' : St} (hend : RunEnd call (ancs ops.toList) ds l 0 N σ r s') {n : Nat} {Q : Exit → Act → World → Prop}
 (hQ : ∀ x e a' w', exOf (some (r, s')) = some (x, s') → ExPost P base w0 nt ι0 (σ 0).h w1 x s' e a' w' → Q e a' w') :
 ∀ (fuel : Nat) (listed : Array Bool) (c : Nat) (ι : Inj) (a : Act) (w : World), listed.size = ops.size → listed.toList.count false ≤ fuel → Inv P base w0 nt l (ancs ops.toList) N σ ι0 w1 (fun j => listed.getD j false) c ι a w →
  wpAnyIn F n P md ops Q fuel listed a w := by
 have htop := d.top
 have hlen := d.len
 have fin : ∀ (listed : Array Bool) (c : Nat) (ι : Inj) (a : Act) (w : World), listed.size = ops.size → Inv P base w0 nt l (ancs ops.toList) N σ ι0 w1 (fun j => listed.getD j false) c ι a w → Region.ready md ops listed = [] → Q .normal a w := by
  intro listed c ι a w hs I hrd
  have hall : ∀ i, i < ops.size → listed.getD i false = true := fun i hi => ready_nil hr hs hrd (rank i + 1) i (by omega) hi
  have hN : N = l.length := by
   rcases Nat.lt_or_ge N l.length with h | h
   ·have := I.dN N (hall N (by omega)); omega
   ·omega
  cases r with
  | some v =>
   obtain ⟨x, s1, _, h2, _⟩ := hend
   omega
  | none =>
   obtain ⟨_, rfl⟩ := hend
   exact hQ .normal _ _ _ rfl (I.done d fun i hi => hall i (by omega))
 intro fuel
 induction fuel with
 | zero =>
  intro listed c ι a w hs hc I
  have hall : ∀ i, i < ops.size → listed.getD i false = true := by
   intro i hi
   cases hl : listed.getD i false with
   | true => rfl
   | false =>
    exfalso
    have : false ∈ listed.toList := by
     rw [Array.getD_eq_getD_getElem?, Array.getElem?_eq_getElem (by omega)] at hl
     simp only [Option.getD_some] at hl
     rw [← hl]; simp
    have := List.count_pos_iff.2 this
    omega
  have hrd : Region.ready md ops listed = [] := by
   cases hh : Region.ready md ops listed with
   | nil => rfl
   | cons i rest =>
    exfalso
    obtain ⟨o, ho, hf, _⟩ := ready_spec hs (show i ∈ Region.ready md ops listed by rw [hh]; simp)
    rw [hall i (Array.getElem?_eq_some_iff.1 ho).1] at hf; cases hf
  exact ⟨hrd, fin listed c ι a w hs I hrd⟩
 | succ fuel ih =>
  intro listed c ι a w hs hc I
  refine ⟨fin listed c ι a w hs I, fun i hi => ?_⟩
  obtain ⟨o, ho, hf, _⟩ := ready_spec hs hi
  have hlt : i < ops.size := (Array.getElem?_eq_some_iff.1 ho).1
  have han : ∀ j ∈ (ancs ops.toList).getD i [], listed.getD j false = true := anc_listed hs I.cl hi
  have hset : (fun j => (listed.setIfInBounds i true).getD j false) = also (fun j => listed.getD j false) i := by
   funext j
   by_cases e : j = i
   ·subst e; simp [also, hs, hlt]
   ·rw [getD_set_ne false (Ne.symm e)]; simp [also, e]
  have hcount : (listed.setIfInBounds i true).toList.count false ≤ fuel := by
   have h1 : (listed.setIfInBounds i true).toList = listed.toList.set i true := by simp [Array.setIfInBounds]; split <;> simp_all
   rw [h1, List.count_set (by simpa using (show i < listed.size by omega))]
   have h2 : listed.toList[i]'(by simpa using (show i < listed.size by omega)) = false := by
    rw [Array.getD_eq_getD_getElem?, Array.getElem?_eq_getElem (by omega)] at hf
    simpa using hf
   rw [h2]
   simp only [beq_self_eq_true, if_true, Bool.true_eq_false, beq_iff_eq, if_false, Nat.add_zero]
   omega
  rcases Nat.lt_trichotomy i N with h | h | h
  ·exact d.opStep I h hf han fun c' ι' a' w' I' => ih _ c' ι' a' w' (by simpa using hs) hcount (by rw [hset]; exact I')
  ·subst h
   cases r with
   | none => obtain ⟨h1, _⟩ := hend; omega
   | some v =>
    obtain ⟨x, s1, h1, h2, h3, h4, _⟩ := hend
    subst h4
    exact d.panStep I (by omega) (by simpa using h1) h3 hf han hds fun e a' w' hp => hQ (.pan v) e a' w' rfl hp
  ·exfalso
   cases r with
   | none => obtain ⟨h1, _⟩ := hend; omega
   | some v =>
    obtain ⟨x, s1, _, _, _, _, h5⟩ := hend
    have := allAnc_spec h5 (i - (N + 1)) (by simp; omega)
    rw [show N + 1 + (i - (N + 1)) = i by omega] at this
    have := I.dN N (han N this)
    omega
theorem exOf_fst {r : Option Value} {s s' : St} {x : Ex} (h : exOf (some (r, s)) = some (x, s')) : s' = s := by
 cases r <;> simp only [exOf, Option.some.injEq, Prod.mk.injEq] at h <;> exact h.2.symm
theorem idraw_sound {call : CallF} (hcall : CallOk P base w0 call) {F : Fence} {nt n id : Nat} {ops : Array Oper} {l : List Step} (hl : csteps P nt ops ops.toList = some l) (hok : drawOk ops l (ancs ops.toList) = true) (hsch : schedOk ops = true)
 {s : St} {ι : Inj} {a : Act} {w : World} (hF : FOk F s.d) (hk : Ok P base w0 ι s.h w) (hsz : a.tmps.size = nt) (hE : ERep ι s.e a.tmps) (hD : DRep ι s.d a.defers) {x : Ex} {s' : St} {Q : Exit → Act → World → Prop}
 (hi : exOf (idraw call (ancs ops.toList) (l.filterMap (·.dst)) l 0 [] [] s) = some (x, s')) (hQ : ∀ e a' w', ExPost P base w0 nt ι s.h w x s' e a' w' → Q e a' w') : (Code.region id ops true).wpIn F n P Q a w := by
 cases hr : idraw call (ancs ops.toList) (l.filterMap (·.dst)) l 0 [] [] s with
 | none => rw [hr] at hi; cases hi
 | some rs =>
  obtain ⟨r, s2⟩ := rs
  rw [hr] at hi
  have := exOf_fst hi
  subst this
  obtain ⟨σ, N, h0, hrun, _, hend⟩ := idraw_run hr
  subst h0
  obtain ⟨hlen, hst⟩ := csteps_spec hl
  have hlen' : l.length = ops.size := by simpa using hlen
  have hst' : ∀ (i : Nat) o x, ops[i]? = some o → l[i]? = some x → cstep P nt ops o = some x := fun i o x ho hx => hst i o x (by simpa using ho) hx
  have htop := hrun.top
  have ghost : ∀ i, i ≤ N → (σ i).d.isSome = (σ 0).d.isSome ∧ ∃ (ι : Inj) (a : Act) (w : World), Ok P base w0 ι (σ i).h w ∧ a.tmps.size = nt ∧ ERep ι (σ i).e a.tmps ∧ DRep ι (σ i).d a.defers := by
   intro i
   induction i with
   | zero => intro _; exact ⟨rfl, ι, a, w, hk, hsz, hE, hD⟩
   | succ i ih =>
    intro hi1
    obtain ⟨hd, ι1, a1, w1, g1, g2, g3, g4⟩ := ih (by omega)
    obtain ⟨y, hy, hys⟩ := hrun.step i (Nat.zero_le _) (by omega)
    simp only [Nat.sub_zero] at hy
    have hio : i < ops.size := by omega
    obtain ⟨ι2, a2, w2, k1, _, k2, k3, k4⟩ := step_some hcall (hF.of hd) (hst' i _ y (Array.getElem?_eq_getElem hio) hy) hys g1 g2 g3 g4
    exact ⟨by rw [stepRes_d hys, hd], ι2, a2, w2, k1, k2, k3, k4⟩
  have hnx : ∀ i, i < N → (σ i).h.next ≤ (σ (i + 1)).h.next := by
   intro i hiN
   obtain ⟨hd, ι1, a1, w1, g1, g2, g3, g4⟩ := ghost i (by omega)
   obtain ⟨y, hy, hys⟩ := hrun.step i (Nat.zero_le _) (by omega)
   simp only [Nat.sub_zero] at hy
   have hio : i < ops.size := by omega
   obtain ⟨ι2, a2, w2, k1, k5, k2, k3, k4⟩ := step_some hcall (hF.of hd) (hst' i _ y (Array.getElem?_eq_getElem hio) hy) hys g1 g2 g3 g4
   exact k5.next
  have hds : ∀ j t, writes l j t → t ∈ l.filterMap (·.dst) := by
   intro j t hw
   unfold writes at hw
   cases hj : l[j]? with
   | none => rw [hj] at hw; simp at hw
   | some y => rw [hj] at hw; exact List.mem_filterMap.2 ⟨y, List.mem_of_getElem? hj, by simpa using hw⟩
  have hok' : ∀ i j, i < j → j < l.length → pairOk ops l (ancs ops.toList) i j = true := by
   intro i j hij hj
   exact List.all_eq_true.1 (List.all_eq_true.1 hok j (List.mem_range.2 hj)) i (List.mem_range.2 hij)
  refine wpIn_region_draw fun t => ?_
  have d : Draw P base w0 nt call ops l (ancs ops.toList) N σ F ι { w with drawn := w.drawn + 1 } :=
   ⟨hcall, hF, hlen', hst', hok', hrun, fun i hi => (ghost i hi).2, hnx, hk.drew _ rfl⟩
  have go : ∀ (md : Region.Mode) (rank : Nat → Nat), rankOk md ops rank = true → ∀ t, wpOpsIn F n P ops Q (Region.linearise md ops t) a { w with drawn := w.drawn + 1 } := by
   intro md rank hrk t
   refine wpAnyIn_sound ops.size t _ a _ ?_
   refine d.any hrk hds hend ?_ ops.size _ 0 ι a _ (by simp) ?_ ?_
   ·intro x' e a' w' hx hp
    rw [hi] at hx
    simp only [Option.some.injEq, Prod.mk.injEq, and_true] at hx
    subst hx
    obtain ⟨ι', p1, p2, p3⟩ := hp
    exact hQ e a' w' ⟨ι', p1, p2.drew rfl rfl rfl rfl, p3⟩
   ·refine Nat.le_trans (List.count_le_length ..) (by simp)
   ·have hf : (fun j => (Array.replicate ops.size false).getD j false) = fun _ => false := by
     funext j
     rw [Array.getD_eq_getD_getElem?, Array.getElem?_replicate]
     split <;> rfl
    rw [hf]
    exact d.begin hsz hE hD
  unfold schedOk at hsch
  simp only [Bool.and_eq_true, Bool.or_eq_true, Bool.not_eq_true'] at hsch
  obtain ⟨s1, s2⟩ := hsch
  unfold Region.schedule
  split
  ·exact go .any _root_.id s1 t
  ·rename_i hdep
   simp only [Bool.or_eq_true, Bool.not_eq_true', not_or] at hdep
   have h2 := s2.resolve_left hdep.2
   split
   ·exact go .text _root_.id h2.1 _
   ·exact go .gc _ h2.2 _
end Go.Idl
end

section
namespace Go.Idl
variable {P : Program} {base : Nat} {w0 : World}
theorem iops_d {call : CallF} : ∀ {l : List Step} {s s' : St} {r : Option Value}, iops call l s = some (r, s') → s'.d.isSome = s.d.isSome
 | [], s, s', r, h => by simp only [iops, Option.some.injEq, Prod.mk.injEq] at h; rw [← h.2]
 | x :: rest, s, s', r, h => by
  rw [iops_cons] at h
  cases hs : stepRes call x s with
  | none => rw [hs] at h; cases h
  | some q =>
   obtain ⟨r1, s1⟩ := q
   rw [hs] at h
   have := stepRes_d hs
   cases r1 with
   | none => rw [iops_d h, this]
   | some v => simp only [Option.some.injEq, Prod.mk.injEq] at h; rw [← h.2, this]
theorem idraw_d {call : CallF} {anc : List (List Nat)} {ds : List Nat} {l : List Step} {s s' : St} {r : Option Value} (h : idraw call anc ds l 0 [] [] s = some (r, s')) : s'.d.isSome = s.d.isSome := by
 obtain ⟨σ, N, h0, hrun, _, hend⟩ := idraw_run h
 have : ∀ i, i ≤ N → (σ i).d.isSome = s.d.isSome := by
  intro i
  induction i with
  | zero => intro _; rw [h0]
  | succ i ih =>
   intro hi
   obtain ⟨x, _, hx⟩ := hrun.step i (Nat.zero_le _) (by omega)
   rw [stepRes_d hx, ih (by omega)]
 cases r with
 | none => obtain ⟨_, rfl⟩ := hend; exact this N (Nat.le_refl _)
 | some v =>
  obtain ⟨x, s1, _, _, h3, rfl, _⟩ := hend
  have := this N (Nat.le_refl _)
  rw [← this, ← stepRes_d h3]
theorem loopCode_d {f : IC → St → Option (Ex × St)} {b : IC} (hf : ∀ {s x s'}, f b s = some (x, s') → s'.d.isSome = s.d.isSome) : ∀ {n : Nat} {s s' : St} {x : Ex}, loopCode f b n s = some (x, s') → s'.d.isSome = s.d.isSome
 | 0, _, _, _, h => by cases h
 | n + 1, s, s', x, h => by
  simp only [loopCode] at h
  split at h
  ·rename_i s1 h1; rw [loopCode_d hf h, hf h1]
  ·exact hf h
theorem icode_d {call : CallF} {n : Nat} : ∀ {ic : IC} {s s' : St} {x : Ex}, icode call n ic s = some (x, s') → s'.d.isSome = s.d.isSome := by
 intro ic
 induction ic with
 | skip => intro s s' x h; simp only [icode, Option.some.injEq, Prod.mk.injEq] at h; rw [← h.2]
 | exit id => intro s s' x h; simp only [icode, Option.some.injEq, Prod.mk.injEq] at h; rw [← h.2]
 | ret => intro s s' x h; simp only [icode, Option.some.injEq, Prod.mk.injEq] at h; rw [← h.2]
 | ops l =>
  intro s s' x h
  simp only [icode] at h
  cases hr : iops call l s with
  | none => rw [hr] at h; cases h
  | some rs => obtain ⟨r, s2⟩ := rs; rw [hr] at h; rw [exOf_fst h]; exact iops_d hr
 | draw l anc =>
  intro s s' x h
  simp only [icode] at h
  cases hr : idraw call anc (l.filterMap (·.dst)) l 0 [] [] s with
  | none => rw [hr] at h; cases h
  | some rs => obtain ⟨r, s2⟩ := rs; rw [hr] at h; rw [exOf_fst h]; exact idraw_d hr
 | seq a b iha ihb =>
  intro s s' x h
  simp only [icode] at h
  split at h
  ·rename_i s1 h1; rw [ihb h, iha h1]
  ·exact iha h
 | cond c a b iha ihb =>
  intro s s' x h
  simp only [icode] at h
  split at h
  ·exact iha h
  ·exact ihb h
  ·cases h
 | block id b ih =>
  intro s s' x h
  simp only [icode] at h
  split at h
  ·rename_i i s1 h1
   split at h <;> (simp only [Option.some.injEq, Prod.mk.injEq] at h; rw [← h.2]; exact ih h1)
  ·exact ih h
 | loop b ih =>
  intro s s' x h
  simp only [icode] at h
  exact loopCode_d (f := fun _ s => icode call n b s) (fun h => ih h) h
 | rangeF f ps asg body _ _ =>
  intro s s' x h
  simp only [icode] at h
  repeat' (split at h)
  all_goals first
   | (cases h; done)
   | (simp only [Option.some.injEq, Prod.mk.injEq] at h; rw [← h.2]; simp [*])
section
variable {F : Fence} {n : Nat} {Q : Exit → Act → World → Prop} {a : Act} {w : World}
theorem stepR_scope {b : Frame} {k : List Item} {cs : List Frame} {c : Code} : step P (lone (b.atR a (.code (.scope c) :: k)) cs w) = .next (lone (b.atR a (.code c :: .inScope c :: k)) cs w) :=
 step_lone_go (by simp [stepG, stepG.exec, Frame.atR])
theorem stepR_inScope {b : Frame} {k : List Item} {cs : List Frame} {c : Code} : step P (lone (b.atR a (.inScope c :: k)) cs w) = .next (lone (b.atR a k) cs w) :=
 step_lone_go (by simp [stepG, stepG.exec, Frame.atR])
theorem wpIn_scope {c : Code} (h : c.wpIn F n P (Exit.noGoto Q) a w) : (Code.scope c).wpIn F n P Q a w := by
 intro b k cs hro hb hr
 have h0 : (lone (b.atR a (.code (.scope c) :: k)) cs w).fenced P F := fenced_calm hb hr rfl
 obtain ⟨e, a₁, w₁, hq, harr⟩ := h b (.inScope c :: k) cs hro hb hr
 cases e with
 | normal => exact ⟨.normal, a₁, w₁, hq, .head h0 stepR_scope (StepsIn.trans harr (.one (fenced_calm hb hr rfl) stepR_inScope))⟩
 | exit id =>
  have hx : exitTo id (.inScope c :: k) = exitTo id k := by simp [exitTo]
  exact ⟨.exit id, a₁, w₁, hq, fun k' hk => .head h0 stepR_scope (harr.1 k' (by rw [hx]; exact hk)),
   fun hr' hk => let ⟨k₁, h1, h2⟩ := harr.2 hr' (by rw [hx]; exact hk); ⟨k₁, h1, .head h0 stepR_scope h2⟩⟩
 | goto l => exact hq.elim
 | ret => exact ⟨_, a₁, w₁, hq, .of_steps (.one h0 stepR_scope) harr⟩
 | panic ch => exact ⟨_, a₁, w₁, hq, .of_steps (.one h0 stepR_scope) harr⟩
 | outgrown => exact ⟨_, a₁, w₁, hq, .of_steps (.one h0 stepR_scope) harr⟩
end
theorem exRel_exit {ι : Inj} {e : Env} {t : Array Value} {x : Ex} {y : Exit} (h : ExRel ι e t x y) : (∀ l, y ≠ .goto l) ∧ y ≠ .outgrown := by
 cases y <;> cases x <;> simp [ExRel] at h ⊢
theorem ExPost.normal {nt : Nat} {ι : Inj} {h : Heap} {w : World} {s' : St} {e : Exit} {a' : Act} {w' : World} (hp : ExPost P base w0 nt ι h w .normal s' e a' w') : e = .normal ∧ ∃ ι', Ok P base w0 ι' s'.h w' ∧ Ext ι h w ι' s'.h w' ∧ a'.tmps.size = nt ∧ DRep ι' s'.d a'.defers ∧ ERep ι' s'.e a'.tmps := by
 obtain ⟨ι', h1, h2, h3, h4, h5⟩ := hp
 cases e <;> simp only [ExRel] at h5
 exact ⟨rfl, ι', h1, h2, h3, h4, h5⟩
theorem ExPost.notNormal {nt : Nat} {ι : Inj} {h : Heap} {w : World} {x : Ex} (hx : x ≠ .normal) {s' : St} {e : Exit} {a' : Act} {w' : World} (hp : ExPost P base w0 nt ι h w x s' e a' w') : e ≠ .normal := by
 obtain ⟨ι', h1, h2, h3, h4, h5⟩ := hp
 intro e; subst e
 cases x <;> simp only [ExRel] at h5
 exact hx rfl
theorem rep_ofbool {ι : Inj} {b : Bool} {v : Value} (h : Rep ι (.bool b) v) : v = .bool b := by cases h; rfl
theorem then_of {next : Act → World → Prop} {Q : Exit → Act → World → Prop} {e : Exit} {a : Act} {w : World} (he : e ≠ .normal) (h : Q e a w) : Exit.then next Q e a w := by
 cases e <;> first | exact (he rfl).elim | exact h
theorem icode_sound {call : CallF} (hcall : CallOk P base w0 call) {F : Fence} {nt m : Nat} {n : Nat} : ∀ {code : Code} {ic : IC}, cic P nt code = some ic → ∀ {s : St} {ι : Inj} {a : Act} {w : World}, FOk F s.d → Ok P base w0 ι s.h w → a.tmps.size = nt → ERep ι s.e a.tmps → DRep ι s.d a.defers →
 ∀ {x : Ex} {s' : St} {Q : Exit → Act → World → Prop}, icode call n ic s = some (x, s') → (∀ e a' w', ExPost P base w0 nt ι s.h w x s' e a' w' → Q e a' w') → code.wpIn F m P Q a w := by
 intro code
 induction code with
 | skip =>
  intro ic hc s ι a w hF hk hsz hE hD x s' Q hi hQ
  simp only [cic, Option.some.injEq] at hc; subst hc
  simp only [icode, Option.some.injEq, Prod.mk.injEq] at hi
  obtain ⟨rfl, rfl⟩ := hi
  exact wpIn_skip (hQ _ _ _ ⟨ι, hk, .refl _ _ _, hsz, hD, hE⟩)
 | label l =>
  intro ic hc s ι a w hF hk hsz hE hD x s' Q hi hQ
  simp only [cic, Option.some.injEq] at hc; subst hc
  simp only [icode, Option.some.injEq, Prod.mk.injEq] at hi
  obtain ⟨rfl, rfl⟩ := hi
  exact wpIn_label (hQ _ _ _ ⟨ι, hk, .refl _ _ _, hsz, hD, hE⟩)
 | exit id =>
  intro ic hc s ι a w hF hk hsz hE hD x s' Q hi hQ
  simp only [cic, Option.some.injEq] at hc; subst hc
  simp only [icode, Option.some.injEq, Prod.mk.injEq] at hi
  obtain ⟨rfl, rfl⟩ := hi
  exact wpIn_exit (hQ _ _ _ ⟨ι, hk, .refl _ _ _, hsz, hD, rfl, hE⟩)
 | ret =>
  intro ic hc s ι a w hF hk hsz hE hD x s' Q hi hQ
  simp only [cic, Option.some.injEq] at hc; subst hc
  simp only [icode, Option.some.injEq, Prod.mk.injEq] at hi
  obtain ⟨rfl, rfl⟩ := hi
  exact wpIn_ret (hQ _ _ _ ⟨ι, hk, .refl _ _ _, hsz, hD, hE⟩)
 | region id ops draw =>
  intro ic hc s ι a w hF hk hsz hE hD x s' Q hi hQ
  simp only [cic] at hc
  split at hc
  case h_2 => cases hc; simp [icode, stuck, ev] at hi
  rename_i l hl
  split at hc
  ·rename_i hdr
   split at hc
   case isFalse => cases hc; simp [icode, stuck, ev] at hi
   rename_i hok
   simp only [Bool.and_eq_true] at hok
   cases hc
   subst hdr
   simp only [icode] at hi
   exact idraw_sound hcall hl hok.1 hok.2 hF hk hsz hE hD hi hQ
  ·rename_i hdr
   cases hc
   have : draw = false := by simpa using hdr
   subst this
   simp only [icode] at hi
   refine wpIn_region ?_
   have := iops_sound (n := m) hcall ops.toList 0 l (by simp) hl hF hk hsz hE hD hi hQ
   simpa [List.range_eq_range'] using this
 | seq c1 c2 ih1 ih2 =>
  intro ic hc s ι a w hF hk hsz hE hD x s' Q hi hQ
  simp only [cic] at hc
  split at hc
  case h_2 => cases hc
  rename_i i1 i2 h1 h2
  cases hc
  simp only [icode] at hi
  refine wpIn_seq ?_
  cases hr : icode call n i1 s with
  | none => rw [hr] at hi; cases hi
  | some q =>
   obtain ⟨x1, s1⟩ := q
   rw [hr] at hi
   refine ih1 h1 hF hk hsz hE hD hr fun e a1 w1 hp => ?_
   by_cases hx : x1 = .normal
   ·subst hx
    obtain ⟨rfl, ι1, k1, k2, k3, k4, k5⟩ := hp.normal
    simp only at hi
    exact ih2 h2 (hF.of (icode_d hr)) k1 k3 k5 k4 hi fun e a2 w2 hp2 => hQ e a2 w2 (hp2.trans k2)
   ·have : x = x1 ∧ s' = s1 := by cases x1 <;> first | exact (hx rfl).elim | (cases hi; exact ⟨rfl, rfl⟩)
    obtain ⟨rfl, rfl⟩ := this
    exact then_of (hp.notNormal hx) (hQ e a1 w1 hp)
 | cond c c1 c2 ih1 ih2 =>
  intro ic hc s ι a w hF hk hsz hE hD x s' Q hi hQ
  simp only [cic] at hc
  split at hc
  case h_2 => cases hc
  rename_i co i1 i2 hco h1 h2
  cases hc
  simp only [icode] at hi
  have hr := (opdRep_of hE).1 _ _ hco
  split at hi
  ·rename_i hb
   rw [hb] at hr
   have : a.eval c = .bool true := rep_ofbool hr
   exact wpIn_cond_true this (ih1 h1 hF hk hsz hE hD hi hQ)
  ·rename_i hb
   rw [hb] at hr
   have : a.eval c = .bool false := rep_ofbool hr
   exact wpIn_cond_false this (ih2 h2 hF hk hsz hE hD hi hQ)
  ·cases hi
 | block id b ih =>
  intro ic hc s ι a w hF hk hsz hE hD x s' Q hi hQ
  simp only [cic] at hc
  obtain ⟨ib, hib, rfl⟩ := opt_map hc
  simp only [icode] at hi
  refine wpIn_block ?_
  cases hr : icode call n ib s with
  | none => rw [hr] at hi; cases hi
  | some q =>
   obtain ⟨x1, s1⟩ := q
   rw [hr] at hi
   refine ih hib hF hk hsz hE hD hr fun e a1 w1 hp => ?_
   cases x1 with
   | brk i =>
    simp only at hi
    obtain ⟨ι1, k1, k2, k3, k4, k5⟩ := hp
    cases e <;> simp only [ExRel] at k5
    obtain ⟨rfl, k5⟩ := k5
    simp only [Exit.inBlock]
    split at hi <;> cases hi
    ·rename_i hid; rw [if_pos hid]; exact hQ _ _ _ ⟨ι1, k1, k2, k3, k4, k5⟩
    ·rename_i hid; rw [if_neg hid]; exact hQ _ _ _ ⟨ι1, k1, k2, k3, k4, rfl, k5⟩
   | normal => cases hi; have hq := hQ _ _ _ hp; obtain ⟨rfl, _⟩ := hp.normal; exact hq
   | ret =>
    cases hi
    have hq := hQ _ _ _ hp
    obtain ⟨ι1, k1, k2, k3, k4, k5⟩ := hp
    cases e <;> simp only [ExRel] at k5
    exact hq
   | pan v =>
    cases hi
    have hq := hQ _ _ _ hp
    obtain ⟨ι1, k1, k2, k3, k4, k5⟩ := hp
    cases e <;> simp only [ExRel] at k5
    exact hq
 | loop b ih =>
  intro ic hc s ι a w hF hk hsz hE hD x s' Q hi hQ
  simp only [cic] at hc
  obtain ⟨ib, hib, rfl⟩ := opt_map hc
  simp only [icode] at hi
  refine wpIn_loop_rounds n ?_
  have key : ∀ (k : Nat) {s : St} {ι : Inj} {a : Act} {w : World}, FOk F s.d → Ok P base w0 ι s.h w → a.tmps.size = nt → ERep ι s.e a.tmps → DRep ι s.d a.defers → loopCode (fun _ s => icode call n ib s) ib k s = some (x, s') →
   (∀ e a' w', ExPost P base w0 nt ι s.h w x s' e a' w' → Q e a' w') → Code.roundsIn F m P b Q k a w := by
   intro k
   induction k with
   | zero => intro s ι a w _ _ _ _ _ hi; cases hi
   | succ k ihk =>
    intro s ι a w hF hk hsz hE hD hi hQ
    rw [roundsIn_succ]
    simp only [loopCode] at hi
    cases hr : icode call n ib s with
    | none => rw [hr] at hi; cases hi
    | some q =>
     obtain ⟨x1, s1⟩ := q
     rw [hr] at hi
     refine ih hib hF hk hsz hE hD hr fun e a1 w1 hp => ?_
     by_cases hx : x1 = .normal
     ·subst hx
      obtain ⟨rfl, ι1, k1, k2, k3, k4, k5⟩ := hp.normal
      simp only at hi
      exact ihk (hF.of (icode_d hr)) k1 k3 k5 k4 hi fun e a2 w2 hp2 => hQ e a2 w2 (hp2.trans k2)
     ·have : x = x1 ∧ s' = s1 := by cases x1 <;> first | exact (hx rfl).elim | (cases hi; exact ⟨rfl, rfl⟩)
      obtain ⟨rfl, rfl⟩ := this
      exact then_of (hp.notNormal hx) (hQ e a1 w1 hp)
  exact key n hF hk hsz hE hD hi hQ
 | scope b ih =>
  intro ic hc s ι a w hF hk hsz hE hD x s' Q hi hQ
  simp only [cic] at hc
  refine wpIn_scope (ih hc hF hk hsz hE hD hi fun e a1 w1 hp => ?_)
  have hq := hQ _ _ _ hp
  obtain ⟨ι1, k1, k2, k3, k4, k5⟩ := hp
  have := exRel_exit k5
  cases e <;> first | exact hq | exact (this.1 _ rfl).elim
 | rangeFunc f ps asg body ih1 ih2 =>
  intro ic hc s ι a w hF hk hsz hE hD x s' Q hi hQ
  simp only [cic] at hc
  split at hc
  case h_2 => cases hc
  rename_i fo ia ib hfo h1 h2
  split at hc
  case isFalse => cases hc
  rename_i hps
  cases hc
  simp only [icode] at hi
  split at hi
  case h_1 => cases hi
  rename_i ds hds
  split at hi
  case h_2 => cases hi
  rename_i g vs htg
  have hFw : F = Fence.wide := by
   rcases hF with ⟨h, _⟩ | ⟨l, _, h⟩
   ·exact h
   ·rw [hds] at h; cases h
  subst hFw
  have hs1 := hk.sim.new .dfr (.deferred (some [])) ⟨w.heap.size, 0, 0, 0⟩ rfl (fun _ _ _ => hk.size) (w' := { w with heap := w.heap.push (.deferred (some [])) }) rfl rfl rfl rfl
  obtain ⟨hsA, heA⟩ := hs1
  refine wpIn_rangeFunc fun fn _ => ?_
  have hs2 := hsA.new (.loop ⟨.ready, none, s.e, ps.toList, ia, ib⟩) (.loop { state := .ready, pending := none, fn := fn, tmps := a.tmps, params := ps, assign := asg, body := body, defers := w.heap.size }) ⟨w.heap.size + 1, 0, 0, 0⟩ (by simp)
   (fun ι' hl _ => ⟨Nat.le_succ_of_le hk.size, trivial, trivial, (hE.mono heA.inj).mono hl, rfl, fun p hp => by rw [hsz]; have := List.all_eq_true.1 hps p hp; simpa using this, by rw [hsz]; exact h1, by rw [hsz]; exact h2⟩)
   (w' := { w with heap := (w.heap.push (.deferred (some []))).push (.loop { state := .ready, pending := none, fn := fn, tmps := a.tmps, params := ps, assign := asg, body := body, defers := w.heap.size }) }) rfl rfl rfl rfl
  obtain ⟨hsB, heB⟩ := hs2
  have hl : (s.h.new .dfr).next = s.h.next + 1 := rfl
  generalize hιB : ext1 (ext1 ι s.h.next ⟨w.heap.size, 0, 0, 0⟩) (s.h.new .dfr).next ⟨w.heap.size + 1, 0, 0, 0⟩ = ιB at hsB heB
  have hlB : ιB (s.h.next + 1) = some ⟨w.heap.size + 1, 0, 0, 0⟩ := by rw [← hιB, ← hl]; exact ext1_same _ _ _
  have hmB : ιB s.h.next = some ⟨w.heap.size, 0, 0, 0⟩ := heB.inj _ _ (ext1_same _ _ _)
  have heAB := heA.trans heB
  have hkB := hk.ext hsB heAB
  obtain ⟨d, hd1, cap, hd2, hd3⟩ := target_spec (P := P) htg (((opdRep_of hE).1 _ _ hfo).mono heAB.inj) (args' := #[.func (.yield (w.heap.size + 1)) #[] #[]]) (RepL.cons (.yld hlB) (.nil _))
   { w with heap := (w.heap.push (.deferred (some []))).push (.loop { state := .ready, pending := none, fn := fn, tmps := a.tmps, params := ps, assign := asg, body := body, defers := w.heap.size }) }
  cases hcv : call (.fn g) vs ((s.h.new .dfr).new (.loop ⟨.ready, none, s.e, ps.toList, ia, ib⟩)) with
  | none => rw [hcv] at hi; cases hi
  | some oh =>
   obtain ⟨out, h'⟩ := oh
   rw [hcv] at hi
   obtain ⟨hok, hcalls⟩ := hcall.fn g vs _ out h' hcv
   refine ⟨w.heap.size + 1, [{ target := .collected w.heap.size, args := #[] }],
    { w with heap := (w.heap.push (.deferred (some []))).push (.loop { state := .ready, pending := none, fn := fn, tmps := a.tmps, params := ps, assign := asg, body := body, defers := w.heap.size }) }, d,
    { w with heap := (w.heap.push (.deferred (some []))).push (.loop { state := .ready, pending := none, fn := fn, tmps := a.tmps, params := ps, assign := asg, body := body, defers := w.heap.size }) }, g, d.args ++ cap,
    { w with heap := (w.heap.push (.deferred (some []))).push (.loop { state := .ready, pending := none, fn := fn, tmps := a.tmps, params := ps, assign := asg, body := body, defers := w.heap.size }) }, ?_, ?_, fun f' _ => trivial, ?_, fun h => by simp [Fence.wide] at h, ?_⟩
   ·simp only [Instr.enterLoop, Fence.wide, Sem.run_bind, Sem.run_pure, run_newObj, Result.andThen_ok, Array.size_push]
   ·simp only [resolve, rangeCall]
    simpa [Act.eval] using hd1
   ·rw [hd2]; exact hok.run _ _
   ·have := hcalls ιB _ (d.args ++ cap).toList hkB (by simpa using hd3)
    simp only [Array.toArray_toList] at this
    refine callsIn_wide.2 (this.mono fun e w3 hpost => ?_)
    obtain ⟨ι3, k1, k2, k3⟩ := hpost
    have heAll := heAB.trans k2
    have hdr : DRep ι3 (some (Dfr.mark s.h.next :: ds)) ({ target := .collected w.heap.size, args := #[] } :: a.defers) := ⟨⟨_, k2.inj _ _ hmB, rfl⟩, by rw [hds] at hD; exact DL.mono heAll.inj hD⟩
    have hl3 := k2.inj _ _ hlB
    cases out with
    | pan v =>
     cases e with
     | returned v' => exact k3.elim
     | outgrown => exact k3.elim
     | panicked ch =>
      simp only at hi
      cases hi
      simp only [rangePost]
      cases ch with
      | nil => exact k3.elim
      | cons c ch => cases ch with
       | cons => exact k3.elim
       | nil => exact hQ _ _ _ ⟨ι3, k1, heAll, hsz, hdr, k3.1, k3.2.1, k3.2.2, (hE.mono heAll.inj).toP⟩
    | ret v =>
     cases e with
     | panicked ch => exact k3.elim
     | outgrown => exact k3.elim
     | returned v' =>
      simp only at hi
      split at hi
      case h_2 => cases hi
      rename_i L hL
      split at hi
      case isTrue => cases hi
      rename_i hnb
      obtain ⟨o', ho', hr'⟩ := k1.sim.blk _ _ _ hL hl3
      cases o' <;> simp only [BRel] at hr'
      rename_i L'
      obtain ⟨b1, b2, b3, b4, b5, b6, b7, b8⟩ := hr'
      have hstate : ¬ L'.state = LoopState.busy := by
       intro e
       rw [e] at b2
       cases hst : L.st <;> rw [hst] at b2 <;> first | exact b2.elim | exact (hnb hst).elim
      obtain ⟨Lst, Lp, Le, Lps, La, Lb⟩ := L
      have hm3 : mine h' (s.h.next + 1) := by unfold mine; rw [hL]; trivial
      obtain ⟨w4, hrun, hs4, he4⟩ := Sim.setObj (P := P) k1.sim hl3 hm3 (.loop ⟨.gone, Lp, Le, Lps, La, Lb⟩) ho' (fun c t f => by simp) (o' := .loop { L' with state := .exhausted }) ⟨b1, trivial, b3, b4, b5, b6, b7, b8⟩
      simp only [rangePost]
      have hend : (Instr.endLoop (w.heap.size + 1)).run P w3 = .ok L'.pending w4 := by
       simp only [Instr.endLoop, Instr.getLoop, Sem.run_bind]
       have hg : (getObj (w.heap.size + 1)).run P w3 = .ok (.loop L') w3 := by simp [getObj, Sem.run, ho']
       have hrun' : (Go.setObj (w.heap.size + 1) (.loop { L' with state := .exhausted })).run P w3 = .ok () w4 := hrun
       simp [hg, hstate, hrun']
      refine ⟨_, w4, hend, ?_⟩
      have he5 := heAll.trans he4
      have hk5 := k1.ext hs4 he4
      have hd5 : DRep ι3 (some (Dfr.mark s.h.next :: ds)) ({ target := .collected w.heap.size, args := #[] } :: a.defers) := hdr
      cases Lp with
      | none =>
       cases hp' : L'.pending with
       | some _ => rw [hp'] at b3; exact b3.elim
       | none =>
        cases hi
        exact hQ _ _ _ ⟨ι3, hk5, he5, hsz, hd5, hE.mono he5.inj⟩
      | some j =>
       cases hp' : L'.pending with
       | none => rw [hp'] at b3; cases j <;> exact b3.elim
       | some c =>
        rw [hp'] at b3
        cases j with
        | ret =>
         cases c <;> simp only [PRep] at b3
         simp only [jmpEx] at hi
         cases hi
         exact wpIn_ret (hQ _ _ _ ⟨ι3, hk5, he5, hsz, hd5, hE.mono he5.inj⟩)
        | brk i =>
         cases c <;> simp only [PRep] at b3
         subst b3
         simp only [jmpEx] at hi
         cases hi
         exact wpIn_exit (hQ _ _ _ ⟨ι3, hk5, he5, hsz, hd5, rfl, hE.mono he5.inj⟩)
 | _ =>
  intro ic hc s ι a w hF hk hsz hE hD x s' Q hi hQ
  simp only [cic, Option.some.injEq] at hc
  subst hc
  simp [icode, stuck, ev] at hi
end Go.Idl
end

section
namespace Go.Idl
variable {P : Program} {base : Nat} {w0 : World}
def RVGood (ι : Inj) (e : Env) (tmps : Array Value) : RV → Prop
 | .tmp t => Rep ι (e t) (tmps.getD t undef)
 | .cell a _ => Rep ι (e a) (tmps.getD a undef)
theorem crv_cons {r : ResultVar} {rs : List ResultVar} {l : List RV} (h : crv P (r :: rs) = some l) : ∃ x xs, l = x :: xs ∧ crv P rs = some xs ∧ (match r with | .tmp t => x = .tmp t | .cell a t => ∃ n, tshape P t = some n ∧ x = .cell a n) := by
 cases r with
 | tmp t =>
  simp only [crv] at h
  obtain ⟨xs, hx, rfl⟩ := opt_map h
  exact ⟨_, xs, rfl, hx, rfl⟩
 | cell a t =>
  simp only [crv] at h
  split at h
  ·rename_i n r' hn hr
   cases h
   exact ⟨_, r', rfl, hr, n, hn, rfl⟩
  ·cases h
theorem resV_run {C : Nat → IC → Code → Prop} {ι : Inj} {h : Heap} {w : World} (hs : Sim C base ι h w) {e : Env} {tmps : Array Value} {a : Nat} {t : TypeId} {n : Option Nat} (hn : tshape P t = some n) {v : Value} (hr : Rep ι (e a) (tmps.getD a undef)) (hv : resV e h (.cell a n) = some v) :
 ∃ v', (do loadVar t (← asAddr (tmps.getD a undef)) : Sem Value).run P w = .ok v' w ∧ Rep ι v v' := by
 simp only [resV] at hv
 split at hv
 case h_2 => cases hv
 rename_i b o hb
 rw [hb] at hr
 obtain ⟨i, hι, hx⟩ := rep_ptr hr
 rw [hx]
 rcases tshape_spec hn with ⟨k, rfl, hk, hag⟩ | ⟨rfl, hag⟩
 ·obtain ⟨cs, hcs, hp⟩ := opt_map hv
  cases hp
  obtain ⟨cs', hr, hlen, hcell⟩ := hs.cells hι hcs
  have hld := run_loadCells_list (P := P) w _ cs' hcell
  rw [← hr.1, hlen] at hld
  refine ⟨.agg cs'.toArray, ?_, rep_agg.2 (by simpa using hr)⟩
  simp [asAddr, loadVar, hag, run_sizeOf' hk, hld]
 ·obtain ⟨u, hf, hr, hcell⟩ := hs.cell hι hv
  refine ⟨u, ?_, hr⟩
  simp [asAddr, loadVar, hag, hcell]
theorem resAll_run {C : Nat → IC → Code → Prop} {ι : Inj} {h : Heap} {w : World} (hs : Sim C base ι h w) {e : Env} {tmps : Array Value} (f : ResultVar → Sem Value) (hf : ∀ u, f (.tmp u) = pure (tmps.getD u undef)) (hc : ∀ a t, f (.cell a t) = (do loadVar t (← asAddr (tmps.getD a undef)))) :
 ∀ {rs : List ResultVar} {rvs : List RV}, crv P rs = some rvs → (∀ r ∈ rvs, RVGood ι e tmps r) → ∀ {vs : List Value}, resAll e h rvs = some vs → ∃ vs', (rs.mapM f).run P w = .ok vs' w ∧ RepL ι vs vs'
 | [], rvs, hcr, _, vs, hv => by
  simp only [crv, Option.some.injEq] at hcr
  subst hcr
  simp only [resAll, Option.some.injEq] at hv
  subst hv
  exact ⟨[], by simp, .nil _⟩
 | r :: rs, rvs, hcr, hg, vs, hv => by
  obtain ⟨x, xs, rfl, hxs, hx⟩ := crv_cons hcr
  simp only [resAll] at hv
  split at hv
  case h_2 => cases hv
  rename_i v vs2 hv1 hv2
  cases hv
  obtain ⟨vs', h1, h2⟩ := resAll_run hs f hf hc hxs (fun r hr => hg r (by simp [hr])) hv2
  have hgx := hg x (by simp)
  cases r with
  | tmp t =>
   simp only at hx
   subst hx
   simp only [resV, Option.some.injEq] at hv1
   subst hv1
   exact ⟨_ :: vs', by simp [List.mapM_cons, hf, h1], .cons hgx h2⟩
  | cell a t =>
   obtain ⟨n, hn, rfl⟩ := hx
   obtain ⟨v', k1, k2⟩ := resV_run hs hn hgx hv1
   exact ⟨v' :: vs', by rw [List.mapM_cons, hc, Sem.run_bind, k1]; simp [h1], .cons k2 h2⟩
theorem results_sound {C : Nat → IC → Code → Prop} {ι : Inj} {h : Heap} {w : World} (hs : Sim C base ι h w) {e : Env} {tmps : Array Value} {fn : Func} {rvs : List RV} (hcr : crv P fn.results.toList = some rvs) (hg : ∀ r ∈ rvs, RVGood ι e tmps r) {vs : List Value} (hv : resAll e h rvs = some vs) :
 ∃ v', (results fn tmps).run P w = .ok v' w ∧ Rep ι (tup vs) v' := by
 suffices H : ∀ f : ResultVar → Sem Value, (∀ u, f (.tmp u) = pure (tmps.getD u undef)) → (∀ a t, f (.cell a t) = (do loadVar t (← asAddr (tmps.getD a undef)))) →
  ∃ v', (do let vs ← fn.results.mapM f; pure (if h : vs.size = 1 then vs[0] else .tuple vs) : Sem Value).run P w = .ok v' w ∧ Rep ι (tup vs) v' from H _ (fun _ => rfl) (fun _ _ => rfl)
 intro f hf hc
 obtain ⟨vs', h1, h2⟩ := resAll_run hs f hf hc hcr hg hv
 have hm : (do let vs ← fn.results.mapM f; pure (if h : vs.size = 1 then vs[0] else .tuple vs) : Sem Value).run P w = .ok (if h : vs'.toArray.size = 1 then vs'.toArray[0] else .tuple vs'.toArray) w := by
  rw [show fn.results = fn.results.toList.toArray by simp, List.mapM_toArray]
  simp only [Sem.run_bind, Sem.run_map]
  rw [h1]
  rfl
 refine ⟨_, hm, ?_⟩
 have hl := h2.1
 match vs, vs', h2, hl with
 | [], [], h2, _ => exact rep_tuple (by simpa using h2)
 | [v], [v'], h2, _ => simpa [tup] using h2.head.1
 | a :: b :: vs, [], h2, hl => simp at hl
 | a :: b :: vs, [_], h2, hl => simp at hl
 | a :: b :: vs, a' :: b' :: vs', h2, _ => simpa [tup] using rep_tuple (x := (a :: b :: vs).toArray) (x' := (a' :: b' :: vs').toArray) (by simpa using h2)
 | [], _ :: _, h2, hl => simp at hl
 | [_], [], h2, hl => simp at hl
 | [_], _ :: _ :: _, h2, hl => simp at hl
theorem rvGood_all {ι : Inj} {e : Env} {tmps : Array Value} (h : ERep ι e tmps) (r : RV) : RVGood ι e tmps r := by cases r <;> exact h _
theorem resAllP_good {ι : Inj} {e : Env} {tmps : Array Value} (hE : PERep ι e tmps) {h : Heap} : ∀ {rvs : List RV} {vs : List Value}, resAllP e h rvs = some vs → resAll e h rvs = some vs ∧ ∀ r ∈ rvs, RVGood ι e tmps r
 | [], vs, hv => by simp only [resAllP, Option.some.injEq] at hv; subst hv; exact ⟨rfl, fun r hr => by simp at hr⟩
 | r :: rs, vs, hv => by
  simp only [resAllP] at hv
  split at hv
  case h_2 => cases hv
  rename_i v vs2 hv1 hv2
  cases hv
  obtain ⟨h1, h2⟩ := resAllP_good hE hv2
  have hr : resV e h r = some v ∧ RVGood ι e tmps r := by
   cases r with
   | tmp t =>
    simp only [resVP] at hv1
    split at hv1
    ·cases hv1
    ·rename_i hn
     cases hv1
     refine ⟨rfl, ?_⟩
     rcases hE t with hu | hr
     ·exact (hn _ hu).elim
     ·exact hr
   | cell a n =>
    simp only [resVP] at hv1
    refine ⟨hv1, ?_⟩
    rcases hE a with hu | hr
    ·simp [resV, hu, unk] at hv1
    ·exact hr
  refine ⟨by simp only [resAll, hr.1, h1], fun r' hr' => ?_⟩
  rcases List.mem_cons.1 hr' with rfl | hh
  ·exact hr.2
  ·exact h2 r' hh
def MRel (ι : Inj) : Option Value → FrameMode → Prop
 | none, u => u = .returning
 | some v, u => ∃ c : PanicEntry, u = .panicking [c] ∧ c.recovered = false ∧ c.goexit = false ∧ Rep ι v c.v
def MRelD (ι : Inj) : Option Value → FrameMode → Prop
 | none, u => u = .returning ∨ ∃ c : PanicEntry, u = .panicking [c] ∧ c.recovered = true
 | some v, u => ∃ c : PanicEntry, u = .panicking [c] ∧ c.recovered = false ∧ c.goexit = false ∧ Rep ι v c.v
theorem MRel.toD {ι : Inj} {m : Option Value} {u : FrameMode} (h : MRel ι m u) : MRelD ι m u := by
 cases m with
 | none => exact .inl h
 | some v => exact h
theorem MRelD.settle {ι : Inj} {m : Option Value} {u : FrameMode} (h : MRelD ι m u) : MRel ι m (settle u) := by
 cases m with
 | none =>
  rcases h with rfl | ⟨⟨v, r, g⟩, rfl, h⟩
  ·rfl
  ·simp only at h; subst h; rfl
 | some v =>
  obtain ⟨⟨v', r, g⟩, rfl, h1, h2, h3⟩ := h
  simp only at h1; subst h1
  exact ⟨_, rfl, rfl, h2, h3⟩
theorem MRelD.mono {ι ι' : Inj} (hl : ι.le ι') {m : Option Value} {u : FrameMode} (h : MRelD ι m u) : MRelD ι' m u := by
 cases m with
 | none => exact h
 | some v => obtain ⟨c, h1, h2, h3, h4⟩ := h; exact ⟨c, h1, h2, h3, h4.mono hl⟩
theorem MRel.mono {ι ι' : Inj} (hl : ι.le ι') {m : Option Value} {u : FrameMode} (h : MRel ι m u) : MRel ι' m u := by
 cases m with
 | none => exact h
 | some v => obtain ⟨c, h1, h2, h3, h4⟩ := h; exact ⟨c, h1, h2, h3, h4.mono hl⟩
section
variable {n : Nat} {Q : Exit → Act → List Frame → World → Prop} {a : Act} {cs : List Frame} {w : World} {F : Fence}
theorem wpSIn_scope {c : Code} (h : c.wpSIn F n P (fun e a cs w => match e with | .goto _ => False | e => Q e a cs w) a cs w) : (Code.scope c).wpSIn F n P Q a cs w := by
 intro b k hb hro hF hroom
 have h0 : (lone (b.atR a (.code (.scope c) :: k)) cs w).fenced P F := fenced_calm hF hroom rfl
 obtain ⟨e, a₁, cs₁, w₁, hl, hq, harr⟩ := h b (.inScope c :: k) hb hro hF hroom
 cases e with
 | normal => exact ⟨.normal, a₁, cs₁, w₁, hl, hq, .head h0 stepR_scope (StepsIn.trans harr (.one (fenced_calm hF (hl ▸ hroom) rfl) stepR_inScope))⟩
 | exit id =>
  have hx : exitTo id (.inScope c :: k) = exitTo id k := by simp [exitTo]
  exact ⟨.exit id, a₁, cs₁, w₁, hl, hq, fun k' hk => .head h0 stepR_scope (harr.1 k' (by rw [hx]; exact hk)),
   fun hr' hk => let ⟨k₁, h1, h2⟩ := harr.2 hr' (by rw [hx]; exact hk); ⟨k₁, h1, .head h0 stepR_scope h2⟩⟩
 | goto l => exact hq.elim
 | ret => exact ⟨.ret, a₁, cs₁, w₁, hl, hq, .of_steps (.one h0 stepR_scope) harr⟩
 | panic ch => exact ⟨.panic ch, a₁, cs₁, w₁, hl, hq, .of_steps (.one h0 stepR_scope) harr⟩
 | outgrown => exact ⟨.outgrown, a₁, cs₁, w₁, hl, hq, .of_steps (.one h0 stepR_scope) harr⟩
end
def ExPostD (P : Program) (base : Nat) (w0 : World) (nt : Nat) (ι : Inj) (h : Heap) (w : World) (x : Ex) (m : Option Value) (s' : St) (e : Exit) (a' : Act) (u' : FrameMode) (w' : World) : Prop :=
 ∃ ι', Ok P base w0 ι' s'.h w' ∧ Ext ι h w ι' s'.h w' ∧ a'.tmps.size = nt ∧ DRep ι' s'.d a'.defers ∧ ExRel ι' s'.e a'.tmps x e ∧ MRelD ι' m u'
theorem ExPostD.trans {nt : Nat} {ι ι1 : Inj} {h h1 : Heap} {w w1 : World} {x : Ex} {m : Option Value} {s' : St} {e : Exit} {a' : Act} {u' : FrameMode} {w' : World} (he : Ext ι h w ι1 h1 w1) (hp : ExPostD P base w0 nt ι1 h1 w1 x m s' e a' u' w') : ExPostD P base w0 nt ι h w x m s' e a' u' w' :=
 let ⟨ι', a, b, c⟩ := hp
 ⟨ι', a, he.trans b, c⟩
theorem copds_length : ∀ {xs : List Operand} {as : List Opd}, copds xs = some as → as.length = xs.length
 | [], as, h => by simp only [copds, Option.some.injEq] at h; subst h; rfl
 | x :: xs, as, h => by
  simp only [copds] at h
  split at h
  ·rename_i b bs h1 h2; cases h; simp [copds_length h2]
  ·cases h
theorem recover_op {op : Op} {q : IOp} (hc : cop P op = some q) (hq : q = .recover) : ∃ ts, op = .call { callee := .builtin .recover, args := #[], argTypes := ts } := by
 subst hq
 cases op
 case call c =>
  obtain ⟨callee, args, ts⟩ := c
  cases callee
  case builtin b =>
   simp only [cop, cbuiltin] at hc
   repeat' (split at hc)
   all_goals try (cases hc; done)
   all_goals try (obtain ⟨a, _, hr⟩ := opt_map hc; cases hr; done)
   rename_i heq
   have : args = #[] := by
    have := copds_length heq
    exact Array.eq_empty_of_size_eq_zero (by simpa using this.symm)
   exact ⟨ts, by rw [this]⟩
  all_goals (simp [cop] at hc)
 all_goals
  simp only [cop, cbin, cconv, csub] at hc
  repeat' (split at hc)
  all_goals first
   | (cases hc; done)
   | (cases ‹_ = Op.call _›; done)
   | (obtain ⟨a, _, h⟩ := opt_map hc; cases h; done)
theorem recoverD_none {c₀ : Frame} {cs : List Frame} {u : FrameMode} (h : u = .returning ∨ ∃ c : PanicEntry, u = .panicking [c] ∧ c.recovered = true) : recoverD ({ c₀ with mode := u } :: cs) = none := by
 rcases h with rfl | ⟨⟨v, r, g⟩, rfl, h⟩
 ·rfl
 ·simp only at h; subst h; rfl
theorem iopsD_sound {F : Fence} (hfn : ∀ f, F.fn f) {nt n : Nat} {ops : Array Oper} {Q : Exit → Act → List Frame → World → Prop} {c₀ : Frame} {cs : List Frame} :
 ∀ (os : List Oper) (k : Nat) (l : List Step), ops.toList.drop k = os → csteps P nt ops os = some l → ∀ {s : St} {ι : Inj} {a : Act} {w : World} {m : Option Value} {u : FrameMode}, Ok P base w0 ι s.h w → a.tmps.size = nt → ERep ι s.e a.tmps → DRep ι s.d a.defers → MRelD ι m u →
  ∀ {m' : Option Value} {s' : St}, iopsD l m s = some (m', s') → (∀ e a' u' w', ExPostD P base w0 nt ι s.h w .normal m' s' e a' u' w' → Q e a' ({ c₀ with mode := u' } :: cs) w') →
   wpOpsSIn F n P ops Q (List.range' k os.length) a ({ c₀ with mode := u } :: cs) w
 | [], k, l, hos, hl, s, ι, a, w, m, u, hk, hsz, hE, hD, hM, m', s', hi, hQ => by
  simp only [csteps, Option.some.injEq] at hl
  subst hl
  simp only [iopsD, Option.some.injEq, Prod.mk.injEq] at hi
  obtain ⟨rfl, rfl⟩ := hi
  simp only [List.length_nil, List.range'_zero, wpOpsSIn]
  exact hQ _ _ _ _ ⟨ι, hk, .refl _ _ _, hsz, hD, hE, hM⟩
 | o :: os, k, l, hos, hl, s, ι, a, w, m, u, hk, hsz, hE, hD, hM, m', s', hi, hQ => by
  obtain ⟨y, ys, rfl, hy, hys⟩ := csteps_cons hl
  have hko : ops[k]? = some o := by
   have : (ops.toList.drop k)[0]? = some o := by rw [hos]; rfl
   simpa using this
  have hos' : ops.toList.drop (k + 1) = os := by
   rw [← List.drop_drop, hos]; rfl
  obtain ⟨hdst, hstm, hdlt⟩ := cstep_spec hy
  have hdlt' : ∀ d, o.dst = some d → d < a.tmps.size := by rw [hsz]; exact hdlt
  simp only [List.length_cons, List.range'_succ, wpOpsSIn, hko]
  refine ⟨fun f _ => hfn f, ?_⟩
  rw [wanted_spec hy hE]
  simp only [iopsD] at hi
  by_cases hw : wantedE s.e y.grd = true
  ·rw [if_pos hw] at hi ⊢
   cases hm : y.stm with
   | op q =>
    rw [hm] at hstm hi
    obtain ⟨hcop, hnd⟩ := cstm_op hstm
    by_cases hq : q = .recover
    ·subst hq
     obtain ⟨ts, hop⟩ := recover_op hcop rfl
     have hrun : (execOp a.eval o).run P w = .ok .recover w := by simp [execOp, hop, resolve, invoke, builtin]
     rw [hrun]
     simp only at hi ⊢
     cases m with
     | none =>
      simp only at hi
      rw [recoverD_none hM]
      exact iopsD_sound (s := { s with e := dstUpd s.e y.dst .nilIface }) (m := none) hfn os (k + 1) ys hos' hys hk (by rw [put_size]; exact hsz) (by rw [hdst]; exact hE.putO hdlt' .nilIface) (by rw [put_defers]; exact hD) hM hi hQ
     | some v =>
      simp only at hi
      obtain ⟨⟨v', r, g⟩, rfl, h1, h2, h3⟩ := hM
      simp only at h1 h2 h3; subst h1; subst h2
      have : recoverD ({ c₀ with mode := .panicking [⟨v', false, false⟩] } :: cs) = some (v', { c₀ with mode := .panicking [⟨v', true, false⟩] } :: cs) := rfl
      rw [this]
      exact iopsD_sound (s := { s with e := dstUpd s.e y.dst v }) (m := none) hfn os (k + 1) ys hos' hys hk (by rw [put_size]; exact hsz) (by rw [hdst]; exact hE.putO hdlt' h3) (by rw [put_defers]; exact hD) (Or.inr ⟨_, rfl, rfl⟩ : MRelD ι none (.panicking [⟨v', true, false⟩])) hi hQ
    ·have hi' : (match iop q s.e s.h with
      | some (v, h) => iopsD ys m { s with e := dstUpd s.e y.dst v, h := h }
      | none => none) = some (m', s') := by cases q <;> first | exact (hq rfl).elim | exact hi
     clear hi
     split at hi'
     case h_2 => cases hi'
     rename_i v h' hiop
     obtain ⟨v', w', ι', hdo, hs', he', _, hr⟩ := cop_sound hcop hk.sim hk.size (opdRep_of hE) hiop
     have fin : ∀ u', Rep ι' v u' → wpOpsSIn F n P ops Q (List.range' (k + 1) os.length) (a.put o.dst u') ({ c₀ with mode := u } :: cs) w' := fun u' hu =>
      iopsD_sound (s := { s with e := dstUpd s.e y.dst v, h := h' }) (m := m) hfn os (k + 1) ys hos' hys (hk.ext hs' he') (by rw [put_size]; exact hsz) (by rw [hdst]; exact (hE.mono he'.inj).putO hdlt' hu) (by rw [put_defers]; exact hD.mono he'.inj) (hM.mono he'.inj) hi'
       (fun e a' u' w' hp => hQ e a' u' w' (hp.trans he'))
     rcases hdo o rfl with hrun | ⟨hrun, rfl⟩
     ·rw [hrun]; exact fin _ hr
     ·rw [hrun]; exact fin _ hr
   | _ => rw [hm] at hi; cases hi
  ·rw [if_neg hw] at hi ⊢
   exact iopsD_sound (s := { s with e := dstUpd s.e y.dst undef }) (m := m) hfn os (k + 1) ys hos' hys hk (by rw [put_size]; exact hsz) (by rw [hdst]; exact hE.putO hdlt' rep_undef) (by rw [put_defers]; exact hD) hM hi hQ
theorem icodeD_sound {call : CallF} (hcall : CallOk P base w0 call) {nt k : Nat} {n : Nat} {c₀ : Frame} {cs : List Frame} : ∀ {code : Code} {ic : IC}, cic P nt code = some ic → ∀ {s : St} {ι : Inj} {a : Act} {w : World} {m : Option Value} {u : FrameMode}, s.d.isSome = true → Ok P base w0 ι s.h w → a.tmps.size = nt → ERep ι s.e a.tmps → DRep ι s.d a.defers → MRelD ι m u →
 ∀ {x : Ex} {m' : Option Value} {s' : St} {Q : Exit → Act → List Frame → World → Prop}, icodeD call n ic m s = some (x, m', s') → (∀ e a' u' w', ExPostD P base w0 nt ι s.h w x m' s' e a' u' w' → Q e a' ({ c₀ with mode := u' } :: cs) w') →
  code.wpSIn Fence.wide k P Q a ({ c₀ with mode := u } :: cs) w := by
 have plain : ∀ {code : Code} {ic : IC}, cic P nt code = some ic → ∀ {s : St} {ι : Inj} {a : Act} {w : World} {m : Option Value} {u : FrameMode}, s.d.isSome = true → Ok P base w0 ι s.h w → a.tmps.size = nt → ERep ι s.e a.tmps → DRep ι s.d a.defers → MRelD ι m u →
  ∀ {x : Ex} {m' : Option Value} {s' : St} {Q : Exit → Act → List Frame → World → Prop}, (icode call n ic s).map (fun r => (r.1, m, r.2)) = some (x, m', s') → (∀ e a' u' w', ExPostD P base w0 nt ι s.h w x m' s' e a' u' w' → Q e a' ({ c₀ with mode := u' } :: cs) w') →
   code.wpSIn Fence.wide k P Q a ({ c₀ with mode := u } :: cs) w := by
  intro code ic hc s ι a w m u hd hk hsz hE hD hM x m' s' Q hi hQ
  obtain ⟨⟨x1, s1⟩, h1, h2⟩ := opt_map hi
  cases h2
  refine wpSIn_of_wpIn rfl (icode_sound hcall hc (.inl ⟨rfl, hd⟩) hk hsz hE hD h1 fun e a' w' hp => ?_)
  obtain ⟨ι', k1, k2, k3, k4, k5⟩ := hp
  exact hQ e a' u w' ⟨ι', k1, k2, k3, k4, k5, hM.mono k2.inj⟩
 intro code
 induction code with
 | region id ops draw =>
  intro ic hc s ι a w m u hd hk hsz hE hD hM x m' s' Q hi hQ
  have hc0 := hc
  simp only [cic] at hc
  split at hc
  case h_2 => cases hc; simp [icodeD, stuck, ev] at hi
  rename_i l hl
  split at hc
  ·split at hc
   case isFalse => cases hc; simp [icodeD, stuck, ev] at hi
   cases hc
   exact plain hc0 hd hk hsz hE hD hM (by simpa only [icodeD] using hi) hQ
  ·rename_i hdr
   cases hc
   have : draw = false := by simpa using hdr
   subst this
   simp only [icodeD] at hi
   split at hi
   ·obtain ⟨⟨m1, s1⟩, h1, h2⟩ := opt_map hi
    cases h2
    refine wpSIn_region ?_
    have := iopsD_sound (F := Fence.wide) (fun _ => trivial) (n := k) (c₀ := c₀) (cs := cs) (Q := Q) ops.toList 0 l (by simp) hl hk hsz hE hD hM h1 hQ
    simpa [List.range_eq_range'] using this
   ·exact plain hc0 hd hk hsz hE hD hM hi hQ
 | seq c1 c2 ih1 ih2 =>
  intro ic hc s ι a w m u hd hk hsz hE hD hM x m' s' Q hi hQ
  simp only [cic] at hc
  split at hc
  case h_2 => cases hc
  rename_i i1 i2 h1 h2
  cases hc
  simp only [icodeD] at hi
  refine wpSIn_seq ?_
  cases hr : icodeD call n i1 m s with
  | none => rw [hr] at hi; cases hi
  | some q =>
   obtain ⟨x1, m1, s1⟩ := q
   rw [hr] at hi
   refine ih1 h1 hd hk hsz hE hD hM hr fun e a1 u1 w1 hp => ?_
   obtain ⟨ι1, k1, k2, k3, k4, k5, k6⟩ := hp
   by_cases hx : x1 = .normal
   ·subst hx
    cases e <;> simp only [ExRel] at k5
    simp only at hi
    refine ih2 h2 ?_ k1 k3 k5 k4 k6 hi fun e a2 u2 w2 hp2 => hQ e a2 u2 w2 (hp2.trans k2)
    have : ∀ {i : IC} {m s x m' s'}, icodeD call n i m s = some (x, m', s') → s'.d.isSome = s.d.isSome := by
     intro i
     induction i with
     | ops l =>
      intro m s x m' s' h
      simp only [icodeD] at h
      split at h
      ·obtain ⟨⟨m2, s2⟩, g1, g2⟩ := opt_map h
       cases g2
       have : ∀ {l : List Step} {m s m' s'}, iopsD l m s = some (m', s') → s'.d = s.d := by
        intro l
        induction l with
        | nil => intro m s m' s' h; simp only [iopsD, Option.some.injEq, Prod.mk.injEq] at h; rw [← h.2]
        | cons y l ih =>
         intro m s m' s' h
         simp only [iopsD] at h
         repeat' (split at h)
         all_goals first
          | (cases h; done)
          | (have h2 := ih h; exact h2)
       rw [this g1]
      ·obtain ⟨⟨x2, s2⟩, g1, g2⟩ := opt_map h
       cases g2
       exact icode_d g1
     | seq i1 i2 j1 j2 =>
      intro m s x m' s' h
      simp only [icodeD] at h
      split at h
      ·rename_i g; rw [j2 h, j1 g]
      ·exact j1 h
     | cond c i1 i2 j1 j2 =>
      intro m s x m' s' h
      simp only [icodeD] at h
      split at h
      ·exact j1 h
      ·exact j2 h
      ·cases h
     | _ =>
      intro m s x m' s' h
      simp only [icodeD] at h
      obtain ⟨⟨x2, s2⟩, g1, g2⟩ := opt_map h
      cases g2
      exact icode_d g1
    rw [this hr, hd]
   ·have : x = x1 ∧ m' = m1 ∧ s' = s1 := by cases x1 <;> first | exact (hx rfl).elim | (cases hi; exact ⟨rfl, rfl, rfl⟩)
    obtain ⟨rfl, rfl, rfl⟩ := this
    have hq := hQ e a1 u1 w1 ⟨ι1, k1, k2, k3, k4, k5, k6⟩
    have hne : e ≠ .normal := by
     intro he
     rw [he] at k5
     cases x with
     | normal => exact hx rfl
     | brk i => exact k5
     | ret => exact k5
     | pan v => exact k5
    cases e <;> first | exact (hne rfl).elim | exact hq
 | cond c c1 c2 ih1 ih2 =>
  intro ic hc s ι a w m u hd hk hsz hE hD hM x m' s' Q hi hQ
  simp only [cic] at hc
  split at hc
  case h_2 => cases hc
  rename_i co i1 i2 hco h1 h2
  cases hc
  simp only [icodeD] at hi
  have hr := (opdRep_of hE).1 _ _ hco
  split at hi
  ·rename_i hb
   rw [hb] at hr
   exact wpSIn_cond (t := true) (rep_ofbool hr) (ih1 h1 hd hk hsz hE hD hM hi hQ)
  ·rename_i hb
   rw [hb] at hr
   exact wpSIn_cond (t := false) (rep_ofbool hr) (ih2 h2 hd hk hsz hE hD hM hi hQ)
  ·cases hi
 | scope b ih =>
  intro ic hc s ι a w m u hd hk hsz hE hD hM x m' s' Q hi hQ
  simp only [cic] at hc
  refine wpSIn_scope (ih hc hd hk hsz hE hD hM hi fun e a1 u1 w1 hp => ?_)
  have hq := hQ e a1 u1 w1 hp
  obtain ⟨ι1, k1, k2, k3, k4, k5, k6⟩ := hp
  have := exRel_exit k5
  cases e <;> first | exact hq | exact (this.1 _ rfl).elim
 | block id b =>
  intro ic hc s ι a w m u hd hk hsz hE hD hM x m' s' Q hi hQ
  have hc0 := hc
  simp only [cic] at hc
  obtain ⟨ib, hib, rfl⟩ := opt_map hc
  exact plain hc0 hd hk hsz hE hD hM (by simpa only [icodeD] using hi) hQ
 | loop b =>
  intro ic hc s ι a w m u hd hk hsz hE hD hM x m' s' Q hi hQ
  have hc0 := hc
  simp only [cic] at hc
  obtain ⟨ib, hib, rfl⟩ := opt_map hc
  exact plain hc0 hd hk hsz hE hD hM (by simpa only [icodeD] using hi) hQ
 | rangeFunc f ps asg body =>
  intro ic hc s ι a w m u hd hk hsz hE hD hM x m' s' Q hi hQ
  have hc0 := hc
  simp only [cic] at hc
  split at hc
  case h_2 => cases hc
  split at hc
  case isFalse => cases hc
  cases hc
  exact plain hc0 hd hk hsz hE hD hM (by simpa only [icodeD] using hi) hQ
 | skip | label | exit | ret =>
  intro ic hc s ι a w m u hd hk hsz hE hD hM x m' s' Q hi hQ
  have hc0 := hc
  simp only [cic, Option.some.injEq] at hc
  subst hc
  exact plain hc0 hd hk hsz hE hD hM (by simpa only [icodeD] using hi) hQ
 | _ =>
  intro ic hc s ι a w m u hd hk hsz hE hD hM x m' s' Q hi hQ
  simp only [cic, Option.some.injEq] at hc
  subst hc
  simp [icodeD, stuck, ev] at hi
end Go.Idl
end
