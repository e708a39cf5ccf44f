/- Texts of the proof. -/
import Derived.Test.YtbngfhkhdilfdaaGreatDoorI7
import Derived.Test.YtbngfhkhdilfdaaGreatDoorI3g
import Derived.ReadAgain
import Derived.ChangeSame
import Derived.ChangeAgain
import Derived.ChangeArms
import Derived.Laws.RangeString
import Derived.Attr
set_option linter.unusedVariables false
set_option linter.unusedSimpArgs false
set_option maxRecDepth 100000
section
namespace Go.Idl
structure TblOkG (P : Program) (G : World → Prop) (T : Tbl) : Prop where
 fn : ∀ f fn, T.fn f = some fn → ∃ F : Func, P.funcs[f]? = some F ∧ cfn P F = some fn
 prim : ∀ f p, T.prim f = some p → CalleeOk P f ∧ ∀ args v, p args = some v → (∀ ι rargs, RepL ι args rargs → rargs = args) ∧ (∀ ι, Rep ι v v) ∧
  ∀ w, G w → Calls P f args.toArray w (fun e w' => e = .returned v ∧ Grew w w' ∧ w'.os = w.os ∧ w'.tape = w.tape ∧ w'.output = w.output)
variable {P : Program} {base : Nat} {w0 : World} {G : World → Prop}
theorem cfn_spec {F : Func} {fn : IFn} (h : cfn P F = some fn) : ∃ c, F.body = some c ∧ cic P F.ntmps c = some fn.code ∧ crv P F.results.toList = some fn.res ∧ fn.nt = F.ntmps ∧ (F.name == "runtime.NumGoroutine") = false := by
 unfold cfn at h
 split at h
 ·cases h
 ·rename_i c hb
  split at h
  case h_2 => cases h
  rename_i ic r h1 h2
  split at h
  ·cases h
  ·rename_i hn
   cases h
   exact ⟨c, hb, h1, h2, rfl, by simpa using hn⟩
theorem enter_rep {ι : Inj} {args rargs : List Value} (h : RepL ι args rargs) (m : Nat) : ERep ι (args0 args) (rargs.toArray ++ Array.replicate m undef) := by
 intro j
 simp only [args0, List.getD_eq_getElem?_getD, Array.getD_eq_getD_getElem?, Array.getElem?_append, List.size_toArray, List.getElem?_toArray, Array.getElem?_replicate]
 by_cases hj : j < rargs.length
 ·rw [if_pos hj]
  rw [List.getElem?_eq_getElem (show j < args.length by rw [h.1]; exact hj), List.getElem?_eq_getElem hj]
  exact h.2 j _ _ (List.getElem?_eq_getElem (by rw [h.1]; exact hj)) (List.getElem?_eq_getElem hj)
 ·rw [if_neg hj, List.getElem?_eq_none (by rw [h.1]; omega)]
  split <;> exact rep_undef
theorem Ok.grew {ι : Inj} {h : Heap} {w w' : World} (hk : Ok P base w0 ι h w) (hg : Grew w w') : Ok P base w0 ι h w' :=
 ⟨hk.sim.grew hg, Nat.le_trans hk.size hg.1, fun k hk' => by rw [hg.2 k (Nat.lt_of_lt_of_le hk' hk.size)]; exact hk.old k hk'⟩
theorem idefer_sound {call : CallF} (hcall : CallOk P base w0 call) {T : Tbl} (hT : TblOkG P G T) {fn : Func} {tmps : Array Value} {R : Ending → World → Prop} {k n : Nat} :
 ∀ (ds : List Dfr) {ds' : List Deferred} {m : Option Value} {u : FrameMode} {h : Heap} {ι : Inj} {w : World}, Ok P base w0 ι h w → DL ι ds ds' → MRel ι m u → ∀ {m' : Option Value} {h' : Heap}, idefer call T n ds m h = some (m', h') →
  (∀ ι' w' u', Ok P base w0 ι' h' w' → Ext ι h w ι' h' w' → MRel ι' m' u' → LeavesIn Fence.wide k P fn tmps R [] u' w') → LeavesInM Fence.wide k P fn tmps R ds' u w
 | [], [], m, u, h, ι, w, hk, hD, hM, m', h', hi, hQ => by
  simp only [idefer, Option.some.injEq, Prod.mk.injEq] at hi
  obtain ⟨rfl, rfl⟩ := hi
  exact hQ ι w u hk (.refl _ _ _) hM
 | [], _ :: _, m, u, h, ι, w, hk, hD, hM, m', h', hi, hQ => hD.elim
 | .mark b :: ds, [], m, u, h, ι, w, hk, hD, hM, m', h', hi, hQ => hD.elim
 | .fn f args :: ds, [], m, u, h, ι, w, hk, hD, hM, m', h', hi, hQ => hD.elim
 | .mark b :: ds, d :: ds', m, u, h, ι, w, hk, hD, hM, m', h', hi, hQ => by
  have hrun : u ≠ .run := by
   cases m with
   | none => rw [show u = .returning from hM]; simp
   | some v => obtain ⟨c, rfl, _⟩ := hM; simp
  obtain ⟨⟨i, hι, ht⟩, hD'⟩ := hD
  simp only [idefer] at hi
  split at hi
  case h_2 => cases hi
  rename_i hb
  obtain ⟨o', ho', hr⟩ := hk.sim.blk b _ i hb hι
  have hobj : o' = .deferred (some []) := by
   unfold BRel at hr
   split at hr <;> simp_all
  subst hobj
  have hm : mine h b := by unfold mine; rw [hb]; trivial
  obtain ⟨hs2, he2⟩ := hk.sim.turn hι hm .dead (.deferred none) trivial (w' := w.putObj i.blk (.deferred none))
   (by simp [World.putObj, (Array.getElem?_eq_some_iff.1 ho').1]) (fun k hk => by simp [World.putObj, Array.getElem?_setIfInBounds, Ne.symm hk]) (by simp [World.putObj]) rfl rfl rfl
  refine ⟨hrun, .inl ⟨i.blk, _, ht, run_takeDeferred ho', ?_⟩⟩
  exact idefer_sound hcall hT ds (hk.ext hs2 he2) hD' hM hi fun ι' w' u' h1 h2 h3 => hQ ι' w' u' h1 (he2.trans h2) h3
 | .fn f args :: ds, d :: ds', m, u, h, ι, w, hk, hD, hM, m', h', hi, hQ => by
  have hrun : u ≠ .run := by
   cases m with
   | none => rw [show u = .returning from hM]; simp
   | some v => obtain ⟨c, rfl, _⟩ := hM; simp
  obtain ⟨⟨cap, ht, hargs⟩, hD'⟩ := hD
  simp only [idefer] at hi
  split at hi
  ·cases hi
  rename_i fn2 hfn2
  obtain ⟨F2, hF2, hc2⟩ := hT.fn f fn2 hfn2
  obtain ⟨c, hb, h1, h2, h3, h4⟩ := cfn_spec hc2
  split at hi
  ·cases hi
  rename_i hlen
  have hok : CalleeOk P f := ⟨F2, hF2, by rw [hb]; rfl, h4⟩
  refine ⟨hrun, .inr ⟨fun h => by simp [Fence.wide] at h, .func f, cap, f, d.args ++ cap, ht, by rw [ht]; exact hok.run _ _, fun g _ => trivial, ?_⟩⟩
  refine callsDIn_of_wpSIn hF2 hb trivial fun c₀ cs hmode => ?_
  have hc0 : c₀ = { c₀ with mode := u } := by cases c₀; simp only at hmode; subst hmode; rfl
  rw [hc0]
  have hal : args.length = (d.args ++ cap).size := by have := hargs.1; simpa using this
  have hE0 := enter_rep hargs (F2.ntmps - (d.args ++ cap).size)
  have hta : (d.args.toList ++ cap.toList).toArray = d.args ++ cap := by apply Array.toList_inj.1; simp
  rw [hta] at hE0
  have hsz0 : (d.args ++ cap ++ Array.replicate (F2.ntmps - (d.args ++ cap).size) undef).size = F2.ntmps := by
   simp only [Array.size_append, Array.size_replicate] at hal ⊢; omega
  have after : ∀ {x : Ex} {m1 : Option Value} {e1 : Env} {h1' : Heap}, (x = .normal ∨ x = .ret) → (match resAll e1 h1' fn2.res with | some _ => idefer call T n ds m1 h1' | none => none) = some (m', h') →
   ∀ e a' u' w', ExPostD P base w0 F2.ntmps ι h w x m1 ⟨e1, h1', some []⟩ e a' u' w' → bodyPostS P F2 c₀ cs (fun
    | .returned _, u', w' => LeavesInM Fence.wide k P fn tmps R ds' (settle u') w'
    | .panicked chain, u', w' => LeavesInM Fence.wide k P fn tmps R ds' (raised u' chain) w'
    | .outgrown, _, w' => R .outgrown w') e a' ({ c₀ with mode := u' } :: cs) w' := by
   intro x m1 e1 h1' hx hres e a' u' w' hp
   obtain ⟨ι1, k1, k2, k3, k4, k5, k6⟩ := hp
   split at hres
   case h_2 => cases hres
   rename_i vs hvs
   have hE1 : ERep ι1 e1 a'.tmps ∧ (e = .normal ∨ e = .ret) := by
    rcases hx with rfl | rfl
    ·cases e <;> simp only [ExRel] at k5; exact ⟨k5, .inl rfl⟩
    ·cases e <;> simp only [ExRel] at k5; exact ⟨k5, .inr rfl⟩
   obtain ⟨v', hv1, _⟩ := results_sound k1.sim h2 (fun r _ => rvGood_all hE1.1 r) hvs
   have hdn : a'.defers = [] := by
    cases hdd : a'.defers with
    | nil => rfl
    | cons => rw [hdd] at k4; exact k4.elim
   have hrest : LeavesInM Fence.wide k P fn tmps R ds' (settle u') w' :=
    idefer_sound hcall hT ds k1 (hD'.mono k2.inj) k6.settle hres fun ι' w2 u2 g1 g2 g3 => hQ ι' w2 u2 g1 (k2.trans g2) g3
   rcases hE1.2 with rfl | rfl
   ·exact ⟨hdn, u', rfl, v', hv1, hrest⟩
   ·exact ⟨hdn, u', rfl, v', hv1, hrest⟩
  have hdd0 : DRep ι (some []) ([] : List Deferred) := trivial
  split at hi
  ·rename_i m1 e1 h1' hcd
   exact icodeD_sound hcall h1 (s := ⟨args0 args, h, some []⟩) (a := { tmps := d.args ++ cap ++ Array.replicate (F2.ntmps - (d.args ++ cap).size) undef, defers := [] }) rfl hk hsz0 hE0 hdd0 hM.toD hcd (after (.inl rfl) hi)
  ·rename_i m1 e1 h1' hcd
   exact icodeD_sound hcall h1 (s := ⟨args0 args, h, some []⟩) (a := { tmps := d.args ++ cap ++ Array.replicate (F2.ntmps - (d.args ++ cap).size) undef, defers := [] }) rfl hk hsz0 hE0 hdd0 hM.toD hcd (after (.inr rfl) hi)
  ·cases hi
theorem ileave_sound {call : CallF} (hcall : CallOk P base w0 call) {T : Tbl} (hT : TblOkG P G T) {F2 : Func} {fn : IFn} (hcr : crv P F2.results.toList = some fn.res) {n k : Nat} {m : Option Value} {s : St} {ι0 : Inj} {h0 : Heap} {wi : World} {out : Out} {h' : Heap}
 (hi : ileave call T n fn m s = some (out, h')) {ι : Inj} {a : Act} {w : World} (hk : Ok P base w0 ι s.h w) (he0 : Ext ι0 h0 wi ι s.h w) (hD : DRep ι s.d a.defers) {u : FrameMode} (hM : MRel ι m u) (hE : m = none → ERep ι s.e a.tmps) (hP : PERep ι s.e a.tmps) :
 LeavesInM Fence.wide k P F2 a.tmps (CallPost P base w0 ι0 h0 wi out h') a.defers u w := by
 unfold ileave at hi
 split at hi
 ·cases hi
 rename_i ds hds
 rw [hds] at hD
 cases hid : idefer call T n ds m s.h with
 | none => rw [hid] at hi; cases hi
 | some q =>
  obtain ⟨m', h1⟩ := q
  rw [hid] at hi
  cases m' with
  | some v =>
   simp only [Option.some.injEq, Prod.mk.injEq] at hi
   obtain ⟨rfl, rfl⟩ := hi
   refine idefer_sound hcall hT ds hk hD hM hid fun ι' w' u' k1 k2 k3 => ?_
   obtain ⟨c, rfl, c1, c2, c3⟩ := k3
   exact ⟨ι', k1, he0.trans k2, c1, c2, c3⟩
  | none =>
   simp only at hi
   obtain ⟨vs, hvs, hp⟩ := opt_map hi
   cases hp
   refine idefer_sound hcall hT ds hk hD hM hid fun ι' w' u' k1 k2 k3 => ?_
   have : u' = .returning := k3
   subst this
   have hv : ∃ v', (results F2 a.tmps).run P w' = .ok v' w' ∧ Rep ι' (tup vs) v' := by
    cases m with
    | none => exact results_sound k1.sim hcr (fun r _ => rvGood_all ((hE rfl).mono k2.inj) r) hvs
    | some v =>
     have hP' : PERep ι' s.e a.tmps := fun j => (hP j).imp id fun h => h.mono k2.inj
     obtain ⟨g1, g2⟩ := resAllP_good hP' hvs
     exact results_sound k1.sim hcr g2 g1
   obtain ⟨v', hv1, hv2⟩ := hv
   exact ⟨v', hv1, ι', k1, he0.trans k2, hv2⟩
theorem setPs_rep {ι : Inj} : ∀ {ps : List Nat} {args rargs : List Value} {e : Env} {t : Array Value}, RepL ι args rargs → args.length = ps.length → (∀ p ∈ ps, p < t.size) → ERep ι e t →
 ERep ι (setPs e ps args) ((ps.zip rargs).foldl (fun t (p : Nat × Value) => t.setIfInBounds p.1 p.2) t) ∧ ((ps.zip rargs).foldl (fun t (p : Nat × Value) => t.setIfInBounds p.1 p.2) t).size = t.size
 | [], [], [], e, t, _, _, _, hE => ⟨hE, rfl⟩
 | p :: ps, v :: args, v' :: rargs, e, t, hR, hl, hp, hE => by
  obtain ⟨h1, h2⟩ := hR.head
  have := setPs_rep (ps := ps) (args := args) (rargs := rargs) (e := upd e p v) (t := t.setIfInBounds p v') h2 (by simpa using hl) (fun q hq => by simpa using hp q (by simp [hq])) (hE.put (hp p (by simp)) h1)
  simpa [setPs, List.zip_cons_cons] using this
 | [], v :: args, _, e, t, _, hl, _, _ => by simp at hl
 | p :: ps, [], _, e, t, _, hl, _, _ => by simp at hl
 | [], [], v :: rargs, e, t, hR, _, _, _ => by have := hR.1; simp at this
 | p :: ps, v :: args, [], e, t, hR, _, _, _ => by have := hR.1; simp at this
theorem icall_soundG {T : Tbl} (hT : TblOkG P G T) (hG : ∀ {ι : Inj} {h : Heap} {w : World}, Ok P base w0 ι h w → G w) : ∀ n, CallOk P base w0 (icall T n)
 | 0 => ⟨fun f args h out h' hi => (by cases hi), fun l args h out h' hi => (by cases hi)⟩
 | n + 1 => by
  have ih : CallOk P base w0 (icall T n) := icall_soundG hT hG n
  refine ⟨fun f args h out h' hi => ?_, fun l args h out h' hi ι w rargs i hk hargs hι => ?_⟩
  ·-- a function
   simp only [icall] at hi
   split at hi
   ·rename_i fn hfn
    obtain ⟨F2, hF2, hc2⟩ := hT.fn f fn hfn
    obtain ⟨c, hb, h1, h2, h3, h4⟩ := cfn_spec hc2
    split at hi
    ·cases hi
    rename_i hlen
    refine ⟨⟨F2, hF2, by rw [hb]; rfl, h4⟩, fun ι w rargs hk hargs => ?_⟩
    refine callsIn_wide.1 (callsIn_of_wp_marks (n := 0) hF2 hb trivial ?_)
    have hal := hargs.1
    have hE0 := enter_rep hargs (F2.ntmps - rargs.toArray.size)
    have hsz0 : (rargs.toArray ++ Array.replicate (F2.ntmps - rargs.toArray.size) undef).size = F2.ntmps := by simp; omega
    have hdd0 : DRep ι (some []) ([] : List Deferred) := trivial
    have hF : FOk Fence.wide (some ([] : List Dfr)) := .inl ⟨rfl, rfl⟩
    split at hi
    ·rename_i s1 hcd
     refine icode_sound ih h1 (s := ⟨args0 args, h, some []⟩) hF hk hsz0 hE0 hdd0 hcd fun e a' w' hp => ?_
     obtain ⟨rfl, ι1, k1, k2, k3, k4, k5⟩ := hp.normal
     exact ileave_sound ih hT h2 hi k1 k2 k4 (m := none) rfl (fun _ => k5) k5.toP
    ·rename_i s1 hcd
     refine icode_sound ih h1 (s := ⟨args0 args, h, some []⟩) hF hk hsz0 hE0 hdd0 hcd fun e a' w' hp => ?_
     obtain ⟨ι1, k1, k2, k3, k4, k5⟩ := hp
     cases e <;> simp only [ExRel] at k5
     exact ileave_sound ih hT h2 hi k1 k2 k4 (m := none) rfl (fun _ => k5) k5.toP
    ·rename_i v s1 hcd
     refine icode_sound ih h1 (s := ⟨args0 args, h, some []⟩) hF hk hsz0 hE0 hdd0 hcd fun e a' w' hp => ?_
     obtain ⟨ι1, k1, k2, k3, k4, k5⟩ := hp
     cases e <;> simp only [ExRel] at k5
     rename_i chain
     rcases chain with _ | ⟨c1, _ | _⟩
     ·exact k5.elim
     ·exact ileave_sound ih hT h2 hi k1 k2 k4 (m := some v) ⟨c1, rfl, k5.1, k5.2.1, k5.2.2.1⟩ nofun k5.2.2.2
     ·exact k5.elim
    ·cases hi
   ·split at hi
    case h_2 => cases hi
    rename_i p hp
    obtain ⟨v, hv, hq⟩ := opt_map hi
    cases hq
    obtain ⟨hok, hpr⟩ := hT.prim f p hp
    obtain ⟨g1, g2, g3⟩ := hpr args v hv
    refine ⟨hok, fun ι w rargs hk hargs => ?_⟩
    rw [g1 ι rargs hargs]
    refine (g3 w (hG hk)).mono fun e w' hh => ?_
    obtain ⟨rfl, hg, e1, e2, e3⟩ := hh
    exact ⟨ι, hk.grew hg, ⟨.refl ι, ⟨e1, e2, e3, hg.1, fun k hk _ => hg.2 k hk⟩, fun r _ h => h, Nat.le_refl _, fun _ _ h => .inl h⟩, g2 ι⟩
  ·-- a round
   simp only [icall] at hi
   split at hi
   case h_2 => cases hi
   rename_i L hL
   split at hi
   case isFalse => cases hi
   rename_i hlen
   obtain ⟨o', ho', hr⟩ := hk.sim.blk l _ i hL hι
   cases o' <;> simp only [BRel] at hr
   rename_i L'
   obtain ⟨b1, b2, b3, b4, b5, b6, b7, b8⟩ := hr
   have hpl : rargs.length = L'.params.size := by rw [← hargs.1, hlen, b5]; simp
   refine ⟨L', ho', hpl, fun m => ?_⟩
   obtain ⟨hE0, hsz0⟩ := setPs_rep hargs hlen b6 b4
   have hfold : ((L'.params.zip rargs.toArray).foldl (fun tmps (t, a) => tmps.setIfInBounds t a) L'.tmps) = ((L.ps.zip rargs).foldl (fun t (p : Nat × Value) => t.setIfInBounds p.1 p.2) L'.tmps) := by
    rw [b5, ← Array.foldl_toList]
    simp
   rw [hfold]
   refine roundIn_of_wpIn trivial ?_
   have hFr : FOk (Fence.wide.inRound i.blk) (none : Option (List Dfr)) := .inr ⟨i.blk, rfl, rfl⟩
   have hget : ∀ {ι1 : Inj} {h1 : Heap} {w1 : World} {L1 : LoopB}, Ok P base w0 ι1 h1 w1 → h1.get l = some (.loop L1) → ι1 l = some i → ∃ L2 : Go.Loop, w1.heap[i.blk]? = some (.loop L2) ∧ BRel (CRel P) base ι1 i (.loop L1) (.loop L2) ∧ (Instr.getLoop i.blk).run P w1 = .ok L2 w1 := by
    intro ι1 h1 w1 L1 hk1 hg1 hi1
    obtain ⟨o2, ho2, hr2⟩ := hk1.sim.blk l _ i hg1 hi1
    cases o2 with
    | loop L2 =>
     refine ⟨L2, ho2, hr2, ?_⟩
     have hg : (getObj i.blk).run P w1 = .ok (.loop L2) w1 := by simp [getObj, Sem.run, ho2]
     simp [Instr.getLoop, hg]
    | _ => simp only [BRel] at hr2
   cases hasg : icode (icall T n) n L.asg ⟨setPs L.e L.ps args, h, none⟩ with
   | none => rw [hasg] at hi; cases hi
   | some q =>
    obtain ⟨x1, s1⟩ := q
    rw [hasg] at hi
    refine icode_sound ih b7 (s := ⟨setPs L.e L.ps args, h, none⟩) (a := { tmps := _, defers := [] }) hFr hk hsz0 hE0 (rfl : DRep ι none []) hasg fun e a1 w1 hp => ?_
    cases x1 <;> first | (cases hi; done) | skip
    obtain ⟨rfl, ι1, k1, k2, k3, k4, k5⟩ := hp.normal
    simp only at hi
    split at hi
    case h_2 => cases hi
    rename_i L1 hL1
    split at hi
    case isFalse => cases hi
    rename_i hst
    obtain ⟨L2, hL2, hr2, hgl⟩ := hget k1 hL1 (k2.inj _ _ hι)
    simp only [BRel] at hr2
    obtain ⟨c1, c2, c3, c4, c5, c6, c7, c8⟩ := hr2
    have hst2 : L2.state = .ready := by
     cases hh : L2.state <;> rw [hst, hh] at c2 <;> first | rfl | exact c2.elim
    have hm1 : mine s1.h l := by unfold mine; rw [hL1]; trivial
    obtain ⟨w2, hrun2, hs2, he2⟩ := Sim.setObj (P := P) k1.sim (k2.inj _ _ hι) hm1 (.loop { L1 with st := .busy }) hL2 (fun c t f => by simp) (o' := .loop { L2 with state := .busy }) ⟨c1, trivial, c3, c4, c5, c6, c7, c8⟩
    refine ⟨w2, ?_, ?_⟩
    ·simp [Instr.beginRound, hgl, hrun2, hst2]
    ·have hk2 := k1.ext hs2 he2
     have hn1 : s1.d = none := by have := icode_d hasg; simpa using this
     cases hbody : icode (icall T n) n L.body { s1 with h := s1.h.set l (.loop { L1 with st := .busy }) } with
     | none => rw [hbody] at hi; cases hi
     | some q =>
      obtain ⟨x2, s2⟩ := q
      rw [hbody] at hi
      refine icode_sound ih b8 (s := { s1 with h := s1.h.set l (.loop { L1 with st := .busy }) }) (by rw [hn1]; exact hFr) hk2 (by rw [k3]) (k5.mono he2.inj) (k4.mono he2.inj) hbody fun e a2 w3 hp3 => ?_
      obtain ⟨ι3, j1, j2, j3, j4, j5⟩ := hp3
      have hι3 := j2.inj _ _ (he2.inj _ _ (k2.inj _ _ hι))
      have eAll := (k2.trans he2).trans j2
      have fin : ∀ {L3 : LoopB} (st : LSt) (pd : Option Jmp) (st' : LoopState) (pd' : Option Code), s2.h.get l = some (.loop L3) → LRep st st' → PRep pd pd' → ∃ (L4 : Go.Loop) (w4 : World), (Instr.getLoop i.blk).run P w3 = .ok L4 w3 ∧
       (setObj i.blk (.loop { L4 with state := st', pending := pd' })).run P w3 = .ok () w4 ∧ ∀ out, (∃ bb, out = Out.ret (.bool bb)) → ∃ bb, out = Out.ret (.bool bb) ∧ CallPost P base w0 ι h w out (s2.h.set l (.loop { L3 with st := st, pend := pd })) (.returned (.bool bb)) w4 := by
       intro L3 st pd st' pd' hg3 hl hpp
       obtain ⟨L4, hL4, hr4, hgl4⟩ := hget j1 hg3 hι3
       simp only [BRel] at hr4
       obtain ⟨d1, d2, d3, d4, d5, d6, d7, d8⟩ := hr4
       have hm3 : mine s2.h l := by unfold mine; rw [hg3]; trivial
       obtain ⟨w4, hrun4, hs4, he4⟩ := Sim.setObj (P := P) j1.sim hι3 hm3 (.loop { L3 with st := st, pend := pd }) hL4 (fun c t f => by simp) (o' := .loop { L4 with state := st', pending := pd' }) ⟨d1, hl, hpp, d4, d5, d6, d7, d8⟩
       exact ⟨L4, w4, hgl4, hrun4, fun out ⟨bb, ho⟩ => ⟨bb, ho, ι3, j1.ext hs4 he4, eAll.trans he4, by rw [ho]; exact .bool bb⟩⟩
      cases x2 with
      | pan v => cases hi
      | normal =>
       simp only at hi
       split at hi
       case h_2 => cases hi
       rename_i L3 hL3
       cases hi
       cases e <;> simp only [ExRel] at j5
       obtain ⟨L4, w4, g1, g2, g3⟩ := fin .ready none .ready none hL3 trivial trivial
       obtain ⟨bb, hbb, hpost⟩ := g3 _ ⟨true, rfl⟩
       cases hbb
       refine ⟨.bool true, w4, ?_, hpost⟩
       simp [Instr.endRound, g1, g2]
      | ret =>
       simp only at hi
       split at hi
       case h_2 => cases hi
       rename_i L3 hL3
       cases hi
       cases e <;> simp only [ExRel] at j5
       obtain ⟨L4, w4, g1, g2, g3⟩ := fin .done (some .ret) .done (some .ret) hL3 trivial trivial
       obtain ⟨bb, hbb, hpost⟩ := g3 _ ⟨false, rfl⟩
       cases hbb
       refine ⟨.bool false, w4, ?_, hpost⟩
       simp [Instr.endRound, g1, g2]
      | brk id =>
       simp only at hi
       split at hi
       case h_2 => cases hi
       rename_i L3 hL3
       cases hi
       cases e <;> simp only [ExRel] at j5
       obtain ⟨rfl, j5⟩ := j5
       obtain ⟨L4, w4, g1, g2, g3⟩ := fin .done (some (.brk id)) .done (some (.exit id)) hL3 trivial rfl
       obtain ⟨bb, hbb, hpost⟩ := g3 _ ⟨false, rfl⟩
       cases hbb
       refine ⟨.bool false, w4, ?_, hpost⟩
       simp [Instr.endRound, g1, g2]
end Go.Idl
end

section
namespace Go.Idl
def CallLe (f g : CallF) : Prop := ∀ c a h r, f c a h = some r → g c a h = some r
theorem afterCall_mono {dst : Option Nat} {s : St} {o o' : Option (Out × Heap)} {r : Option Value × St} (ho : ∀ q, o = some q → o' = some q) (h : afterCall dst s o = some r) : afterCall dst s o' = some r := by
 cases o with
 | none => simp [afterCall] at h
 | some q => rw [ho q rfl]; exact h
theorem istm_mono {f g : CallF} (hc : CallLe f g) {dst : Option Nat} {m : Stm} {s : St} {r : Option Value × St} (h : istm f dst m s = some r) : istm g dst m s = some r := by
 cases m with
 | op o => exact h
 | call k args => exact afterCall_mono (fun q hq => hc _ _ _ _ hq) h
 | callv x args =>
  simp only [istm] at h ⊢
  split at h
  ·exact afterCall_mono (fun q hq => hc _ _ _ _ hq) h
  ·cases h
 | defer x args => exact h
 | panic x => exact h
theorem iops_mono {f g : CallF} (hc : CallLe f g) : ∀ {l : List Step} {s : St} {r : Option Value × St}, iops f l s = some r → iops g l s = some r
 | [], s, r, h => h
 | x :: rest, s, r, h => by
  simp only [iops] at h ⊢
  split
  ·rename_i hw
   rw [if_pos hw] at h
   cases hm : istm f x.dst x.stm s with
   | none => rw [hm] at h; cases h
   | some q =>
    rw [hm] at h
    rw [istm_mono hc hm]
    obtain ⟨v, s1⟩ := q
    cases v with
    | none => exact iops_mono hc h
    | some v => exact h
  ·rename_i hw
   rw [if_neg hw] at h
   exact iops_mono hc h
theorem idraw_mono {f g : CallF} (hc : CallLe f g) {anc : List (List Nat)} {ds : List Nat} : ∀ {l : List Step} {i : Nat} {rs : List (Nat × Loc)} {es : List (Nat × Heap × Heap)} {s : St} {r : Option Value × St}, idraw f anc ds l i rs es s = some r → idraw g anc ds l i rs es s = some r
 | [], i, rs, es, s, r, h => h
 | x :: rest, i, rs, es, s, r, h => by
  simp only [idraw] at h ⊢
  by_cases hw : wantedE s.e x.grd = true
  ·rw [if_pos hw] at h ⊢
   cases hm : istm f x.dst x.stm s with
   | none => rw [hm] at h; cases h
   | some q =>
    rw [hm] at h
    rw [istm_mono hc hm]
    obtain ⟨v, s1⟩ := q
    cases v with
    | none =>
     simp only at h ⊢
     cases hk : kdStm x.stm <;> rw [hk] at h <;> simp only at h ⊢
     ·exact idraw_mono hc h
     ·split at h
      ·rename_i h1; rw [if_pos h1]; exact idraw_mono hc h
      ·cases h
     ·exact idraw_mono hc h
     ·split at h
      ·rename_i h1; rw [if_pos h1]; exact idraw_mono hc h
      ·cases h
    | some v => exact h
  ·rw [if_neg hw] at h ⊢
   exact idraw_mono hc h
theorem loopCode_mono {f g : IC → St → Option (Ex × St)} {b : IC} (hf : ∀ s r, f b s = some r → g b s = some r) : ∀ {n m : Nat} {s : St} {r : Ex × St}, n ≤ m → loopCode f b n s = some r → loopCode g b m s = some r
 | 0, _, s, r, _, h => by cases h
 | n + 1, 0, s, r, hl, _ => by omega
 | n + 1, m + 1, s, r, hl, h => by
  simp only [loopCode] at h ⊢
  cases hm : f b s with
  | none => rw [hm] at h; cases h
  | some q =>
   rw [hm] at h
   rw [hf _ _ hm]
   obtain ⟨x, s1⟩ := q
   cases x with
   | normal => exact loopCode_mono hf (by omega) h
   | _ => exact h
theorem icode_mono {f g : CallF} (hc : CallLe f g) {n m : Nat} (hl : n ≤ m) : ∀ {c : IC} {s : St} {r : Ex × St}, icode f n c s = some r → icode g m c s = some r := by
 intro c
 induction c with
 | skip => intro s r h; exact h
 | exit id => intro s r h; exact h
 | ret => intro s r h; exact h
 | ops l =>
  intro s r h
  simp only [icode] at h ⊢
  cases hm : iops f l s with
  | none => rw [hm] at h; cases h
  | some q => rw [hm] at h; rw [iops_mono hc hm]; exact h
 | draw l anc =>
  intro s r h
  simp only [icode] at h ⊢
  cases hm : idraw f anc (l.filterMap (·.dst)) l 0 [] [] s with
  | none => rw [hm] at h; cases h
  | some q => rw [hm] at h; rw [idraw_mono hc hm]; exact h
 | seq a b iha ihb =>
  intro s r h
  simp only [icode] at h ⊢
  cases hm : icode f n a s with
  | none => rw [hm] at h; cases h
  | some q =>
   rw [hm] at h
   rw [iha hm]
   obtain ⟨x, s1⟩ := q
   cases x with
   | normal => exact ihb h
   | _ => exact h
 | cond c a b iha ihb =>
  intro s r h
  simp only [icode] at h ⊢
  split at h
  ·exact iha h
  ·exact ihb h
  ·cases h
 | block id b ih =>
  intro s r h
  simp only [icode] at h ⊢
  cases hm : icode f n b s with
  | none => rw [hm] at h; cases h
  | some q => rw [hm] at h; rw [ih hm]; exact h
 | loop b ih =>
  intro s r h
  simp only [icode] at h ⊢
  exact loopCode_mono (f := fun _ s => icode f n b s) (g := fun _ s => icode g m b s) (fun s r h => ih h) hl h
 | rangeF fo ps asg body _ _ =>
  intro s r h
  simp only [icode] at h ⊢
  split at h
  ·cases h
  ·split at h
   ·rename_i k vs htg
    cases hm : f (.fn k) vs ((s.h.new .dfr).new (.loop ⟨.ready, none, s.e, ps, asg, body⟩)) with
    | none => rw [hm] at h; cases h
    | some q => rw [hm] at h; rw [hc _ _ _ _ hm]; exact h
   ·cases h
theorem icodeD_mono {f g : CallF} (hc : CallLe f g) {n m : Nat} (hl : n ≤ m) : ∀ {c : IC} {v : Option Value} {s : St} {r : Ex × Option Value × St}, icodeD f n c v s = some r → icodeD g m c v s = some r := by
 have plain : ∀ {c : IC} {v : Option Value} {s : St} {r : Ex × Option Value × St}, (icode f n c s).map (fun r => (r.1, v, r.2)) = some r → (icode g m c s).map (fun r => (r.1, v, r.2)) = some r := by
  intro c v s r h
  cases hm : icode f n c s with
  | none => rw [hm] at h; cases h
  | some q => rw [hm] at h; rw [icode_mono hc hl hm]; exact h
 intro c
 induction c with
 | ops l =>
  intro v s r h
  simp only [icodeD] at h ⊢
  split at h
  ·rename_i h1; rw [if_pos h1]; exact h
  ·rename_i h1; rw [if_neg h1]; exact plain h
 | seq a b iha ihb =>
  intro v s r h
  simp only [icodeD] at h ⊢
  cases hm : icodeD f n a v s with
  | none => rw [hm] at h; cases h
  | some q =>
   rw [hm] at h
   rw [iha hm]
   obtain ⟨x, v1, s1⟩ := q
   cases x with
   | normal => exact ihb h
   | _ => exact h
 | cond c a b iha ihb =>
  intro v s r h
  simp only [icodeD] at h ⊢
  split at h
  ·exact iha h
  ·exact ihb h
  ·cases h
 | _ => intro v s r h; simp only [icodeD] at h ⊢; exact plain h
theorem idefer_mono {f g : CallF} (hc : CallLe f g) {T : Tbl} {n m : Nat} (hl : n ≤ m) : ∀ {ds : List Dfr} {v : Option Value} {h : Heap} {r : Option Value × Heap}, idefer f T n ds v h = some r → idefer g T m ds v h = some r
 | [], v, h, r, hh => hh
 | .mark b :: ds, v, h, r, hh => by
  simp only [idefer] at hh ⊢
  split at hh
  ·exact idefer_mono hc hl hh
  ·cases hh
 | .fn k args :: ds, v, h, r, hh => by
  simp only [idefer] at hh ⊢
  split at hh
  ·cases hh
  ·split at hh
   ·cases hh
   rename_i fn hfn hlen
   cases hm : icodeD f n fn.code v ⟨args0 args, h, some []⟩ with
   | none => rw [hm] at hh; cases hh
   | some q =>
    rw [hm] at hh
    rw [icodeD_mono hc hl hm]
    simp only [if_neg hlen]
    split at hh
    ·split at hh
     ·exact idefer_mono hc hl hh
     ·cases hh
    ·split at hh
     ·exact idefer_mono hc hl hh
     ·cases hh
    ·cases hh
theorem ileave_mono {f g : CallF} (hc : CallLe f g) {T : Tbl} {n m : Nat} (hl : n ≤ m) {fn : IFn} {v : Option Value} {s : St} {r : Out × Heap} (h : ileave f T n fn v s = some r) : ileave g T m fn v s = some r := by
 unfold ileave at h ⊢
 split at h
 ·cases h
 ·rename_i ds hds
  cases hm : idefer f T n ds v s.h with
  | none => rw [hm] at h; cases h
  | some q => rw [hm] at h; rw [idefer_mono hc hl hm]; exact h
theorem icall_mono1 (T : Tbl) : ∀ n, CallLe (icall T n) (icall T (n + 1))
 | 0 => fun c a h r hh => by cases hh
 | n + 1 => by
  have ih := icall_mono1 T n
  have hl : n ≤ n + 1 := Nat.le_succ n
  intro c a h r hh
  cases c with
  | fn k =>
   rw [icall] at hh ⊢
   split at hh
   ·split at hh
    ·cases hh
    rename_i fn hfn hlen
    rw [if_neg hlen]
    cases hm : icode (icall T n) n fn.code ⟨args0 a, h, some []⟩ with
    | none => rw [hm] at hh; cases hh
    | some q =>
     rw [hm] at hh
     rw [icode_mono ih hl hm]
     obtain ⟨x, s⟩ := q
     cases x with
     | brk i => cases hh
     | _ => exact ileave_mono ih hl hh
   ·exact hh
  | yld l =>
   rw [icall] at hh ⊢
   split at hh
   ·split at hh
    ·rename_i L hL hlen
     rw [if_pos hlen]
     cases hm : icode (icall T n) n L.asg ⟨setPs L.e L.ps a, h, none⟩ with
     | none => rw [hm] at hh; cases hh
     | some q =>
      rw [hm] at hh
      rw [icode_mono ih hl hm]
      obtain ⟨x, s⟩ := q
      cases x with
      | normal =>
       simp only at hh ⊢
       split at hh
       ·split at hh
        ·rename_i L1 hL1 hst
         rw [if_pos hst]
         cases hb : icode (icall T n) n L.body { s with h := s.h.set l (.loop { L1 with st := .busy }) } with
         | none => rw [hb] at hh; cases hh
         | some q =>
          rw [hb] at hh
          rw [icode_mono ih hl hb]
          exact hh
        ·cases hh
       ·cases hh
      | _ => cases hh
    ·cases hh
   ·cases hh
theorem icall_mono (T : Tbl) {n m : Nat} (h : n ≤ m) : CallLe (icall T n) (icall T m) := by
 induction m with
 | zero => have : n = 0 := by omega
           subst this; exact fun _ _ _ _ h => h
 | succ m ih =>
  by_cases e : n = m + 1
  ·subst e; exact fun _ _ _ _ h => h
  ·exact fun c a hh r hr => icall_mono1 T m c a hh r (ih (by omega) c a hh r hr)
end Go.Idl
end

section
namespace Go.Idl
def veq : Value → Value → Bool
 | .bool a, .bool b => a == b
 | .int k a, .int k' b => k == k' && a == b
 | .string a, .string b => decide (a = b)
 | .pointer a, .pointer b => decide (a = b)
 | .slice a l c, .slice b l' c' => decide (a = b) && l == l' && c == c'
 | .map a, .map b => decide (a = b)
 | .nilFunc, .nilFunc => true
 | .nilIface, .nilIface => true
 | .iface t v, .iface t' v' => t == t' && veq v v'
 | .func (.func f) a b, .func (.func g) a' b' => f == g && a.isEmpty && a'.isEmpty && b.isEmpty && b'.isEmpty
 | _, _ => false
theorem veq_eq : ∀ {a b : Value}, veq a b = true → a = b
 | .bool a, b, h => by cases b <;> simp_all [veq]
 | .int k a, b, h => by cases b <;> simp_all [veq]
 | .string a, b, h => by cases b <;> simp_all [veq]
 | .pointer a, b, h => by cases b <;> simp_all [veq]
 | .slice a l c, b, h => by cases b <;> simp_all [veq]
 | .map a, b, h => by cases b <;> simp_all [veq]
 | .nilFunc, b, h => by cases b <;> simp_all [veq]
 | .nilIface, b, h => by cases b <;> simp_all [veq]
 | .iface t v, b, h => by
  cases b <;> first | (simp [veq] at h; done) | skip
  simp only [veq, Bool.and_eq_true, beq_iff_eq] at h
  rw [h.1, veq_eq h.2]
 | .func f x y, b, h => by
  cases b <;> first | (simp [veq] at h; done) | skip
  rename_i g _ _
  cases f <;> cases g <;> simp_all [veq]
 | .agg _, b, h => by cases b <;> simp [veq] at h
 | .tuple _, b, h => by cases b <;> simp [veq] at h
 | .chan _, b, h => by cases b <;> simp [veq] at h
 | .float _ _, b, h => by cases b <;> simp [veq] at h
 | .complex _ _ _, b, h => by cases b <;> simp [veq] at h
def leq : List Value → List Value → Bool
 | [], [] => true
 | a :: as, b :: bs => veq a b && leq as bs
 | _, _ => false
theorem leq_eq : ∀ {a b : List Value}, leq a b = true → a = b
 | [], [], _ => rfl
 | [], _ :: _, h => by simp [leq] at h
 | _ :: _, [], h => by simp [leq] at h
 | a :: as, b :: bs, h => by
  simp only [leq, Bool.and_eq_true] at h
  rw [veq_eq h.1, leq_eq h.2]
def peq : List (Value × Value) → List (Value × Value) → Bool
 | [], [] => true
 | a :: as, b :: bs => veq a.1 b.1 && veq a.2 b.2 && peq as bs
 | _, _ => false
theorem peq_eq : ∀ {a b : List (Value × Value)}, peq a b = true → a = b
 | [], [], _ => rfl
 | [], _ :: _, h => by simp [peq] at h
 | _ :: _, [], h => by simp [peq] at h
 | (a, a') :: as, (b, b') :: bs, h => by
  simp only [peq, Bool.and_eq_true] at h
  rw [veq_eq h.1.1, veq_eq h.1.2, peq_eq h.2]
def blkEq : Option Blk → Option Blk → Bool
 | some (.cells a o e), some (.cells b o' e') => leq a b && o == o' && e == e'
 | some (.map k a), some (.map k' b) => decide (k = k') && peq a b
 | some (.siter s p), some (.siter s' p') => decide (s = s') && p == p'
 | none, none => true
 | _, _ => false
theorem blkEq_eq {a b : Option Blk} (h : blkEq a b = true) : a = b := by
 unfold blkEq at h
 split at h
 ·simp only [Bool.and_eq_true, beq_iff_eq] at h
  obtain ⟨⟨h1, rfl⟩, rfl⟩ := h
  rw [leq_eq h1]
 ·simp only [Bool.and_eq_true, decide_eq_true_eq] at h
  obtain ⟨rfl, h1⟩ := h
  rw [peq_eq h1]
 ·simp only [Bool.and_eq_true, decide_eq_true_eq, beq_iff_eq] at h
  obtain ⟨rfl, rfl⟩ := h
  rfl
 ·rfl
 ·cases h
def lopt : Option (List Value) → Option (List Value) → Bool
 | some a, some b => leq a b
 | none, none => true
 | _, _ => false
theorem lopt_eq {a b : Option (List Value)} (h : lopt a b = true) : a = b := by
 unfold lopt at h
 split at h
 ·rw [leq_eq h]
 ·rfl
 ·cases h
def sameC (h h' : Heap) : Loc → Bool
 | .cells b o n => lopt (h.cells b o n) (h'.cells b o n)
 | .blk b => blkEq (h.get b) (h'.get b)
 | .sz b size => okSz h b size == okSz h' b size
 | .none => true
theorem sameC_at {h h' : Heap} {l : Loc} (hh : sameC h h' l = true) : sameAt h h' l := by
 cases l with
 | cells b o n => exact lopt_eq hh
 | blk b => exact blkEq_eq hh
 | sz b n => simpa [sameC, sameAt] using hh
 | none => trivial
def cdraw (call : CallF) (anc : List (List Nat)) (ds : List Nat) : List Step → Nat → List (Nat × Loc) → List (Nat × Heap × Heap) → St → Option (Option Value × St)
 | [], _, _, _, s => some (none, s)
 | x :: rest, i, rs, es, s =>
  if wantedE s.e x.grd then
   match istm call x.dst x.stm s with
   | some (none, s') =>
    match kdStm x.stm with
    | .P => cdraw call anc ds rest (i + 1) rs es s'
    | .R => if (es.all fun p => (anc.getD i []).contains p.1 || sameC p.2.1 p.2.2 (locStm x.stm s.e)) then cdraw call anc ds rest (i + 1) ((i, locStm x.stm s.e) :: rs) es s' else none
    | .A => cdraw call anc ds rest (i + 1) ((i, .blk s.h.next) :: rs) es s'
    | .E => if (rs.all fun p => (anc.getD i []).contains p.1 || sameC s.h s'.h p.2) then cdraw call anc ds rest (i + 1) rs ((i, s.h, s'.h) :: es) s' else none
   | some (some v, s') => if allAnc i anc rest (i + 1) then some (some v, { s' with e := forget s.e ds }) else none
   | none => none
  else cdraw call anc ds rest (i + 1) rs es { s with e := dstUpd s.e x.dst undef }
def ccode (call : CallF) (n : Nat) : IC → St → Option (Ex × St)
 | .skip, s => some (.normal, s)
 | .ops l, s => exOf (iops call l s)
 | .draw l anc, s => exOf (cdraw call anc (l.filterMap (·.dst)) l 0 [] [] s)
 | .seq a b, s => match ccode call n a s with
  | some (.normal, s') => ccode call n b s'
  | r => r
 | .cond c a b, s => match ev s.e c with
  | .bool true => ccode call n a s
  | .bool false => ccode call n b s
  | _ => none
 | .block id b, s => match ccode call n b s with
  | some (.brk i, s') => if i = id then some (.normal, s') else some (.brk i, s')
  | r => r
 | .loop b, s => loopCode (fun _ s => ccode call n b s) b n s
 | .exit id, s => some (.brk id, s)
 | .ret, s => some (.ret, s)
 | .rangeF f ps asg body, s => match s.d with
  | none => none
  | some ds => match target (ev s.e f) [.func (.yield (s.h.next + 1)) #[] #[]] with
   | some (.fn g, vs) => match call (.fn g) vs ((s.h.new .dfr).new (.loop ⟨.ready, none, s.e, ps, asg, body⟩)) with
    | some (.ret _, h') => match h'.get (s.h.next + 1) with
     | some (.loop L) => if L.st = LSt.busy then none else
      match L.pend with
      | none => some (.normal, { s with h := h'.set (s.h.next + 1) (.loop { L with st := .gone }), d := some (Dfr.mark s.h.next :: ds) })
      | some j => some (jmpEx j, { s with h := h'.set (s.h.next + 1) (.loop { L with st := .gone }), d := some (Dfr.mark s.h.next :: ds) })
     | _ => none
    | some (.pan v, h') => some (.pan v, { s with h := h', d := some (Dfr.mark s.h.next :: ds) })
    | none => none
   | _ => none
def ccodeD (call : CallF) (n : Nat) : IC → Option Value → St → Option (Ex × Option Value × St)
 | .ops l, m, s => if hasRec l then (iopsD l m s).map fun r => (.normal, r.1, r.2) else (ccode call n (.ops l) s).map fun r => (r.1, m, r.2)
 | .seq a b, m, s => match ccodeD call n a m s with
  | some (.normal, m', s') => ccodeD call n b m' s'
  | r => r
 | .cond c a b, m, s => match ev s.e c with
  | .bool true => ccodeD call n a m s
  | .bool false => ccodeD call n b m s
  | _ => none
 | c, m, s => (ccode call n c s).map fun r => (r.1, m, r.2)
def cdefer (call : CallF) (T : Tbl) (n : Nat) : List Dfr → Option Value → Heap → Option (Option Value × Heap)
 | [], m, h => some (m, h)
 | .mark b :: ds, m, h => match h.get b with
  | some .dfr => cdefer call T n ds m (h.set b .dead)
  | _ => none
 | .fn f args :: ds, m, h => match T.fn f with
  | none => none
  | some fn => if fn.nt < args.length then none else match ccodeD call n fn.code m ⟨args0 args, h, some []⟩ with
   | some (.normal, m', ⟨e', h', some []⟩) => match resAll e' h' fn.res with
    | some _ => cdefer call T n ds m' h'
    | none => none
   | some (.ret, m', ⟨e', h', some []⟩) => match resAll e' h' fn.res with
    | some _ => cdefer call T n ds m' h'
    | none => none
   | _ => none
def cleave (call : CallF) (T : Tbl) (n : Nat) (fn : IFn) (m : Option Value) (s : St) : Option (Out × Heap) :=
 match s.d with
 | none => none
 | some ds => match cdefer call T n ds m s.h with
  | some (none, h) => (match m with
   | none => resAll s.e h fn.res
   | some _ => resAllP s.e h fn.res).map fun vs => (.ret (tup vs), h)
  | some (some v, h) => some (.pan v, h)
  | none => none
def ccall (T : Tbl) : Nat → CallF
 | 0, _, _, _ => none
 | n + 1, .fn f, args, h =>
  match T.fn f with
  | some fn => if fn.nt < args.length then none else match ccode (ccall T n) n fn.code ⟨args0 args, h, some []⟩ with
   | some (.normal, s) => cleave (ccall T n) T n fn none s
   | some (.ret, s) => cleave (ccall T n) T n fn none s
   | some (.pan v, s) => cleave (ccall T n) T n fn (some v) s
   | _ => none
  | none => match T.prim f with
   | some p => (p args).map fun v => (.ret v, h)
   | none => none
 | n + 1, .yld l, args, h =>
  match h.get l with
  | some (.loop L) =>
   if args.length = L.ps.length then
    match ccode (ccall T n) n L.asg ⟨setPs L.e L.ps args, h, none⟩ with
    | some (.normal, s) => match s.h.get l with
     | some (.loop L1) =>
      if L1.st = LSt.ready then
       match ccode (ccall T n) n L.body { s with h := s.h.set l (.loop { L1 with st := .busy }) } with
       | some (.pan _, _) => none
       | some (x, s2) => match s2.h.get l with
        | some (.loop L2) => match x with
         | .normal => some (.ret (.bool true), s2.h.set l (.loop { L2 with st := .ready, pend := none }))
         | .ret => some (.ret (.bool false), s2.h.set l (.loop { L2 with st := .done, pend := some .ret }))
         | .brk id => some (.ret (.bool false), s2.h.set l (.loop { L2 with st := .done, pend := some (.brk id) }))
         | .pan _ => none
        | _ => none
       | none => none
      else none
     | _ => none
    | _ => none
   else none
  | _ => none
theorem all_es {l : List (Nat × Heap × Heap)} {L : List Nat} {lc : Loc} (h : (l.all fun p => L.contains p.1 || sameC p.2.1 p.2.2 lc) = true) : ∀ p ∈ l, p.1 ∈ L ∨ sameAt p.2.1 p.2.2 lc := by
 intro p hp
 have := List.all_eq_true.1 h p hp
 simp only [Bool.or_eq_true, List.contains_iff_mem] at this
 exact this.imp id sameC_at
theorem all_rs {l : List (Nat × Loc)} {L : List Nat} {h0 h1 : Heap} (h : (l.all fun p => L.contains p.1 || sameC h0 h1 p.2) = true) : ∀ p ∈ l, p.1 ∈ L ∨ sameAt h0 h1 p.2 := by
 intro p hp
 have := List.all_eq_true.1 h p hp
 simp only [Bool.or_eq_true, List.contains_iff_mem] at this
 exact this.imp id sameC_at
theorem cdraw_ideal {f g : CallF} (hc : CallLe f g) {anc : List (List Nat)} {ds : List Nat} : ∀ {l : List Step} {i : Nat} {rs : List (Nat × Loc)} {es : List (Nat × Heap × Heap)} {s : St} {r : Option Value × St}, cdraw f anc ds l i rs es s = some r → idraw g anc ds l i rs es s = some r
 | [], i, rs, es, s, r, h => h
 | x :: rest, i, rs, es, s, r, h => by
  simp only [cdraw] at h
  simp only [idraw]
  by_cases hw : wantedE s.e x.grd = true
  ·rw [if_pos hw] at h ⊢
   cases hm : istm f x.dst x.stm s with
   | none => rw [hm] at h; cases h
   | some q =>
    rw [hm] at h
    rw [istm_mono hc hm]
    obtain ⟨v, s1⟩ := q
    cases v with
    | none =>
     simp only at h ⊢
     cases hk : kdStm x.stm <;> rw [hk] at h <;> simp only at h ⊢
     ·exact cdraw_ideal hc h
     ·split at h
      ·rename_i h1; rw [if_pos (all_es h1)]; exact cdraw_ideal hc h
      ·cases h
     ·exact cdraw_ideal hc h
     ·split at h
      ·rename_i h1; rw [if_pos (all_rs h1)]; exact cdraw_ideal hc h
      ·cases h
    | some v => exact h
  ·rw [if_neg hw] at h ⊢
   exact cdraw_ideal hc h
theorem ccode_ideal {f g : CallF} (hc : CallLe f g) {n m : Nat} (hl : n ≤ m) : ∀ {c : IC} {s : St} {r : Ex × St}, ccode f n c s = some r → icode g m c s = some r := by
 intro c
 induction c with
 | skip => intro s r h; exact h
 | exit id => intro s r h; exact h
 | ret => intro s r h; exact h
 | ops l =>
  intro s r h
  simp only [ccode] at h
  simp only [icode]
  cases hm : iops f l s with
  | none => rw [hm] at h; cases h
  | some q => rw [hm] at h; rw [iops_mono hc hm]; exact h
 | draw l anc =>
  intro s r h
  simp only [ccode] at h
  simp only [icode]
  cases hm : cdraw f anc (l.filterMap (·.dst)) l 0 [] [] s with
  | none => rw [hm] at h; cases h
  | some q => rw [hm] at h; rw [cdraw_ideal hc hm]; exact h
 | seq a b iha ihb =>
  intro s r h
  simp only [ccode] at h
  simp only [icode]
  cases hm : ccode f n a s with
  | none => rw [hm] at h; cases h
  | some q =>
   rw [hm] at h
   rw [iha hm]
   obtain ⟨x, s1⟩ := q
   cases x with
   | normal => exact ihb h
   | _ => exact h
 | cond c a b iha ihb =>
  intro s r h
  simp only [ccode] at h
  simp only [icode]
  split at h
  ·rename_i hb; rw [hb]; exact iha h
  ·rename_i hb; rw [hb]; exact ihb h
  ·cases h
 | block id b ih =>
  intro s r h
  simp only [ccode] at h
  simp only [icode]
  cases hm : ccode f n b s with
  | none => rw [hm] at h; cases h
  | some q => rw [hm] at h; rw [ih hm]; exact h
 | loop b ih =>
  intro s r h
  simp only [ccode] at h
  simp only [icode]
  exact loopCode_mono (f := fun _ s => ccode f n b s) (g := fun _ s => icode g m b s) (fun s r h => ih h) hl h
 | rangeF fo ps asg body _ _ =>
  intro s r h
  simp only [ccode] at h
  simp only [icode]
  split at h
  ·cases h
  ·rename_i hds
   split at h
   ·rename_i k vs htg
    simp only [hds, htg]
    cases hm : f (.fn k) vs ((s.h.new .dfr).new (.loop ⟨.ready, none, s.e, ps, asg, body⟩)) with
    | none => rw [hm] at h; cases h
    | some q => rw [hm] at h; rw [hc _ _ _ _ hm]; exact h
   ·cases h
theorem ccodeD_ideal {f g : CallF} (hc : CallLe f g) {n m : Nat} (hl : n ≤ m) : ∀ {c : IC} {v : Option Value} {s : St} {r : Ex × Option Value × St}, ccodeD f n c v s = some r → icodeD g m c v s = some r := by
 have plain : ∀ {c : IC} {v : Option Value} {s : St} {r : Ex × Option Value × St}, (ccode f n c s).map (fun r => (r.1, v, r.2)) = some r → (icode g m c s).map (fun r => (r.1, v, r.2)) = some r := by
  intro c v s r h
  cases hm : ccode f n c s with
  | none => rw [hm] at h; cases h
  | some q => rw [hm] at h; rw [ccode_ideal hc hl hm]; exact h
 intro c
 induction c with
 | ops l =>
  intro v s r h
  simp only [ccodeD] at h
  simp only [icodeD]
  split at h
  ·rename_i h1; rw [if_pos h1]; exact h
  ·rename_i h1; rw [if_neg h1]; exact plain h
 | seq a b iha ihb =>
  intro v s r h
  simp only [ccodeD] at h
  simp only [icodeD]
  cases hm : ccodeD f n a v s with
  | none => rw [hm] at h; cases h
  | some q =>
   rw [hm] at h
   rw [iha hm]
   obtain ⟨x, v1, s1⟩ := q
   cases x with
   | normal => exact ihb h
   | _ => exact h
 | cond c a b iha ihb =>
  intro v s r h
  simp only [ccodeD] at h
  simp only [icodeD]
  split at h
  ·rename_i hb; rw [hb]; exact iha h
  ·rename_i hb; rw [hb]; exact ihb h
  ·cases h
 | _ => intro v s r h; simp only [ccodeD] at h; simp only [icodeD]; exact plain h
theorem cdefer_ideal {f g : CallF} (hc : CallLe f g) {T : Tbl} {n m : Nat} (hl : n ≤ m) : ∀ {ds : List Dfr} {v : Option Value} {h : Heap} {r : Option Value × Heap}, cdefer f T n ds v h = some r → idefer g T m ds v h = some r
 | [], v, h, r, hh => hh
 | .mark b :: ds, v, h, r, hh => by
  simp only [cdefer] at hh
  simp only [idefer]
  split at hh
  ·rename_i hb; rw [hb]; exact cdefer_ideal hc hl hh
  ·cases hh
 | .fn k args :: ds, v, h, r, hh => by
  simp only [cdefer] at hh
  simp only [idefer]
  split at hh
  ·cases hh
  ·rename_i fn hfn
   rw [hfn]
   split at hh
   ·cases hh
   rename_i hlen
   simp only [if_neg hlen]
   cases hm : ccodeD f n fn.code v ⟨args0 args, h, some []⟩ with
   | none => rw [hm] at hh; cases hh
   | some q =>
    rw [hm] at hh
    rw [ccodeD_ideal hc hl hm]
    split at hh
    ·rename_i heq
     cases heq
     simp only
     split at hh
     ·rename_i h1; rw [h1]; exact cdefer_ideal hc hl hh
     ·cases hh
    ·rename_i heq
     cases heq
     simp only
     split at hh
     ·rename_i h1; rw [h1]; exact cdefer_ideal hc hl hh
     ·cases hh
    ·cases hh
theorem cleave_ideal {f g : CallF} (hc : CallLe f g) {T : Tbl} {n m : Nat} (hl : n ≤ m) {fn : IFn} {v : Option Value} {s : St} {r : Out × Heap} (h : cleave f T n fn v s = some r) : ileave g T m fn v s = some r := by
 unfold cleave at h
 unfold ileave
 split at h
 ·cases h
 ·rename_i ds hds
  rw [hds]
  simp only
  cases hm : cdefer f T n ds v s.h with
  | none => rw [hm] at h; cases h
  | some q => rw [hm] at h; rw [cdefer_ideal hc hl hm]; exact h
theorem ccall_ideal (T : Tbl) : ∀ n, CallLe (ccall T n) (icall T n)
 | 0 => fun c a h r hh => by cases hh
 | n + 1 => by
  have ih := ccall_ideal T n
  have hl : n ≤ n := Nat.le_refl n
  intro c a h r hh
  cases c with
  | fn k =>
   rw [ccall] at hh
   rw [icall]
   split at hh
   ·rename_i fn hfn
    rw [hfn]
    simp only
    split at hh
    ·cases hh
    rename_i hlen
    rw [if_neg hlen]
    cases hm : ccode (ccall T n) n fn.code ⟨args0 a, h, some []⟩ with
    | none => rw [hm] at hh; cases hh
    | some q =>
     rw [hm] at hh
     rw [ccode_ideal ih hl hm]
     obtain ⟨x, s⟩ := q
     cases x with
     | brk i => cases hh
     | _ => exact cleave_ideal ih hl hh
   ·rename_i hfn; rw [hfn]; exact hh
  | yld l =>
   rw [ccall] at hh
   rw [icall]
   split at hh
   ·rename_i L hL
    rw [hL]
    simp only
    split at hh
    ·rename_i hlen
     rw [if_pos hlen]
     cases hm : ccode (ccall T n) n L.asg ⟨setPs L.e L.ps a, h, none⟩ with
     | none => rw [hm] at hh; cases hh
     | some q =>
      rw [hm] at hh
      rw [ccode_ideal ih hl hm]
      obtain ⟨x, s⟩ := q
      cases x with
      | normal =>
       simp only at hh ⊢
       split at hh
       ·rename_i L1 hL1
        rw [hL1]
        simp only
        split at hh
        ·rename_i hst
         rw [if_pos hst]
         cases hb : ccode (ccall T n) n L.body { s with h := s.h.set l (.loop { L1 with st := .busy }) } with
         | none => rw [hb] at hh; cases hh
         | some q =>
          rw [hb] at hh
          rw [ccode_ideal ih hl hb]
          exact hh
        ·cases hh
       ·cases hh
      | _ => cases hh
    ·cases hh
   ·cases hh
end Go.Idl
end

section
namespace Go.Idl
theorem sameAt_old {W W' : World} (hb : ∀ k, k < W.heap.size → W'.heap[k]? = W.heap[k]?) {p : MemPlace} (hp : p.block < W.heap.size) : World.sameAt W W' p := by
 cases p with
 | cell b off =>
  simp only [World.sameAt, World.cell?]
  rw [hb b hp]
 | map b => exact hb b hp
theorem trodAll_carry {H : Type} {enc : TypeId × Value → H} {P : Program} {W W' : World} {base : Nat} {spare : Nat → Bool} {held : Bool} : ∀ {ts : List TypeId} {vs : List Value} {ds : List (DataW H)} {ps : List MemPlace},
 DataW.TrodAll enc P W base spare held ts vs ds ps → (∀ p ∈ ps, W.sameAt W' p) → DataW.TrodAll enc P W' base spare held ts vs ds ps
 | [], [], [], _, h, _ => h
 | _ :: _, _ :: _, _ :: _, _, ⟨p, q, ⟨n, h1⟩, h2, e⟩, hs =>
  ⟨p, q, ⟨n, DataW.trod_carry n _ _ _ h1 fun x hx => hs x (by rw [e]; exact List.mem_append_left _ hx)⟩, trodAll_carry h2 (fun x hx => hs x (by rw [e]; exact List.mem_append_right _ hx)), e⟩
theorem post_old {H : Type} {enc : TypeId × Value → H} {P : Program} {f : Func} {s : ChangeSpec} {W W' : World} {args : Array Value} {ds gs : List (DataW H)} {before : List MemPlace} {tb : TypeId}
 (hW : DataW.Whole enc P f.params.toList s.vars false W args.toList ds gs before) (hvars : s.vars = []) (hrt : f.resultTypes = #[tb]) (htb : P.underlying tb = some .bool)
 (hfn : s.fn H ds = { results := [.lit (.bool true)], args := ds }) {T : TypeId → Prop} (K : Kids P T) (hz : ∀ t e, T t → P.underlying t = some (.slice e) → 0 < P.cellsOf e) (hT : ∀ t ∈ f.params.toList, T t)
 (hsz : W.heap.size ≤ W'.heap.size) (hb : ∀ k, k < W.heap.size → W'.heap[k]? = W.heap[k]?) (hos : W'.os = W.os) (hout : W'.output = W.output) :
 s.post enc P f false true false false W args (.bool true) W' := by
 have hlt : ∀ p ∈ before, p.block < W.heap.size := fun p hp => hW.lt p hp
 have hW' := hW
 obtain ⟨p, q, hA, hV, rfl, hfz, hnd⟩ := hW
 rw [hvars] at hV
 cases gs with
 | cons g gs => exact hV.elim
 | nil =>
 have hq : q = [] := hV
 subst hq
 have hsp : ∀ x ∈ p, (fun b => decide (b < W.heap.size)) x.block = true := fun x hx => by simpa using hlt x (by simp [hx])
 have hA2 := trodAll_carry (W' := W') hA (fun x hx => sameAt_old hb (hlt x (by simp [hx])))
 refine ⟨ds, [], p ++ [], [], p, [], hW', ?_, ?_, ?_, ?_, fun h => by cases h⟩
 ·rw [List.append_nil, hfn, hrt]
  refine ⟨[], [], ⟨1, ?_⟩, rfl, rfl⟩
  simp [DataW.trod, htb, Value.cells]
 ·rw [List.append_nil, hfn]
  exact hA2.respare K hz hT hsp
 ·rw [List.append_nil, hfn, hvars]
  exact rfl
 ·refine ⟨hos, hout, fun i hi => ?_⟩
  rw [hb i hi]
  split
  ·rename_i h1 h2
   rw [h1] at h2; cases h2
   exact ⟨rfl, rfl, rfl, fun _ _ => rfl⟩
  ·rename_i h1 h2
   rw [h1] at h2; cases h2
   exact .inr ⟨rfl, rfl⟩
  ·rfl
def GoodW (G : World → Prop) : Prop := ∀ w w' : World, G w → w.heap.size ≤ w'.heap.size → (∀ k, k < w.heap.size → w'.heap[k]? = w.heap[k]?) → G w'
theorem calls_oldG {P : Program} {G : World → Prop} (hG : GoodW G) {T : Tbl} (hT : TblOkG P G T) {f : FuncId} {args : List Value} {h h' : Heap} {v : Value} {n : Nat} (hi : icall T n (.fn f) args h = some (.ret v, h')) {W : World} (hW : G W) {ι : Inj} (hk : Ok P W.heap.size W ι h W) {rargs : List Value} (ha : RepL ι args rargs) :
 Calls P f rargs.toArray W fun e W' => (∃ v', e = .returned v' ∧ ∃ ι', Rep ι' v v') ∧ W.heap.size ≤ W'.heap.size ∧ (∀ k, k < W.heap.size → W'.heap[k]? = W.heap[k]?) ∧ W'.os = W.os ∧ W'.tape = W.tape ∧ W'.output = W.output := by
 obtain ⟨_, hc⟩ := (icall_soundG (base := W.heap.size) (w0 := W) hT (fun hk => hG W _ hW hk.size hk.old) n).fn f args h _ h' hi
 refine (hc ι W rargs hk ha).mono fun e W' hp => ?_
 obtain ⟨ι', k1, k2, k3⟩ := hp
 cases e with
 | returned v' => exact ⟨⟨v', rfl, ι', k3⟩, k2.keeps.size, k1.old, k2.keeps.os, k2.keeps.tape, k2.keeps.output⟩
 | panicked c => exact k3.elim
 | outgrown => exact k3.elim
theorem shaped_good (P : Program) : GoodW (fun w => w.ShapedOpen P) := by
 intro w w' h hs hb
 have h1 : (({ w' with os := w.os, output := w.output } : World)).ShapedOpen P := by
  refine h.keptBut (may := fun _ => False) ⟨rfl, rfl, fun i hi => ?_⟩ (fun p hp => hp.elim)
  have := hb i hi
  show (match w.heap[i]?, w'.heap[i]? with
   | some (.cells c t fr), some (.cells c' t' fr') => t' = t ∧ fr' = fr ∧ c'.size = c.size ∧ ∀ j : Nat, ¬ False → c'[j]? = c[j]?
   | some (.map es clock), some (.map es' clock') => False ∨ (es' = es ∧ clock' = clock)
   | o, o' => o' = o)
  rw [this]
  split
  ·rename_i h1 h2; rw [h1] at h2; cases h2; exact ⟨rfl, rfl, rfl, fun _ _ => rfl⟩
  ·rename_i h1 h2; rw [h1] at h2; cases h2; exact .inr ⟨rfl, rfl⟩
  ·rfl
 exact h1.of_heap rfl
end Go.Idl
end

section
namespace Go.Idl
mutual
inductive TD where
 | int (k : IntKind)
 | str
 | bool
 | sl (e : TD)
 | st (fs : TDs)
inductive TDs where
 | nil
 | cons (t : TD) (ts : TDs)
end
mutual
def TD.size : TD → Nat
 | .st fs => fs.size
 | _ => 1
def TDs.size : TDs → Nat
 | .nil => 0
 | .cons t ts => t.size + ts.size
end
mutual
def Ty (P : Program) : TD → TypeId → Prop
 | .int k, t => P.underlying t = some (.int k)
 | .str, t => P.underlying t = some .string
 | .bool, t => P.underlying t = some .bool
 | .sl e, t => ∃ et, P.underlying t = some (.slice et) ∧ Ty P e et ∧ P.cellsOf et = e.size ∧ 0 < e.size
 | .st fs, t => ∃ l : Array Field, P.underlying t = some (.struct l) ∧ TyL P fs l.toList 0 ∧ P.cellsOf t = fs.size
def TyL (P : Program) : TDs → List Field → Nat → Prop
 | .nil, l, _ => l = []
 | .cons t ts, l, o => ∃ f r, l = f :: r ∧ f.offset = o ∧ Ty P t f.type ∧ P.cellsOf f.type = t.size ∧ TyL P ts r (o + t.size)
end
def LaysEach {H : Type} (L : DataW H → List Value → Prop) : List (DataW H) → List Value → Prop
 | [], vs => vs = []
 | d :: ds, vs => ∃ a b, vs = a ++ b ∧ L d a ∧ LaysEach L ds b
mutual
def Lays {H : Type} (h : Heap) : TD → DataW H → List Value → Prop
 | .int k, d, vs => ∃ n, d = .lit (.int k n) ∧ (Lit.int k n).wf = true ∧ vs = [.int k n]
 | .str, d, vs => ∃ s : ByteArray, s.size ≤ maxLen ∧ d = .lit (.string s.data.toList) ∧ vs = [.string s]
 | .bool, d, vs => ∃ b, d = .lit (.bool b) ∧ vs = [.bool b]
 | .sl e, d, vs => (d = .nil ∧ vs = [.slice none 0 0]) ∨ ∃ ds spare b, d = .slice ds spare ∧ b < h.next ∧ ds.length + spare.length ≤ maxLen ∧ vs = [.slice (some ⟨b, 0, none⟩) ds.length (if spare = [] then ds.length else ds.length + 1)] ∧
  ((ds = [] ∧ h.get b = none) ∨ ∃ cs, h.get b = some (.cells cs false 0) ∧ LaysEach (Lays h e) ds cs)
 | .st fs, d, vs => ∃ ds, d = .agg ds ∧ LaysL h fs ds vs
def LaysL {H : Type} (h : Heap) : TDs → List (DataW H) → List Value → Prop
 | .nil, ds, vs => ds = [] ∧ vs = []
 | .cons t ts, ds, vs => ∃ d r a b, ds = d :: r ∧ vs = a ++ b ∧ Lays h t d a ∧ LaysL h ts r b
end
structure More (P : Program) (W : World) (ι : Inj) (h : Heap) (ι' : Inj) (h' : Heap) : Prop where
 ok : Ok P W.heap.size W ι' h' W
 ro : ∀ b, ¬ mine h' b
 le : ι.le ι'
 keep : ∀ b, b < h.next → h'.get b = h.get b
 next : h.next ≤ h'.next
theorem More.trans {P : Program} {W : World} {ι ι1 ι2 : Inj} {h h1 h2 : Heap} (a : More P W ι h ι1 h1) (b : More P W ι1 h1 ι2 h2) : More P W ι h ι2 h2 :=
 ⟨b.ok, b.ro, a.le.trans b.le, fun x hx => (b.keep x (Nat.lt_of_lt_of_le hx a.next)).trans (a.keep x hx), Nat.le_trans a.next b.next⟩
theorem laysEach_mono {H : Type} {L L' : DataW H → List Value → Prop} (hl : ∀ d v, L d v → L' d v) : ∀ {ds : List (DataW H)} {vs : List Value}, LaysEach L ds vs → LaysEach L' ds vs
 | [], _, h => h
 | _ :: _, _, ⟨a, b, e, h1, h2⟩ => ⟨a, b, e, hl _ _ h1, laysEach_mono hl h2⟩
mutual
theorem Lays.keep {H : Type} {h h' : Heap} (hk : ∀ b, b < h.next → h'.get b = h.get b) (hn : h.next ≤ h'.next) : ∀ (t : TD) {d : DataW H} {vs : List Value}, Lays h t d vs → Lays h' t d vs
 | .int k, d, vs, hh => by simpa only [Lays] using hh
 | .str, d, vs, hh => by simpa only [Lays] using hh
 | .bool, d, vs, hh => by simpa only [Lays] using hh
 | .sl e, d, vs, hh => by
  simp only [Lays] at hh ⊢
  rcases hh with hh | ⟨ds, spare, b, h1, h2, h3, h4, h5⟩
  ·exact .inl hh
  ·refine .inr ⟨ds, spare, b, h1, Nat.lt_of_lt_of_le h2 hn, h3, h4, ?_⟩
   rw [hk b h2]
   rcases h5 with h5 | ⟨cs, h5, h6⟩
   ·exact .inl h5
   ·exact .inr ⟨cs, h5, laysEach_mono (fun d v => Lays.keep hk hn e) h6⟩
 | .st fs, d, vs, hh => by
  simp only [Lays] at hh ⊢
  obtain ⟨ds, h1, h2⟩ := hh
  exact ⟨ds, h1, LaysL.keep hk hn fs h2⟩
theorem LaysL.keep {H : Type} {h h' : Heap} (hk : ∀ b, b < h.next → h'.get b = h.get b) (hn : h.next ≤ h'.next) : ∀ (ts : TDs) {ds : List (DataW H)} {vs : List Value}, LaysL h ts ds vs → LaysL h' ts ds vs
 | .nil, ds, vs, hh => by simpa only [LaysL] using hh
 | .cons t ts, ds, vs, hh => by
  simp only [LaysL] at hh ⊢
  obtain ⟨d, r, a, b, h1, h2, h3, h4⟩ := hh
  exact ⟨d, r, a, b, h1, h2, Lays.keep hk hn t h3, LaysL.keep hk hn ts h4⟩
end
theorem More.add {P : Program} {W : World} {ι : Inj} {h : Heap} (ho : Ok P W.heap.size W ι h W) (hr : ∀ b, ¬ mine h b) (blk off : Nat) (c : Array Value) (t : TypeId) (fz : Nat × Nat) (hb : W.heap[blk]? = some (.cells c t fz)) {vs : List Value}
 (hl : off + vs.length ≤ c.size) (hrep : RepC ι vs ((c.toList.drop off).take vs.length)) :
 ∃ ι', More P W ι h ι' (h.new (.cells vs false 0)) ∧ ι' h.next = some ⟨blk, off, c.size, 0⟩ := by
 have hs := ho.sim
 have hle : ι.le (ext1 ι h.next ⟨blk, off, c.size, 0⟩) := ext1_le hs.dom _
 have hlt : blk < W.heap.size := (Array.getElem?_eq_some_iff.1 hb).1
 have hro : ∀ b, ¬ mine (h.new (.cells vs false 0)) b := by
  intro b hm
  by_cases e : b = h.next
  ·subst e; unfold mine at hm; rw [new_get] at hm; exact hm
  ·rw [mine_congr (new_get_ne h _ e)] at hm; exact hr b hm
 refine ⟨_, ⟨⟨⟨?_, ?_, ?_, fun b1 b2 i1 i2 _ hm => (hro b1 hm).elim⟩, ho.size, ho.old⟩, hro, hle, fun b hb => new_get_ne h _ (by omega), by rw [new_nx]; omega⟩, ext1_same _ _ _⟩
 ·intro b j hj
  unfold ext1 at hj
  split at hj
  ·subst_vars; simp [new_nx]
  ·have := hs.dom b j hj; rw [new_nx]; omega
 ·intro b hb'
  rw [new_nx] at hb'
  rw [new_get_ne h _ (by omega)]
  exact hs.vac b (by omega)
 ·intro b o j hg hj
  by_cases e : b = h.next
  ·subst e
   rw [new_get] at hg; cases hg
   rw [ext1_same] at hj; cases hj
   exact ⟨_, hb, rfl, hl, hrep.mono hle, rfl, (fun h => (by cases h)), fun _ => hlt⟩
  ·rw [new_get_ne h _ e] at hg
   have hj' : ι b = some j := by simpa [ext1, e] using hj
   obtain ⟨o', h1, h2⟩ := hs.blk b o j hg hj'
   exact ⟨o', h1, h2.mono hle⟩
theorem More.blank {P : Program} {W : World} {ι : Inj} {h : Heap} (ho : Ok P W.heap.size W ι h W) (hr : ∀ b, ¬ mine h b) (i : BI) :
 ∃ ι' h', More P W ι h ι' h' ∧ ι' h.next = some i ∧ h'.get h.next = none ∧ h.next < h'.next := by
 have hs := ho.sim
 have hle : ι.le (ext1 ι h.next i) := ext1_le hs.dom _
 refine ⟨ext1 ι h.next i, { h with next := h.next + 1 }, ⟨⟨⟨?_, ?_, ?_, fun b1 b2 i1 i2 _ hm => (hr b1 hm).elim⟩, ho.size, ho.old⟩, hr, hle, fun b hb => rfl, Nat.le_succ _⟩, ext1_same _ _ _, hs.vac _ (Nat.le_refl _), Nat.lt_succ_self _⟩
 ·intro b j hj
  unfold ext1 at hj
  split at hj
  ·subst_vars; exact Nat.lt_succ_self _
  ·have := hs.dom b j hj; simp only; omega
 ·intro b hb'
  simp only at hb' ⊢
  exact hs.vac b (by omega)
 ·intro b o j hg hj
  have hg' : h.get b = some o := hg
  have hb : b ≠ h.next := fun e => by rw [e, hs.vac _ (Nat.le_refl _)] at hg'; cases hg'
  have hj' : ι b = some j := by simpa [ext1, hb] using hj
  obtain ⟨o', h1, h2⟩ := hs.blk b o j hg' hj'
  exact ⟨o', h1, h2.mono hle⟩
theorem cells?_spec {W : World} {a : Addr} {n : Nat} {cs : List Value} (h : W.cells? 0 a n = some cs) : cs.length = n ∧ ∀ i, i < n → W.cell? (a.add i) = cs[i]? := by
 unfold World.cells? at h
 rw [if_pos (Nat.zero_le _)] at h
 have hl : cs.length = n := by simpa using mapM_some_length h
 refine ⟨hl, fun i hi => ?_⟩
 have := mapM_some_get h i i (by simp [hi])
 simpa using this
theorem cell?_some {W : World} {a : Addr} {v : Value} (h : W.cell? a = some v) : a.spot = none ∧ ∃ c t fz, W.heap[a.block]? = some (.cells c t fz) ∧ c[a.off]? = some v := by
 obtain ⟨b, o, s⟩ := a
 unfold World.cell? at h
 split at h
 ·rename_i c t fz hb
  split at h
  ·cases h
  ·rename_i hs
   exact ⟨by simpa using hs, c, t, fz, hb, h⟩
 ·cases h
theorem rep_wf_str (ι : Inj) (s : ByteArray) : RepC ι [.string s] [.string s] := RepC.cons rfl (.string s) (RepC.nil ι)
theorem layEach {H : Type} {P : Program} {W : World} {e : TD} {a : Addr} (hsp : a.spot = none) {r : List Value → Option (DataW H × List MemPlace)}
 (one : ∀ {cs : List Value} {x : DataW H × List MemPlace}, r cs = some x → cs.length = e.size → ∀ {ι : Inj} {h : Heap}, Ok P W.heap.size W ι h W → (∀ b, ¬ mine h b) → ∃ ι' h' vs, More P W ι h ι' h' ∧ Lays h' e x.1 vs ∧ RepC ι' vs cs) :
 ∀ (xs : List (DataW H × List MemPlace)) (i0 : Nat), (∀ (j : Nat) x, xs[j]? = some x → (W.cells? 0 (a.add ((i0 + j) * e.size)) e.size).bind r = some x) → ∀ {ι : Inj} {h : Heap}, Ok P W.heap.size W ι h W → (∀ b, ¬ mine h b) →
  ∃ ι' h' vs rcs, More P W ι h ι' h' ∧ LaysEach (Lays h' e) (xs.map (·.1)) vs ∧ RepC ι' vs rcs ∧ rcs.length = xs.length * e.size ∧ ∀ m, m < rcs.length → W.cell? ((a.add (i0 * e.size)).add m) = rcs[m]?
 | [], i0, hx, ι, h, ho, hr => ⟨ι, h, [], [], ⟨ho, hr, .refl ι, fun _ _ => rfl, Nat.le_refl _⟩, rfl, RepC.nil _, by simp, fun m hm => by simp at hm⟩
 | x :: xs, i0, hx, ι, h, ho, hr => by
  have h0 := hx 0 x rfl
  rw [Nat.add_zero] at h0
  obtain ⟨cs, hcs, hrx⟩ := Option.bind_eq_some_iff.1 h0
  obtain ⟨hlen, hcell⟩ := cells?_spec hcs
  obtain ⟨ι1, h1, v1, m1, l1, r1⟩ := one hrx hlen ho hr
  obtain ⟨ι2, h2, v2, rcs, m2, l2, r2, hl2, hc2⟩ := layEach hsp one xs (i0 + 1) (fun j y hy => by have := hx (j + 1) y (by simpa using hy); rwa [show i0 + (j + 1) = i0 + 1 + j by omega] at this) m1.ok m1.ro
  refine ⟨ι2, h2, v1 ++ v2, cs ++ rcs, m1.trans m2, ⟨v1, v2, rfl, Lays.keep m2.keep m2.next e l1, l2⟩, (r1.mono m2.le).append r2, by simp [hlen, hl2, Nat.add_mul, Nat.add_comm], fun m hm => ?_⟩
  rw [List.getElem?_append]
  split
  ·rename_i hlt
   exact hcell m (by omega)
  ·rename_i hge
   rw [List.length_append] at hm
   have := hc2 (m - cs.length) (by omega)
   rw [← this]
   obtain ⟨b, o, s⟩ := a
   simp only at hsp
   subst hsp
   simp only [addr_add]
   congr 2
   rw [Nat.add_mul, Nat.one_mul]; omega
theorem More.refl {P : Program} {W : World} {ι : Inj} {h : Heap} (ho : Ok P W.heap.size W ι h W) (hr : ∀ b, ¬ mine h b) : More P W ι h ι h := ⟨ho, hr, .refl ι, fun _ _ => rfl, Nat.le_refl _⟩
mutual
theorem lay {H : Type} {enc : TypeId × Value → H} {P : Program} {W : World} : ∀ (td : TD) {n : Nat} {t : TypeId} {cs : List Value} {x : DataW H × List MemPlace}, Ty P td t → DataW.trod enc P W 0 (fun _ => true) true n t cs = some x → ∀ {ι : Inj} {h : Heap}, Ok P W.heap.size W ι h W → (∀ b, ¬ mine h b) →
 ∃ ι' h' vs, More P W ι h ι' h' ∧ Lays h' td x.1 vs ∧ RepC ι' vs cs
 | .int k, n, t, cs, x, ht, hx, ι, h, ho, hr => by
  simp only [Ty] at ht
  obtain ⟨i, rfl, rfl, hw⟩ := DataW.trod_int ht hx
  exact ⟨ι, h, [.int k i], .refl ho hr, by simp only [Lays]; exact ⟨i, rfl, hw, rfl⟩, RepC.cons rfl (.int k i) (RepC.nil _)⟩
 | .str, n, t, cs, x, ht, hx, ι, h, ho, hr => by
  simp only [Ty] at ht
  obtain ⟨s, rfl, rfl, hw⟩ := DataW.trod_string ht hx
  exact ⟨ι, h, [.string s], .refl ho hr, by simp only [Lays]; exact ⟨s, hw, rfl, rfl⟩, rep_wf_str _ s⟩
 | .bool, n, t, cs, x, ht, hx, ι, h, ho, hr => by
  simp only [Ty] at ht
  obtain ⟨b, rfl, rfl⟩ := DataW.trod_bool ht hx
  exact ⟨ι, h, [.bool b], .refl ho hr, by simp only [Lays]; exact ⟨b, rfl, rfl⟩, RepC.cons rfl (.bool b) (RepC.nil _)⟩
 | .sl e, n, t, cs, x, ht, hx, ι, h, ho, hr => by
  simp only [Ty] at ht
  obtain ⟨et, hu, hte, hsz, hpos⟩ := ht
  rcases DataW.trod_slice hu hx with ⟨rfl, rfl⟩ | ⟨a, len, cap, elems, rest, m, rfl, rfl, rfl, _, hlc, hcm, hel, hone, hrest, _⟩
  ·exact ⟨ι, h, [.slice none 0 0], .refl ho hr, by simp [Lays], RepC.cons rfl .snil (RepC.nil _)⟩
  ·obtain ⟨hrl, hrone⟩ := hrest rfl
   rw [hsz] at hone hrone
   have hspot : cap ≠ 0 → a.spot = none := by
    intro hc
    have : ∃ y, (W.cells? 0 (a.add (0 * e.size)) e.size).bind (DataW.trod enc P W 0 (fun _ => true) true m et) = some y := by
     by_cases hl : 0 < len
     ·have := hone 0 hl
      rw [List.getElem?_eq_getElem (by omega)] at this
      exact ⟨_, this⟩
     ·have h0 : len = 0 := by omega
      have := hrone 0 (by omega)
      rw [h0, Nat.zero_add] at this
      rw [List.getElem?_eq_getElem (by omega)] at this
      exact ⟨_, this⟩
    obtain ⟨y, hy⟩ := this
    obtain ⟨cs', hcs, _⟩ := Option.bind_eq_some_iff.1 hy
    obtain ⟨hl, hc'⟩ := cells?_spec hcs
    have h0 := hc' 0 hpos
    rw [Nat.zero_mul, List.getElem?_eq_getElem (by omega)] at h0
    have e0 : (a.add 0).add 0 = a := by simp [Addr.add]
    rw [e0] at h0
    exact (cell?_some h0).1
   have value : ∀ {ι' : Inj} {b : Nat} {i : BI}, ι' b = some i → i.blk = a.block → i.sh = a.off → i.esz = 0 → RepC ι' [.slice (some ⟨b, 0, none⟩) elems.length (if rest.map (·.1) = [] then elems.length else elems.length + 1)] [.slice (some a) len cap] := by
    intro ι' b i hι h1 h2 h3
    refine RepC.cons rfl ?_ (RepC.nil _)
    rw [hel]
    refine Rep.slice hι hlc (fun hc => ?_) (fun hc => ?_) (fun hc => by omega)
    ·split at hc
     ·rename_i he
      have : rest.length = 0 := by have := congrArg List.length he; simpa using this
      omega
     ·omega
    ·have := hspot hc
     obtain ⟨ab, ao, as⟩ := a
     simp only at h1 h2 this
     rw [h1, h2, this, Nat.zero_add]
   by_cases hl : len = 0
   ·have he : elems = [] := List.eq_nil_of_length_eq_zero (by omega)
    obtain ⟨ι', h', hm, hι, hg, hlt⟩ := More.blank ho hr ⟨a.block, a.off, 0, 0⟩
    refine ⟨ι', h', _, hm, ?_, value hι rfl rfl rfl⟩
    simp only [Lays]
    refine .inr ⟨elems.map (·.1), rest.map (·.1), h.next, rfl, hlt, by simp; omega, by simp, .inl ⟨by rw [he]; rfl, hg⟩⟩
   ·obtain ⟨ι1, h1, vs, rcs, m1, l1, r1, hl1, hc1⟩ := layEach (hspot (by omega)) (r := DataW.trod enc P W 0 (fun _ => true) true m et)
     (fun {cs x} hx _ {ι h} ho hr => lay e hte hx ho hr) elems 0 (fun j y hy => by
      have := hone j (by rw [← hel]; exact (List.getElem?_eq_some_iff.1 hy).1)
      rw [Nat.zero_add, this]; exact hy) ho hr
    have hpl : 0 < rcs.length := by rw [hl1, hel]; exact Nat.mul_pos (by omega) hpos
    have hs := hspot (by omega)
    have hat : ∀ m, m < rcs.length → W.cell? ⟨a.block, a.off + m, none⟩ = rcs[m]? := by
     intro m hm
     have := hc1 m hm
     obtain ⟨ab, ao, as⟩ := a
     simp only at hs
     subst hs
     rw [Nat.zero_mul, addr_add, addr_add] at this
     simpa using this
    obtain ⟨_, c, ty, fz, hblk, _⟩ := cell?_some (a := ⟨a.block, a.off + 0, none⟩) ((hat 0 hpl).trans (List.getElem?_eq_getElem hpl))
    have hcell : ∀ m, m < rcs.length → c[a.off + m]? = rcs[m]? := by
     intro m hm
     have := hat m hm
     unfold World.cell? at this
     rw [hblk] at this
     simpa using this
    have hsz2 : a.off + rcs.length ≤ c.size := by
     have := hcell (rcs.length - 1) (by omega)
     rw [List.getElem?_eq_getElem (by omega)] at this
     have := (Array.getElem?_eq_some_iff.1 this).1
     omega
    have hcut : (c.toList.drop a.off).take vs.length = rcs := by
     apply List.ext_getElem?
     intro m
     rw [List.getElem?_take, r1.1]
     by_cases hm : m < rcs.length
     ·rw [if_pos hm, List.getElem?_drop, Array.getElem?_toList]
      exact hcell m hm
     ·rw [if_neg hm, List.getElem?_eq_none (by omega)]
    obtain ⟨ι2, m2, hι2⟩ := More.add m1.ok m1.ro a.block a.off c ty fz hblk (vs := vs) (by rw [r1.1]; exact hsz2) (by rw [hcut]; exact r1)
    refine ⟨ι2, _, _, m1.trans m2, ?_, value hι2 rfl rfl rfl⟩
    simp only [Lays]
    refine .inr ⟨elems.map (·.1), rest.map (·.1), h1.next, rfl, by rw [new_nx]; omega, by simp; omega, by simp, .inr ⟨vs, new_get _ _, ?_⟩⟩
    exact laysEach_mono (fun d v => Lays.keep m2.keep m2.next e) l1
 | .st fs, n, t, cs, x, ht, hx, ι, h, ho, hr => by
  simp only [Ty] at ht
  obtain ⟨l, hu, hl, hsz⟩ := ht
  obtain ⟨xs, m, rfl, rfl, hlen, hxl, hf⟩ := DataW.trod_struct hu hx
  obtain ⟨ι', h', vs, m1, l1, r1⟩ := layL fs (W := W) (enc := enc) (P := P) (m := m) (cs := cs) (o := 0) (fl := l.toList) (xs := xs) hl (by simp [hxl]) (by rw [hlen, hsz]; simp) (fun i f hi => hf i f (by simpa using hi)) ho hr
  exact ⟨ι', h', vs, m1, by simp only [Lays]; exact ⟨_, rfl, l1⟩, by simpa using r1⟩
theorem layL {H : Type} {enc : TypeId × Value → H} {P : Program} {W : World} : ∀ (ts : TDs) {m : Nat} {cs : List Value} {o : Nat} {fl : List Field} {xs : List (DataW H × List MemPlace)}, TyL P ts fl o → xs.length = fl.length → cs.length = o + ts.size →
 (∀ (i : Nat) (f : Field), fl[i]? = some f → DataW.trod enc P W 0 (fun _ => true) true m f.type ((cs.drop f.offset).take (P.cellsOf f.type)) = xs[i]?) → ∀ {ι : Inj} {h : Heap}, Ok P W.heap.size W ι h W → (∀ b, ¬ mine h b) →
 ∃ ι' h' vs, More P W ι h ι' h' ∧ LaysL h' ts (xs.map (·.1)) vs ∧ RepC ι' vs (cs.drop o)
 | .nil, m, cs, o, fl, xs, ht, hl, hlen, hf, ι, h, ho, hr => by
  simp only [TyL] at ht
  subst ht
  have : xs = [] := List.eq_nil_of_length_eq_zero (by simpa using hl)
  subst this
  refine ⟨ι, h, [], .refl ho hr, by simp [LaysL], ?_⟩
  rw [List.drop_eq_nil_of_le (by simp [TDs.size] at hlen; omega)]
  exact RepC.nil _
 | .cons t ts, m, cs, o, fl, xs, ht, hl, hlen, hf, ι, h, ho, hr => by
  simp only [TyL] at ht
  obtain ⟨f, r, rfl, hoff, htf, hszf, htr⟩ := ht
  cases xs with
  | nil => simp at hl
  | cons x xs =>
   have h0 := hf 0 f rfl
   simp only [List.getElem?_cons_zero] at h0
   obtain ⟨ι1, h1, v1, m1, l1, r1⟩ := lay t htf h0 ho hr
   simp only [TDs.size] at hlen
   obtain ⟨ι2, h2, v2, m2, l2, r2⟩ := layL ts (m := m) (cs := cs) (o := o + t.size) (fl := r) (xs := xs) htr (by simpa using hl) (by omega) (fun i g hi => by have := hf (i + 1) g (by simpa using hi); simpa using this) m1.ok m1.ro
   refine ⟨ι2, h2, v1 ++ v2, m1.trans m2, ?_, ?_⟩
   ·simp only [LaysL]
    exact ⟨x.1, xs.map (·.1), v1, v2, rfl, rfl, Lays.keep m2.keep m2.next t l1, l2⟩
   ·rw [hoff, hszf] at r1
    have : cs.drop o = (cs.drop o).take t.size ++ cs.drop (o + t.size) := by
     rw [← List.drop_drop]; exact (List.take_append_drop _ _).symm
    rw [this]
    exact (r1.mono m2.le).append r2
end
def LaysArgs {H : Type} (h : Heap) : List TD → List (DataW H) → List Value → Prop
 | [], ds, vs => ds = [] ∧ vs = []
 | t :: ts, ds, vs => ∃ d r v vr, ds = d :: r ∧ vs = v :: vr ∧ (∃ cs, Lays h t d cs ∧ (match t with | .st _ => v = .agg cs.toArray | _ => cs = [v])) ∧ LaysArgs h ts r vr
theorem LaysArgs.keep {H : Type} {h h' : Heap} (hk : ∀ b, b < h.next → h'.get b = h.get b) (hn : h.next ≤ h'.next) : ∀ {ts : List TD} {ds : List (DataW H)} {vs : List Value}, LaysArgs h ts ds vs → LaysArgs h' ts ds vs
 | [], _, _, hh => hh
 | t :: ts, _, _, ⟨d, r, v, vr, h1, h2, ⟨cs, h3, h4⟩, h5⟩ => ⟨d, r, v, vr, h1, h2, ⟨cs, Lays.keep hk hn t h3, h4⟩, LaysArgs.keep hk hn h5⟩
def TysArgs (P : Program) : List TD → List TypeId → Prop
 | [], ts => ts = []
 | td :: tds, ts => ∃ t r, ts = t :: r ∧ Ty P td t ∧ TysArgs P tds r
theorem layArgs {H : Type} {enc : TypeId × Value → H} {P : Program} {W : World} : ∀ (tds : List TD) {ts : List TypeId} {rargs : List Value} {ds : List (DataW H)} {ps : List MemPlace}, TysArgs P tds ts → DataW.TrodAll enc P W 0 (fun _ => true) true ts rargs ds ps →
 (∀ (j : Nat) t v, ts[j]? = some t → rargs[j]? = some v → ((∃ fs, P.underlying t = some (.struct fs)) ↔ ∃ cs, v = .agg cs)) → ∀ {ι : Inj} {h : Heap}, Ok P W.heap.size W ι h W → (∀ b, ¬ mine h b) →
 ∃ ι' h' args, More P W ι h ι' h' ∧ LaysArgs h' tds ds args ∧ RepL ι' args rargs
 | [], ts, rargs, ds, ps, ht, hA, _, ι, h, ho, hr => by
  simp only [TysArgs] at ht
  subst ht
  cases rargs <;> cases ds <;> first | exact hA.elim | skip
  exact ⟨ι, h, [], .refl ho hr, ⟨rfl, rfl⟩, RepL.nil _⟩
 | td :: tds, ts, rargs, ds, ps, ht, hA, hagg, ι, h, ho, hr => by
  simp only [TysArgs] at ht
  obtain ⟨t, r, rfl, ht1, ht2⟩ := ht
  cases rargs with
  | nil => cases ds <;> exact hA.elim
  | cons v rargs =>
   cases ds with
   | nil => exact hA.elim
   | cons d ds =>
    obtain ⟨p, q, ⟨n, hn⟩, hA2, _⟩ := hA
    obtain ⟨ι1, h1, vs, m1, l1, r1⟩ := lay td ht1 hn ho hr
    obtain ⟨ι2, h2, args, m2, l2, r2⟩ := layArgs tds ht2 hA2 (fun j t v a b => hagg (j + 1) t v (by simpa using a) (by simpa using b)) m1.ok m1.ro
    have hv := hagg 0 t v rfl rfl
    have key : ∃ u, (match td with | .st _ => u = .agg vs.toArray | _ => vs = [u]) ∧ Rep ι1 u v := by
     have one : (∀ fs, P.underlying t ≠ some (.struct fs)) → ∃ u, vs = [u] ∧ Rep ι1 u v := by
      intro hno
      have hcs : v.cells.toList = [v] := by
       cases v <;> first | rfl | skip
       exact ((hv.2 ⟨_, rfl⟩).elim fun fs h => hno fs h).elim
      rw [hcs] at r1
      match vs, r1 with
      | [], r1 => have := r1.1; simp at this
      | [u], r1 => exact ⟨u, rfl, r1.head.1.2⟩
      | _ :: _ :: _, r1 => have := r1.1; simp at this
     cases td with
     | st fs =>
      simp only [Ty] at ht1
      obtain ⟨l, hu, _⟩ := ht1
      obtain ⟨cs, rfl⟩ := hv.1 ⟨l, hu⟩
      exact ⟨_, rfl, rep_agg.2 (by simpa [Value.cells] using r1)⟩
     | int k => simp only [Ty] at ht1; exact one (fun fs h => by rw [ht1] at h; cases h)
     | str => simp only [Ty] at ht1; exact one (fun fs h => by rw [ht1] at h; cases h)
     | bool => simp only [Ty] at ht1; exact one (fun fs h => by rw [ht1] at h; cases h)
     | sl e => simp only [Ty] at ht1; obtain ⟨et, hu, _⟩ := ht1; exact one (fun fs h => by rw [hu] at h; cases h)
    obtain ⟨u, hu1, hu2⟩ := key
    exact ⟨ι2, h2, u :: args, m1.trans m2, ⟨d, ds, u, args, rfl, rfl, ⟨vs, Lays.keep m2.keep m2.next td l1, hu1⟩, l2⟩, RepL.cons (hu2.mono m2.le) r2⟩
theorem layArgs0 {H : Type} {enc : TypeId × Value → H} {P : Program} {W : World} (tds : List TD) {ts : List TypeId} {rargs : List Value} {ds : List (DataW H)} {ps : List MemPlace} (ht : TysArgs P tds ts) (hA : DataW.TrodAll enc P W 0 (fun _ => true) true ts rargs ds ps)
 (hagg : ∀ (j : Nat) t v, ts[j]? = some t → rargs[j]? = some v → ((∃ fs, P.underlying t = some (.struct fs)) ↔ ∃ cs, v = .agg cs)) :
 ∃ ι h args, Ok P W.heap.size W ι h W ∧ (∀ b, ¬ mine h b) ∧ LaysArgs h tds ds args ∧ RepL ι args rargs := by
 have hk : Ok P W.heap.size W (fun _ => none) ⟨fun _ => none, 0⟩ W := ⟨sim_empty (CRel P) _ (fun _ => none) 0 (fun b i h => (by cases h)) W, Nat.le_refl _, fun _ _ => rfl⟩
 obtain ⟨ι, h, args, m, l, r⟩ := layArgs tds ht hA hagg hk (fun b hm => by simp [mine] at hm)
 exact ⟨ι, h, args, m.ok, m.ro, l, r⟩
end Go.Idl
end

section
namespace Go.Idl
variable {T : Tbl}
def Wk (T : Tbl) (c : Cal) (args : List Value) (h : Heap) (K : Out → Heap → Prop) : Prop := ∃ n out h', icall T n c args h = some (out, h') ∧ K out h'
def Wc (T : Tbl) (c : IC) (s : St) (Q : Ex → St → Prop) : Prop := ∃ n x s', icode (icall T n) n c s = some (x, s') ∧ Q x s'
def Wo (T : Tbl) (l : List Step) (s : St) (Q : Option Value → St → Prop) : Prop := ∃ n r s', iops (icall T n) l s = some (r, s') ∧ Q r s'
def Wd (T : Tbl) (anc : List (List Nat)) (ds : List Nat) (l : List Step) (i : Nat) (rs : List (Nat × Loc)) (es : List (Nat × Heap × Heap)) (s : St) (Q : Option Value → St → Prop) : Prop :=
 ∃ n r s', idraw (icall T n) anc ds l i rs es s = some (r, s') ∧ Q r s'
theorem icode_le {n m : Nat} (h : n ≤ m) {c : IC} {s : St} {r : Ex × St} (hi : icode (icall T n) n c s = some r) : icode (icall T m) m c s = some r := icode_mono (icall_mono T h) h hi
theorem iops_le {n m : Nat} (h : n ≤ m) {l : List Step} {s : St} {r : Option Value × St} (hi : iops (icall T n) l s = some r) : iops (icall T m) l s = some r := iops_mono (icall_mono T h) hi
theorem Wk.mono {c : Cal} {args : List Value} {h : Heap} {K K' : Out → Heap → Prop} (hk : Wk T c args h K) (h' : ∀ o h, K o h → K' o h) : Wk T c args h K' :=
 let ⟨n, out, h1, a, b⟩ := hk
 ⟨n, out, h1, a, h' _ _ b⟩
theorem Wc.mono {c : IC} {s : St} {Q Q' : Ex → St → Prop} (hk : Wc T c s Q) (h' : ∀ x s, Q x s → Q' x s) : Wc T c s Q' :=
 let ⟨n, x, s1, a, b⟩ := hk
 ⟨n, x, s1, a, h' _ _ b⟩
theorem Wo.mono {l : List Step} {s : St} {Q Q' : Option Value → St → Prop} (hk : Wo T l s Q) (h' : ∀ x s, Q x s → Q' x s) : Wo T l s Q' :=
 let ⟨n, x, s1, a, b⟩ := hk
 ⟨n, x, s1, a, h' _ _ b⟩
def Tn (T : Tbl) (b : IC) (Q : Ex → St → Prop) : Ex → St → Prop
 | .normal, s => Wc T b s Q
 | x, s => Q x s
def Tb (id : Nat) (Q : Ex → St → Prop) : Ex → St → Prop
 | .brk i, s => if i = id then Q .normal s else Q (.brk i) s
 | x, s => Q x s
def To (Q : Ex → St → Prop) : Option Value → St → Prop
 | none, s => Q .normal s
 | some v, s => Q (.pan v) s
theorem Wc_skip {s : St} {Q : Ex → St → Prop} (h : Q .normal s) : Wc T .skip s Q := ⟨0, _, _, rfl, h⟩
theorem Wc_exit {id : Nat} {s : St} {Q : Ex → St → Prop} (h : Q (.brk id) s) : Wc T (.exit id) s Q := ⟨0, _, _, rfl, h⟩
theorem Wc_ret {s : St} {Q : Ex → St → Prop} (h : Q .ret s) : Wc T .ret s Q := ⟨0, _, _, rfl, h⟩
theorem Wc_ops {l : List Step} {s : St} {Q : Ex → St → Prop} (h : Wo T l s (To Q)) : Wc T (.ops l) s Q := by
 obtain ⟨n, r, s', h1, h2⟩ := h
 cases r with
 | none => exact ⟨n, .normal, s', by simp only [icode, h1, exOf], h2⟩
 | some v => exact ⟨n, .pan v, s', by simp only [icode, h1, exOf], h2⟩
theorem Wc_seq {a b : IC} {s : St} {Q : Ex → St → Prop} (h : Wc T a s (Tn T b Q)) : Wc T (.seq a b) s Q := by
 obtain ⟨n, x, s1, h1, h2⟩ := h
 by_cases hx : x = .normal
 ·subst hx
  obtain ⟨m, y, s2, h3, h4⟩ := h2
  refine ⟨max n m, y, s2, ?_, h4⟩
  simp only [icode, icode_le (Nat.le_max_left n m) h1, icode_le (Nat.le_max_right n m) h3]
 ·refine ⟨n, x, s1, ?_, ?_⟩
  ·simp only [icode, h1]
   cases x <;> first | exact (hx rfl).elim | rfl
  ·cases x <;> first | exact (hx rfl).elim | exact h2
theorem Wc_cond {c : Opd} {a b : IC} {s : St} {Q : Ex → St → Prop} (p : Bool) (hc : ev s.e c = .bool p) (ht : p = true → Wc T a s Q) (hf : p = false → Wc T b s Q) : Wc T (.cond c a b) s Q := by
 cases p with
 | true => obtain ⟨n, x, s1, h1, h2⟩ := ht rfl; exact ⟨n, x, s1, by simp only [icode, hc, h1], h2⟩
 | false => obtain ⟨n, x, s1, h1, h2⟩ := hf rfl; exact ⟨n, x, s1, by simp only [icode, hc, h1], h2⟩
theorem Wc_block {id : Nat} {b : IC} {s : St} {Q : Ex → St → Prop} (h : Wc T b s (Tb id Q)) : Wc T (.block id b) s Q := by
 obtain ⟨n, x, s1, h1, h2⟩ := h
 cases x with
 | brk i =>
  simp only [Tb] at h2
  split at h2
  ·rename_i e; exact ⟨n, .normal, s1, by simp only [icode, h1, e, if_true], h2⟩
  ·rename_i e; exact ⟨n, .brk i, s1, by simp only [icode, h1, e, if_false], h2⟩
 | _ => exact ⟨n, _, s1, by simp only [icode, h1], h2⟩
theorem Wc_loop {b : IC} {s : St} {Q : Ex → St → Prop} (I : St → Prop) (μ : St → Nat) (h0 : I s) (hr : ∀ s, I s → Wc T b s (fun x s' => match x with | .normal => I s' ∧ μ s' < μ s | x => Q x s')) : Wc T (.loop b) s Q := by
 have key : ∀ k s, μ s < k → I s → ∃ n x s', loopCode (fun _ s => icode (icall T n) n b s) b n s = some (x, s') ∧ Q x s' := by
  intro k
  induction k with
  | zero => intro s h; omega
  | succ k ih =>
   intro s hk hI
   obtain ⟨n, x, s1, h1, h2⟩ := hr s hI
   by_cases hx : x = .normal
   ·subst hx
    obtain ⟨m, y, s2, h3, h4⟩ := ih s1 (by have := h2.2; omega) h2.1
    refine ⟨max n m + 1, y, s2, ?_, h4⟩
    simp only [loopCode, icode_le (show n ≤ max n m + 1 by omega) h1]
    exact loopCode_mono (f := fun _ s => icode (icall T m) m b s) (g := fun _ s => icode (icall T (max n m + 1)) (max n m + 1) b s) (fun s r h => icode_le (show m ≤ max n m + 1 by omega) h) (show m ≤ max n m by omega) h3
   ·refine ⟨n + 1, x, s1, ?_, ?_⟩
    ·simp only [loopCode, icode_le (Nat.le_succ n) h1]
     cases x <;> first | exact (hx rfl).elim | rfl
    ·cases x <;> first | exact (hx rfl).elim | exact h2
 obtain ⟨n, x, s', h1, h2⟩ := key _ s (Nat.lt_succ_self _) h0
 exact ⟨n, x, s', by simp only [icode]; exact h1, h2⟩
theorem Wo_nil {s : St} {Q : Option Value → St → Prop} (h : Q none s) : Wo T [] s Q := ⟨0, none, s, rfl, h⟩
theorem Wo_op {dst : Option Nat} {o : IOp} {l : List Step} {e : Env} {hp : Heap} {d : Option (List Dfr)} {v : Value} {h' : Heap} {Q : Option Value → St → Prop} (hi : iop o e hp = some (v, h')) (k : Wo T l ⟨dstUpd e dst v, h', d⟩ Q) : Wo T (⟨dst, .op o, none⟩ :: l) ⟨e, hp, d⟩ Q := by
 obtain ⟨n, r, s', h1, h2⟩ := k
 exact ⟨n, r, s', by simp only [iops, wantedE, istm, hi, if_true]; exact h1, h2⟩
theorem Wo_callC {c : Cal} {args : List Value} {dst : Option Nat} {m : Stm} {l : List Step} {e : Env} {hp : Heap} {d : Option (List Dfr)} {Q : Option Value → St → Prop}
 (hm : ∀ call : CallF, istm call dst m ⟨e, hp, d⟩ = afterCall dst ⟨e, hp, d⟩ (call c args hp))
 (h : Wk T c args hp (fun out h' => match out with | .ret v => Wo T l ⟨dstUpd e dst v, h', d⟩ Q | .pan v => Q (some v) ⟨e, h', d⟩)) : Wo T (⟨dst, m, none⟩ :: l) ⟨e, hp, d⟩ Q := by
 obtain ⟨n, out, h', h1, h2⟩ := h
 cases out with
 | ret v =>
  obtain ⟨k, r, s', h3, h4⟩ := h2
  refine ⟨max n k, r, s', ?_, h4⟩
  simp only [iops, wantedE, if_true, hm, icall_mono T (Nat.le_max_left n k) _ _ _ _ h1, afterCall]
  exact iops_le (Nat.le_max_right n k) h3
 | pan v =>
  refine ⟨n, some v, _, ?_, h2⟩
  simp only [iops, wantedE, if_true, hm, h1, afterCall]
theorem Wo_call {f : FuncId} {args : List Opd} {dst : Option Nat} {l : List Step} {e : Env} {hp : Heap} {d : Option (List Dfr)} {Q : Option Value → St → Prop}
 (h : Wk T (.fn f) (args.map (ev e)) hp (fun out h' => match out with | .ret v => Wo T l ⟨dstUpd e dst v, h', d⟩ Q | .pan v => Q (some v) ⟨e, h', d⟩)) : Wo T (⟨dst, .call f args, none⟩ :: l) ⟨e, hp, d⟩ Q :=
 Wo_callC (fun _ => rfl) h
theorem Wo_callv {x : Opd} {args : List Opd} {c : Cal} {vs : List Value} {dst : Option Nat} {l : List Step} {e : Env} {hp : Heap} {d : Option (List Dfr)} {Q : Option Value → St → Prop} (ht : target (ev e x) (args.map (ev e)) = some (c, vs))
 (h : Wk T c vs hp (fun out h' => match out with | .ret v => Wo T l ⟨dstUpd e dst v, h', d⟩ Q | .pan v => Q (some v) ⟨e, h', d⟩)) : Wo T (⟨dst, .callv x args, none⟩ :: l) ⟨e, hp, d⟩ Q :=
 Wo_callC (fun _ => by simp only [istm, ht]) h
theorem Wo_panic {x : Opd} {dst : Option Nat} {l : List Step} {e : Env} {hp : Heap} {d : Option (List Dfr)} {t : TypeId} {v : Value} {Q : Option Value → St → Prop} (hx : ev e x = .iface t v) (h : Q (some (.iface t v)) ⟨e, hp, d⟩) : Wo T (⟨dst, .panic x, none⟩ :: l) ⟨e, hp, d⟩ Q :=
 ⟨0, _, _, by simp only [iops, wantedE, if_true, istm, hx], h⟩
def calm : List Step → Bool
 | [] => true
 | x :: l => (kdStm x.stm != .E) && calm l
theorem idraw_calm {call : CallF} {anc : List (List Nat)} {ds : List Nat} : ∀ {l : List Step} {i : Nat} {rs : List (Nat × Loc)} {s s' : St}, calm l = true → iops call l s = some (none, s') → idraw call anc ds l i rs [] s = some (none, s')
 | [], i, rs, s, s', _, h => h
 | x :: l, i, rs, s, s', hc, h => by
  simp only [calm, Bool.and_eq_true, bne_iff_ne, ne_eq] at hc
  simp only [iops] at h
  simp only [idraw]
  by_cases hw : wantedE s.e x.grd = true
  ·rw [if_pos hw] at h ⊢
   cases hm : istm call x.dst x.stm s with
   | none => rw [hm] at h; cases h
   | some q =>
    obtain ⟨r, s1⟩ := q
    rw [hm] at h
    cases r with
    | some v => simp only [Option.some.injEq, Prod.mk.injEq, reduceCtorEq, false_and] at h
    | none =>
     simp only at h ⊢
     cases hk : kdStm x.stm with
     | P => exact idraw_calm hc.2 h
     | R => simp only [List.not_mem_nil, false_implies, implies_true, if_true]; exact idraw_calm hc.2 h
     | A => exact idraw_calm hc.2 h
     | E => exact (hc.1 hk).elim
  ·rw [if_neg hw] at h ⊢
   exact idraw_calm hc.2 h
theorem Wc_draw_calm {l : List Step} {anc : List (List Nat)} {s : St} {Q : Ex → St → Prop} (hc : calm l = true) (h : Wo T l s (fun r s' => r = none ∧ Q .normal s')) : Wc T (.draw l anc) s Q := by
 obtain ⟨n, r, s', h1, rfl, h2⟩ := h
 exact ⟨n, .normal, s', by simp only [icode, idraw_calm hc h1, exOf], h2⟩
def still (anc : List (List Nat)) : List Step → Nat → List Nat → List Nat → Bool
 | [], _, _, _ => true
 | x :: l, i, ras, es => match kdStm x.stm with
  | .P => still anc l (i + 1) ras es
  | .R => (es.all fun k => (anc.getD i []).contains k) && still anc l (i + 1) (i :: ras) es
  | .A => still anc l (i + 1) (i :: ras) es
  | .E => (ras.all fun k => (anc.getD i []).contains k) && still anc l (i + 1) ras (i :: es)
theorem still_mono {anc : List (List Nat)} : ∀ {l : List Step} {i : Nat} {ras ras' es es' : List Nat}, still anc l i ras es = true → (∀ k ∈ ras', k ∈ ras) → (∀ k ∈ es', k ∈ es) → still anc l i ras' es' = true
 | [], _, _, _, _, _, _, _, _ => rfl
 | x :: l, i, ras, ras', es, es', h, h1, h2 => by
  simp only [still] at h ⊢
  cases hk : kdStm x.stm <;> rw [hk] at h <;> simp only [Bool.and_eq_true] at h ⊢
  ·exact still_mono h h1 h2
  ·exact ⟨List.all_eq_true.2 fun k hk => List.all_eq_true.1 h.1 k (h2 k hk), still_mono h.2 (fun k hk => by rcases List.mem_cons.1 hk with rfl | hk; exact List.mem_cons_self ..; exact List.mem_cons_of_mem _ (h1 k hk)) h2⟩
  ·exact still_mono h (fun k hk => by rcases List.mem_cons.1 hk with rfl | hk; exact List.mem_cons_self ..; exact List.mem_cons_of_mem _ (h1 k hk)) h2
  ·exact ⟨List.all_eq_true.2 fun k hk => List.all_eq_true.1 h.1 k (h1 k hk), still_mono h.2 h1 (fun k hk => by rcases List.mem_cons.1 hk with rfl | hk; exact List.mem_cons_self ..; exact List.mem_cons_of_mem _ (h2 k hk))⟩
theorem idraw_still {call : CallF} {anc : List (List Nat)} {ds : List Nat} : ∀ {l : List Step} {i : Nat} {ras es0 : List Nat} {rs : List (Nat × Loc)} {es : List (Nat × Heap × Heap)} {s s' : St}, still anc l i ras es0 = true → (∀ p ∈ rs, p.1 ∈ ras) → (∀ p ∈ es, p.1 ∈ es0) →
 iops call l s = some (none, s') → idraw call anc ds l i rs es s = some (none, s')
 | [], i, ras, es0, rs, es, s, s', _, _, _, h => h
 | x :: l, i, ras, es0, rs, es, s, s', hc, hrs, hes, h => by
  simp only [iops] at h
  simp only [idraw]
  simp only [still] at hc
  by_cases hw : wantedE s.e x.grd = true
  ·rw [if_pos hw] at h ⊢
   cases hm : istm call x.dst x.stm s with
   | none => rw [hm] at h; cases h
   | some q =>
    obtain ⟨r, s1⟩ := q
    rw [hm] at h
    cases r with
    | some v => simp only [Option.some.injEq, Prod.mk.injEq, reduceCtorEq, false_and] at h
    | none =>
     simp only at h ⊢
     cases hk : kdStm x.stm with
     | P => rw [hk] at hc; exact idraw_still hc hrs hes h
     | R =>
      rw [hk] at hc
      simp only [Bool.and_eq_true] at hc
      simp only
      rw [if_pos (fun p hp => .inl (by simpa using List.all_eq_true.1 hc.1 p.1 (hes p hp)))]
      exact idraw_still hc.2 (fun p hp => by rcases List.mem_cons.1 hp with rfl | hp; exact List.mem_cons_self ..; exact List.mem_cons_of_mem _ (hrs p hp)) hes h
     | A =>
      rw [hk] at hc
      exact idraw_still hc (fun p hp => by rcases List.mem_cons.1 hp with rfl | hp; exact List.mem_cons_self ..; exact List.mem_cons_of_mem _ (hrs p hp)) hes h
     | E =>
      rw [hk] at hc
      simp only [Bool.and_eq_true] at hc
      simp only
      rw [if_pos (fun p hp => .inl (by simpa using List.all_eq_true.1 hc.1 p.1 (hrs p hp)))]
      exact idraw_still hc.2 hrs (fun p hp => by rcases List.mem_cons.1 hp with rfl | hp; exact List.mem_cons_self ..; exact List.mem_cons_of_mem _ (hes p hp)) h
  ·rw [if_neg hw] at h ⊢
   refine idraw_still (ras := ras) (es0 := es0) ?_ hrs hes h
   cases hk : kdStm x.stm <;> rw [hk] at hc <;> simp only [Bool.and_eq_true] at hc
   ·exact hc
   ·exact still_mono hc.2 (fun k hk => List.mem_cons_of_mem _ hk) (fun k hk => hk)
   ·exact still_mono hc (fun k hk => List.mem_cons_of_mem _ hk) (fun k hk => hk)
   ·exact still_mono hc.2 (fun k hk => hk) (fun k hk => List.mem_cons_of_mem _ hk)
theorem Wc_draw_still {l : List Step} {anc : List (List Nat)} {s : St} {Q : Ex → St → Prop} (hc : still anc l 0 [] [] = true) (h : Wo T l s (fun r s' => r = none ∧ Q .normal s')) : Wc T (.draw l anc) s Q := by
 obtain ⟨n, r, s', h1, rfl, h2⟩ := h
 have hd := idraw_still (ds := l.filterMap (·.dst)) (rs := []) (es := []) hc (fun p hp => by simp at hp) (fun p hp => by simp at hp) h1
 exact ⟨n, .normal, s', by simp only [icode, hd, exOf], h2⟩
theorem Wk_fn {f : FuncId} {fn : IFn} {args : List Value} {h : Heap} {K : Out → Heap → Prop} (hf : T.fn f = some fn) (hl : args.length ≤ fn.nt)
 (hb : Wc T fn.code ⟨args0 args, h, some []⟩ (fun x s => (x = .normal ∨ x = .ret) ∧ s.d = some [] ∧ ∃ vs, resAll s.e s.h fn.res = some vs ∧ K (.ret (tup vs)) s.h)) : Wk T (.fn f) args h K := by
 obtain ⟨n, x, s, h1, hx, hd, vs, hv, hK⟩ := hb
 refine ⟨n + 1, .ret (tup vs), s.h, ?_, hK⟩
 have hlv : ileave (icall T n) T n fn none s = some (.ret (tup vs), s.h) := by
  unfold ileave
  rw [hd]
  simp only [idefer, hv, Option.map_some]
 rcases hx with rfl | rfl
 ·simp only [icall, hf, if_neg (Nat.not_lt.2 hl), h1, hlv]
 ·simp only [icall, hf, if_neg (Nat.not_lt.2 hl), h1, hlv]
theorem Wk_prim {f : FuncId} {p : List Value → Option Value} {args : List Value} {v : Value} {h : Heap} {K : Out → Heap → Prop} (hf : T.fn f = none) (hp : T.prim f = some p) (hv : p args = some v) (hK : K (.ret v) h) : Wk T (.fn f) args h K :=
 ⟨1, .ret v, h, by simp only [icall, hf, hp, hv, Option.map_some], hK⟩
structure Kept (h h' : Heap) : Prop where
 next : h.next ≤ h'.next
 get : ∀ b, b < h.next → h'.get b = h.get b
theorem Kept.refl (h : Heap) : Kept h h := ⟨Nat.le_refl _, fun _ _ => rfl⟩
theorem Kept.trans {a b c : Heap} (x : Kept a b) (y : Kept b c) : Kept a c := ⟨Nat.le_trans x.next y.next, fun k hk => (y.get k (Nat.lt_of_lt_of_le hk x.next)).trans (x.get k hk)⟩
theorem Kept.new {a b : Heap} (x : Kept a b) (o : Blk) : Kept a (b.new o) := ⟨Nat.le_succ_of_le x.next, fun k hk => by
 have := x.next
 simp only [Heap.new]
 rw [if_neg (by omega)]; exact x.get k hk⟩
theorem Kept.set {a b : Heap} (x : Kept a b) {i : Nat} (hi : a.next ≤ i) (o : Blk) : Kept a (b.set i o) := ⟨x.next, fun k hk => by
 simp only [Heap.set]
 rw [if_neg (by omega)]; exact x.get k hk⟩
def iK (call : CallF) (dst : Option Nat) (l : List Step) (e : Env) (d : Option (List Dfr)) : Option (Value × Heap) → Option (Option Value × St)
 | some (v, h) => iops call l ⟨dstUpd e dst v, h, d⟩
 | none => none
theorem iK_some (call : CallF) (dst : Option Nat) (l : List Step) (e : Env) (d : Option (List Dfr)) (v : Value) (h : Heap) : iK call dst l e d (some (v, h)) = iops call l ⟨dstUpd e dst v, h, d⟩ := rfl
def iG (call : CallF) (dst : Option Nat) (m : Stm) (l : List Step) (s : St) : Bool → Option (Option Value × St)
 | true => iops call (⟨dst, m, none⟩ :: l) s
 | false => iops call l { s with e := dstUpd s.e dst undef }
theorem iG_true (call : CallF) (dst : Option Nat) (m : Stm) (l : List Step) (s : St) : iG call dst m l s true = iops call (⟨dst, m, none⟩ :: l) s := rfl
theorem iG_false (call : CallF) (dst : Option Nat) (m : Stm) (l : List Step) (e : Env) (h : Heap) (d : Option (List Dfr)) : iG call dst m l ⟨e, h, d⟩ false = iops call l ⟨dstUpd e dst undef, h, d⟩ := rfl
def gval : Value → Bool → Bool
 | .bool c, w => c == w
 | _, _ => false
theorem gval_bool (c w : Bool) : gval (.bool c) w = (c == w) := rfl
theorem iops_nil (call : CallF) (s : St) : iops call [] s = some (none, s) := rfl
theorem iops_op (call : CallF) (dst : Option Nat) (o : IOp) (l : List Step) (e : Env) (h : Heap) (d : Option (List Dfr)) : iops call (⟨dst, .op o, none⟩ :: l) ⟨e, h, d⟩ = iK call dst l e d (iop o e h) := by
 simp only [iops, wantedE, if_true, istm]
 cases iop o e h <;> rfl
theorem iops_grd (call : CallF) (dst : Option Nat) (m : Stm) (j : Nat) (w : Bool) (l : List Step) (e : Env) (h : Heap) (d : Option (List Dfr)) : iops call (⟨dst, m, some (j, w)⟩ :: l) ⟨e, h, d⟩ = iG call dst m l ⟨e, h, d⟩ (gval (e j) w) := by
 have hg : wantedE e (some (j, w)) = gval (e j) w := by
  simp only [wantedE]
  cases e j <;> rfl
 simp only [iops, hg]
 cases gval (e j) w with
 | true => simp only [if_true, iG, iops, wantedE]
 | false => simp only [Bool.false_eq_true, if_false, iG]
end Go.Idl
end

section
namespace Go.Idl
variable {T : Tbl}
theorem Wo_run {T : Tbl} {l : List Step} {s s' : St} {Q : Option Value → St → Prop} (h : ∀ call : CallF, iops call l s = some (none, s')) (k : Q none s') : Wo T l s Q := ⟨0, none, s', h _, k⟩
theorem iops_append (call : CallF) : ∀ (a b : List Step) {s s' : St}, iops call a s = some (none, s') → iops call (a ++ b) s = iops call b s'
 | [], b, s, s', h => by simp only [iops, Option.some.injEq, Prod.mk.injEq, true_and] at h; subst h; rfl
 | x :: a, b, s, s', h => by
  simp only [iops] at h
  simp only [List.cons_append, iops]
  split
  ·rename_i hw
   rw [if_pos hw] at h
   split
   ·rename_i s1 hs; rw [hs] at h; exact iops_append call a b h
   ·rename_i hs
    exfalso
    split at h
    ·rename_i s1 h1; exact hs s1 h1
    ·exact hs _ h
  ·rename_i hw
   rw [if_neg hw] at h
   exact iops_append call a b h
theorem Wo_pre (n : Nat) {l : List Step} {s s' : St} {Q : Option Value → St → Prop} (h : ∀ call : CallF, iops call (l.take n) s = some (none, s')) (k : Wo T (l.drop n) s' Q) : Wo T l s Q := by
 obtain ⟨m, r, s2, h1, h2⟩ := k
 refine ⟨m, r, s2, ?_, h2⟩
 rw [← List.take_append_drop n l, iops_append _ _ _ (h _), h1]
theorem Wo_take {dst : Option Nat} {m : Stm} {l : List Step} {e : Env} {hp : Heap} {d : Option (List Dfr)} {j : Nat} {w : Bool} {Q : Option Value → St → Prop} (hg : gval (e j) w = true) (h : Wo T (⟨dst, m, none⟩ :: l) ⟨e, hp, d⟩ Q) : Wo T (⟨dst, m, some (j, w)⟩ :: l) ⟨e, hp, d⟩ Q := by
 obtain ⟨n, r, s', h1, h2⟩ := h
 exact ⟨n, r, s', by rw [iops_grd, hg]; exact h1, h2⟩
theorem wrap64 {x : Int} (h1 : -9223372036854775808 ≤ x) (h2 : x ≤ 9223372036854775807) : IntKind.i64.wrap x = x := by
 simp [IntKind.wrap, IntKind.signed, IntKind.bits]; omega
theorem idx_ok {n len : Nat} (h : n < len) : idxV len (.int .i64 n) = some n := by simp [idxV, h]
theorem set_get' (h : Heap) (b : Nat) (o : Blk) : (h.set b o).get b = some o := by simp [Heap.set]
theorem set_get_ne' (h : Heap) (o : Blk) {b c : Nat} (hb : c ≠ b) : (h.set b o).get c = h.get c := by simp [Heap.set, hb]
theorem new_get' (h : Heap) (o : Blk) : (h.new o).get h.next = some o := by simp [Heap.new]
theorem new_get_ne' (h : Heap) (o : Blk) {c : Nat} (hb : c ≠ h.next) : (h.new o).get c = h.get c := by simp [Heap.new, hb]
theorem new_next (h : Heap) (o : Blk) : (h.new o).next = h.next + 1 := rfl
theorem set_next (h : Heap) (b : Nat) (o : Blk) : (h.set b o).next = h.next := rfl
theorem Wc_draw {l : List Step} {anc : List (List Nat)} {s : St} {Q : Ex → St → Prop} (h : Wd T anc (l.filterMap (·.dst)) l 0 [] [] s (To Q)) : Wc T (.draw l anc) s Q := by
 obtain ⟨n, r, s', h1, h2⟩ := h
 cases r with
 | none => exact ⟨n, .normal, s', by simp only [icode, h1, exOf], h2⟩
 | some v => exact ⟨n, .pan v, s', by simp only [icode, h1, exOf], h2⟩
section
variable {anc : List (List Nat)} {ds : List Nat} {dst : Option Nat} {o : IOp} {l : List Step} {i : Nat} {rs : List (Nat × Loc)} {es : List (Nat × Heap × Heap)} {e : Env} {hp h' : Heap} {d : Option (List Dfr)} {v : Value} {Q : Option Value → St → Prop}
theorem Wd_nil {s : St} (h : Q none s) : Wd T anc ds [] i rs es s Q := ⟨0, none, s, rfl, h⟩
theorem Wd_P (hk : kdOp o = .P) (hi : iop o e hp = some (v, h')) (k : Wd T anc ds l (i + 1) rs es ⟨dstUpd e dst v, h', d⟩ Q) : Wd T anc ds (⟨dst, .op o, none⟩ :: l) i rs es ⟨e, hp, d⟩ Q := by
 obtain ⟨n, r, s', h1, h2⟩ := k
 exact ⟨n, r, s', by simp only [idraw, wantedE, if_true, istm, hi, kdStm, hk]; exact h1, h2⟩
theorem Wd_A (hk : kdOp o = .A) (hi : iop o e hp = some (v, h')) (k : Wd T anc ds l (i + 1) ((i, .blk hp.next) :: rs) es ⟨dstUpd e dst v, h', d⟩ Q) : Wd T anc ds (⟨dst, .op o, none⟩ :: l) i rs es ⟨e, hp, d⟩ Q := by
 obtain ⟨n, r, s', h1, h2⟩ := k
 exact ⟨n, r, s', by simp only [idraw, wantedE, if_true, istm, hi, kdStm, hk]; exact h1, h2⟩
theorem Wd_R (hk : kdOp o = .R) (hi : iop o e hp = some (v, h')) (hc : ∀ p ∈ es, p.1 ∈ anc.getD i [] ∨ sameAt p.2.1 p.2.2 (locOp o e)) (k : Wd T anc ds l (i + 1) ((i, locOp o e) :: rs) es ⟨dstUpd e dst v, h', d⟩ Q) : Wd T anc ds (⟨dst, .op o, none⟩ :: l) i rs es ⟨e, hp, d⟩ Q := by
 obtain ⟨n, r, s', h1, h2⟩ := k
 refine ⟨n, r, s', ?_, h2⟩
 simp only [idraw, wantedE, if_true, istm, hi, kdStm, hk]
 exact (if_pos hc).trans h1
theorem Wd_E (hk : kdOp o = .E) (hi : iop o e hp = some (v, h')) (hc : ∀ p ∈ rs, p.1 ∈ anc.getD i [] ∨ sameAt hp h' p.2) (k : Wd T anc ds l (i + 1) rs ((i, hp, h') :: es) ⟨dstUpd e dst v, h', d⟩ Q) : Wd T anc ds (⟨dst, .op o, none⟩ :: l) i rs es ⟨e, hp, d⟩ Q := by
 obtain ⟨n, r, s', h1, h2⟩ := k
 refine ⟨n, r, s', ?_, h2⟩
 simp only [idraw, wantedE, if_true, istm, hi, kdStm, hk]
 exact (if_pos hc).trans h1
end
section
variable {anc : List (List Nat)} {ds : List Nat} {dst : Option Nat} {m : Stm} {l : List Step} {i : Nat} {rs : List (Nat × Loc)} {es : List (Nat × Heap × Heap)} {e : Env} {hp : Heap} {d : Option (List Dfr)} {Q : Option Value → St → Prop}
theorem idraw_le {n k : Nat} (h : n ≤ k) {s : St} {r : Option Value × St} (hi : idraw (icall T n) anc ds l i rs es s = some r) : idraw (icall T k) anc ds l i rs es s = some r := idraw_mono (icall_mono T h) hi
theorem Wd_call {f : FuncId} {args : List Opd} (h : Wk T (.fn f) (args.map (ev e)) hp (fun out h' => match out with
 | .ret v => (∀ p ∈ rs, p.1 ∈ anc.getD i [] ∨ sameAt hp h' p.2) ∧ Wd T anc ds l (i + 1) rs ((i, hp, h') :: es) ⟨dstUpd e dst v, h', d⟩ Q | .pan v => False)) : Wd T anc ds (⟨dst, .call f args, none⟩ :: l) i rs es ⟨e, hp, d⟩ Q := by
 obtain ⟨n, out, h', h1, h2⟩ := h
 cases out with
 | pan v => exact h2.elim
 | ret v =>
  obtain ⟨hc, k, r, s', h3, h4⟩ := h2
  refine ⟨max n k, r, s', ?_, h4⟩
  have hm : istm (icall T (max n k)) dst (.call f args) ⟨e, hp, d⟩ = some (none, ⟨dstUpd e dst v, h', d⟩) := by
   simp only [istm, icall_mono T (Nat.le_max_left n k) _ _ _ _ h1, afterCall]
  simp only [idraw, wantedE, if_true, hm, kdStm]
  exact (if_pos hc).trans (idraw_le (Nat.le_max_right n k) h3)
end
theorem sameAt_cells {h : Heap} {b c o n : Nat} {x : Blk} (hb : c ≠ b) : sameAt h (h.set b x) (.cells c o n) := by
 simp only [sameAt, Heap.cells, set_get_ne' h x hb]
end Go.Idl
end

section
namespace Go.Idl
def scal : Value → Bool
 | .bool _ => true
 | .int _ _ => true
 | .string _ => true
 | .nilIface => true
 | _ => false
def pure1 : Value → Bool
 | .agg cs => cs.toList.all scal
 | .tuple cs => cs.toList.all scal
 | v => scal v
theorem scal_eq {ι : Inj} {v v' : Value} (h : Rep ι v v') (hs : scal v = true) : v' = v := by
 cases h <;> first | rfl | cases hs
theorem scal_rep (ι : Inj) {v : Value} (hs : scal v = true) : Rep ι v v ∧ flat v = true := by
 cases v <;> first | exact ⟨.bool _, rfl⟩ | exact ⟨.int _ _, rfl⟩ | exact ⟨.string _, rfl⟩ | exact ⟨.nilIface, rfl⟩ | cases hs
theorem arr_scal {x x' : Array Value} (hl : x.size = x'.size) (h : ∀ (k : Nat) v v', x[k]? = some v → x'[k]? = some v' → v' = v) : x' = x := by
 apply Array.ext
 ·exact hl.symm
 ·intro i h1 h2
  exact h i _ _ (Array.getElem?_eq_getElem h2) (Array.getElem?_eq_getElem h1)
theorem all_at {x : Array Value} (h : x.toList.all scal = true) {k : Nat} {v : Value} (hv : x[k]? = some v) : scal v = true :=
 List.all_eq_true.1 h v (by rw [← Array.getElem?_toList] at hv; exact List.mem_of_getElem? hv)
theorem pure1_eq {ι : Inj} {v v' : Value} (h : Rep ι v v') (hs : pure1 v = true) : v' = v := by
 cases h with
 | agg h1 h2 h3 => rw [arr_scal h1 fun k u u' e1 e2 => scal_eq (h3 k u u' e1 e2) (all_at hs e1)]
 | tuple h1 h3 => rw [arr_scal h1 fun k u u' e1 e2 => scal_eq (h3 k u u' e1 e2) (all_at hs e1)]
 | _ => first | rfl | cases hs
theorem pure1_rep (ι : Inj) {v : Value} (hs : pure1 v = true) : Rep ι v v := by
 cases v with
 | agg cs => exact .agg rfl (fun k u hu => (scal_rep ι (all_at hs hu)).2) (fun k u u' e1 e2 => by rw [e1] at e2; cases e2; exact (scal_rep ι (all_at hs e1)).1)
 | tuple cs => exact .tuple rfl (fun k u u' e1 e2 => by rw [e1] at e2; cases e2; exact (scal_rep ι (all_at hs e1)).1)
 | bool b => exact .bool b
 | int k n => exact .int k n
 | string s => exact .string s
 | nilIface => exact .nilIface
 | _ => cases hs
theorem args_eq {ι : Inj} {args rargs : List Value} (h : RepL ι args rargs) (hs : args.all pure1 = true) : rargs = args := by
 apply List.ext_getElem?
 intro k
 by_cases hk : k < args.length
 ·have e1 := List.getElem?_eq_getElem hk
  have e2 := List.getElem?_eq_getElem (show k < rargs.length by rw [← h.1]; exact hk)
  have := pure1_eq (h.2 k _ _ e1 e2) (List.all_eq_true.1 hs _ (List.getElem_mem hk))
  rw [e1, e2, this]
 ·rw [List.getElem?_eq_none (by rw [← h.1]; omega), List.getElem?_eq_none (by omega)]
theorem args_rep (ι : Inj) : ∀ {args : List Value}, args.all pure1 = true → RepL ι args args
 | [], _ => .nil ι
 | a :: l, h => by
  simp only [List.all_cons, Bool.and_eq_true] at h
  exact RepL.cons (pure1_rep ι h.1) (args_rep ι h.2)
def PrimOkG (P : Program) (G : World → Prop) (f : FuncId) (p : List Value → Option Value) : Prop := CalleeOk P f ∧ ∀ args v, p args = some v → (∀ ι rargs, RepL ι args rargs → rargs = args) ∧ (∀ ι, Rep ι v v) ∧
 ∀ w, G w → Calls P f args.toArray w (fun e w' => e = .returned v ∧ Grew w w' ∧ w'.os = w.os ∧ w'.tape = w.tape ∧ w'.output = w.output)
theorem calls_pure {P : Program} {G : World → Prop} (hG : GoodW G) {T : Tbl} (hT : TblOkG P G T) {f : FuncId} {args : List Value} {v : Value} {h' : Heap} {n : Nat} (hi : icall T n (.fn f) args ⟨fun _ => none, 0⟩ = some (.ret v, h')) (ha : args.all pure1 = true) (hv : pure1 v = true) (W : World) (hW : G W) :
 Calls P f args.toArray W fun e W' => e = .returned v ∧ Grew W W' ∧ W'.os = W.os ∧ W'.tape = W.tape ∧ W'.output = W.output := by
 have hk : Ok P W.heap.size W (fun _ => none) ⟨fun _ => none, 0⟩ W :=
  ⟨sim_empty (CRel P) _ (fun _ => none) 0 (fun b i h => (by cases h)) W, Nat.le_refl _, fun _ _ => rfl⟩
 refine (calls_oldG hG hT hi hW hk (args_rep _ ha)).mono fun e W' hp => ?_
 obtain ⟨⟨v', rfl, ι', hr⟩, h1, h2, h3, h4, h5⟩ := hp
 exact ⟨by rw [pure1_eq hr hv], ⟨h1, h2⟩, h3, h4, h5⟩
theorem primOk_pureG {P : Program} {G : World → Prop} (hG : GoodW G) {T : Tbl} (hT : TblOkG P G T) {f : FuncId} (hok : CalleeOk P f) {p : List Value → Option Value}
 (h : ∀ args v, p args = some v → args.all pure1 = true ∧ pure1 v = true ∧ ∃ n h', icall T n (.fn f) args ⟨fun _ => none, 0⟩ = some (.ret v, h')) : PrimOkG P G f p := by
 refine ⟨hok, fun args v hv => ?_⟩
 obtain ⟨h1, h2, n, h', hi⟩ := h args v hv
 exact ⟨fun ι rargs hr => args_eq hr h1, fun ι => pure1_rep ι h2, fun w hw => calls_pure hG hT hi h1 h2 w hw⟩
theorem calleeOk_mk {P : Program} {f : FuncId} {F : Func} (h : P.funcs[f]? = some F) (hb : F.body.isSome = true) (hn : (F.name == "runtime.NumGoroutine") = false) : CalleeOk P f := ⟨F, h, hb, hn⟩
def veq2 : Value → Value → Bool
 | .agg a, .agg b => leq a.toList b.toList
 | .tuple a, .tuple b => leq a.toList b.toList
 | a, b => veq a b
theorem veq2_eq {a b : Value} (h : veq2 a b = true) : a = b := by
 unfold veq2 at h
 split at h
 ·rw [← Array.toList_inj.1 (leq_eq h)]
 ·rw [← Array.toList_inj.1 (leq_eq h)]
 ·exact veq_eq h
def setPrim (T : Tbl) (f : FuncId) (p : List Value → Option Value) : Tbl := { fn := fun g => if g = f then none else T.fn g, prim := fun g => if g = f then some p else T.prim g }
theorem setPrim_ok {P : Program} {G : World → Prop} {T : Tbl} (hT : TblOkG P G T) {f : FuncId} {p : List Value → Option Value} (hp : PrimOkG P G f p) : TblOkG P G (setPrim T f p) := by
 refine ⟨fun g fn h => ?_, fun g q h => ?_⟩
 ·simp only [setPrim] at h
  split at h
  ·cases h
  ·exact hT.fn g fn h
 ·simp only [setPrim] at h
  split at h
  ·rename_i hg
   subst hg
   cases h
   exact hp
  ·exact hT.prim g q h
end Go.Idl
end

section
namespace Go.Idl
def ints64 (l : List Int) : List Value := l.map fun n => .int .i64 n
def intsAt (h : Heap) (v : Value) (l : List Int) : Prop :=
 (v = .slice none 0 0 ∧ l = []) ∨ ∃ b c, v = .slice (some ⟨b, 0, none⟩) l.length c ∧ b < h.next ∧ (l = [] ∨ ∃ o z, h.get b = some (.cells (ints64 l) o z))
theorem intsAt.keep {h h' : Heap} (hk : Kept h h') {v : Value} {l : List Int} (hh : intsAt h v l) : intsAt h' v l := by
 rcases hh with hh | ⟨b, c, h1, h2, h3⟩
 ·exact .inl hh
 ·exact .inr ⟨b, c, h1, Nat.lt_of_lt_of_le h2 hk.next, h3.imp id fun ⟨o, z, h⟩ => ⟨o, z, by rw [hk.get b h2]; exact h⟩⟩
structure Meas {H : Type} (f : DataW H → Nat) : Prop where
 str : ∀ bytes, bytes.length + 1 ≤ f (.lit (.string bytes))
 lit : ∀ x, 1 ≤ f (.lit x)
 sl : ∀ es sp, (es.map f).sum ≤ f (.slice es sp)
 agg : ∀ ds, (ds.map f).sum + 1 ≤ f (.agg ds)
theorem intsAt.len {h : Heap} {v : Value} {l : List Int} (hh : intsAt h v l) : ∃ a c, v = .slice a l.length c := by
 rcases hh with ⟨rfl, rfl⟩ | ⟨b, c, h1, _⟩
 ·exact ⟨none, 0, rfl⟩
 ·exact ⟨_, c, h1⟩
theorem intsAt.load {h : Heap} {v : Value} {l : List Int} (hh : intsAt h v l) {i : Nat} {k : Int} (hi : l[i]? = some k) : ∃ b c, v = .slice (some ⟨b, 0, none⟩) l.length c ∧ b < h.next ∧ (∃ o z, h.get b = some (.cells (ints64 l) o z)) ∧ (ints64 l)[0 + i * 1]? = some (.int .i64 k) := by
 have hlt : i < l.length := (List.getElem?_eq_some_iff.1 hi).1
 rcases hh with ⟨_, rfl⟩ | ⟨b, c, h1, h2, h3⟩
 ·simp at hlt
 ·rcases h3 with rfl | h3
  ·simp at hlt
  ·exact ⟨b, c, h1, h2, h3, by simp [ints64, hi]⟩
theorem ints64_get {l : List Int} {i : Nat} {k : Int} (h : l[i]? = some k) : (ints64 l)[i]? = some (.int .i64 k) := by simp [ints64, h]
theorem intsAt.block_lt {h : Heap} {v : Value} {l : List Int} (hh : intsAt h v l) : ∀ p n c, v = .slice (some p) n c → p.block < h.next := by
 intro p n c hv
 rcases hh with ⟨rfl, _⟩ | ⟨k, c', h1, h2, h3⟩
 ·cases hv
 ·rw [h1] at hv; cases hv; exact h2
theorem ints64_append (a b : List Int) : ints64 (a ++ b) = ints64 a ++ ints64 b := by simp [ints64]
theorem ints64_length (a : List Int) : (ints64 a).length = a.length := by simp [ints64]
theorem intsAt.elems {h : Heap} {v : Value} {l : List Int} (hh : intsAt h v l) : elemsOf h 1 v = some (l.length, ints64 l) := by
 rcases hh with ⟨rfl, rfl⟩ | ⟨b, c, rfl, hb, hg⟩
 ·rfl
 ·by_cases h0 : l.length = 0
  ·have : l = [] := List.length_eq_zero_iff.1 h0
   subst this
   simp [elemsOf, ints64]
  ·obtain ⟨o, z, hg⟩ := hg.resolve_left (fun e => h0 (by rw [e]; rfl))
   simp only [elemsOf, h0, if_false, Heap.cells, hg, Nat.zero_add, Nat.mul_one, ints64_length, Nat.le_refl, if_true, List.drop_zero, Option.map_some]
   rw [List.take_of_length_le (by rw [ints64_length]; omega)]
def ownI (n0 : Nat) (h : Heap) (v : Value) (l : List Int) : Prop :=
 (l = [] ∧ v = .slice none 0 0) ∨ ∃ b, n0 ≤ b ∧ b < h.next ∧ v = .slice (some ⟨b, 0, none⟩) l.length (l.length + 1) ∧ h.get b = some (.cells (ints64 l) true 1)
theorem ownI.ints {n0 : Nat} {h : Heap} {v : Value} {l : List Int} (hh : ownI n0 h v l) : intsAt h v l := by
 rcases hh with ⟨rfl, rfl⟩ | ⟨b, h1, h2, h3, h4⟩
 ·exact .inl ⟨rfl, rfl⟩
 ·exact .inr ⟨b, _, h3, h2, .inr ⟨_, _, h4⟩⟩
structure Beside (v : Value) (h h' : Heap) : Prop where
 next : h.next ≤ h'.next
 get : ∀ b, b < h.next → (∀ p n c, v = .slice (some p) n c → p.block ≠ b) → h'.get b = h.get b
theorem Beside.kept {n0 : Nat} {h0 h h' : Heap} {v : Value} {l : List Int} (hb : Beside v h h') (ho : ownI n0 h v l) (hn : h0.next ≤ n0) (hk : Kept h0 h) : Kept h0 h' := by
 refine ⟨Nat.le_trans hk.next hb.next, fun b hlt => ?_⟩
 rw [hb.get b (Nat.lt_of_lt_of_le hlt hk.next) ?_, hk.get b hlt]
 intro p n c hv
 rcases ho with ⟨_, h1⟩ | ⟨k, h1, h2, h3, _⟩
 ·rw [h1] at hv; cases hv
 ·rw [h3] at hv; cases hv
  simp only; omega
theorem append_own {n0 : Nat} {h : Heap} {v x : Value} {l m : List Int} (ho : ownI n0 h v l) (hk : n0 ≤ h.next) (hx : elemsOf h 1 x = some (m.length, ints64 m)) (hs : l.length + m.length ≤ 10000000) :
 ∃ v' h', appendV 1 8 v x h = some (v', h') ∧ Beside v h h' ∧ ownI n0 h' v' (l ++ m) ∧ (∀ p n c, v' = .slice (some p) n c → v' = v ∨ h.next ≤ p.block) := by
 by_cases h0m : m.length = 0
 ·have : m = [] := List.length_eq_zero_iff.1 h0m
  subst this
  rw [List.append_nil]
  refine ⟨v, h, ?_, ⟨Nat.le_refl _, fun _ _ _ => rfl⟩, ho, fun p n c hv => .inl rfl⟩
  rcases ho with ⟨_, rfl⟩ | ⟨b, _, _, rfl, _⟩
  ·simp [appendV, hx]
  ·simp [appendV, hx]
 ·rcases ho with ⟨rfl, rfl⟩ | ⟨b, h1, h2, rfl, h4⟩
  ·rw [List.nil_append]
   refine ⟨_, _, by simp only [appendV, hx, h0m, if_false]; rw [if_pos (by omega)], ⟨Nat.le_succ _, fun b hb _ => new_get_ne' _ _ (Nat.ne_of_lt hb)⟩, .inr ⟨h.next, hk, Nat.lt_succ_self _, rfl, new_get' _ _⟩, fun p n c hv => .inr ?_⟩
   simp only [Value.slice.injEq, Option.some.injEq] at hv
   rw [← hv.1]; exact Nat.le_refl _
  ·have hne : ¬ l.length = l.length + 1 := by omega
   refine ⟨.slice (some ⟨h.next, 0, none⟩) (l.length + m.length) (l.length + m.length + 1), (h.set b .dead).new (.cells (ints64 (l ++ m)) true 1), ?_, ⟨Nat.le_succ _, fun k hkk hkb => ?_⟩, .inr ⟨h.next, Nat.le_trans h1 (Nat.le_of_lt h2), Nat.lt_succ_self _, by rw [List.length_append], new_get' _ _⟩, fun p n c hv => .inr ?_⟩
   ·simp only [appendV, hx, h0m, if_false, hne, h4]
    rw [if_pos (by omega), if_pos (by simp [ints64_length])]
    simp only [List.drop_zero, Nat.mul_one]
    rw [List.take_of_length_le (by rw [ints64_length]; omega), ints64_append]
   ·rw [new_get_ne' _ _ (by rw [set_next]; omega), set_get_ne' _ _ (fun e => hkb _ _ _ rfl e.symm)]
   ·simp only [Value.slice.injEq, Option.some.injEq] at hv
    rw [← hv.1]; exact Nat.le_refl _
theorem intsAt.beside {h h' : Heap} {u v : Value} {l : List Int} (hb : Beside u h h') (hh : intsAt h v l) (hn : ∀ p n c, v = .slice (some p) n c → ∀ q m d, u = .slice (some q) m d → q.block ≠ p.block) : intsAt h' v l := by
 rcases hh with hh | ⟨k, c, h1, h2, h3⟩
 ·exact .inl hh
 ·refine .inr ⟨k, c, h1, Nat.lt_of_lt_of_le h2 hb.next, h3.imp id fun ⟨o, z, h⟩ => ⟨o, z, ?_⟩⟩
  rw [hb.get k h2 (fun q m d hu => hn _ _ _ h1 q m d hu)]; exact h
theorem Beside.at {n0 : Nat} {h h' : Heap} {v : Value} {l : List Int} (hb : Beside v h h') (ho : ownI n0 h v l) {b : Nat} (h1 : b < n0) (h2 : b < h.next) : h'.get b = h.get b := by
 refine hb.get b h2 ?_
 intro p n c hv
 rcases ho with ⟨_, e⟩ | ⟨k, e1, _, e3, _⟩
 ·rw [e] at hv; cases hv
 ·rw [e3] at hv; cases hv
  simp only; omega
theorem ownI.keep {n0 : Nat} {h h' : Heap} {v : Value} {l : List Int} (ho : ownI n0 h v l) (hn : h.next ≤ h'.next) (hg : ∀ b, n0 ≤ b → b < h.next → h'.get b = h.get b) : ownI n0 h' v l := by
 rcases ho with ho | ⟨b, h1, h2, h3, h4⟩
 ·exact .inl ho
 ·exact .inr ⟨b, h1, Nat.lt_of_lt_of_le h2 hn, h3, by rw [hg b h1 h2]; exact h4⟩
end Go.Idl
end

section
namespace Go.Idl
def rowsAt {α : Type} (cells : α → List Value) (inner : Heap → α → Prop) (h : Heap) (v : Value) (l : List α) : Prop :=
 ((v = .slice none 0 0 ∧ l = []) ∨ ∃ b c, v = .slice (some ⟨b, 0, none⟩) l.length c ∧ b < h.next ∧ (l = [] ∨ ∃ o z, h.get b = some (.cells (l.flatMap cells) o z))) ∧ ∀ x ∈ l, inner h x
section
variable {α : Type} {cells : α → List Value} {inner : Heap → α → Prop} {n : Nat}
theorem rowsAt.keep (hi : ∀ {h h' : Heap} {x : α}, Kept h h' → inner h x → inner h' x) {h h' : Heap} (hk : Kept h h') {v : Value} {l : List α} (hh : rowsAt cells inner h v l) : rowsAt cells inner h' v l := by
 refine ⟨?_, fun x hx => hi hk (hh.2 x hx)⟩
 rcases hh.1 with hh | ⟨b, c, h1, h2, h3⟩
 ·exact .inl hh
 ·exact .inr ⟨b, c, h1, Nat.lt_of_lt_of_le h2 hk.next, h3.imp id fun ⟨o, z, h⟩ => ⟨o, z, by rw [hk.get b h2]; exact h⟩⟩
theorem rowsAt.len {h : Heap} {v : Value} {l : List α} (hh : rowsAt cells inner h v l) : ∃ a c, v = .slice a l.length c := by
 rcases hh.1 with ⟨rfl, rfl⟩ | ⟨b, c, h1, _⟩
 ·exact ⟨none, 0, rfl⟩
 ·exact ⟨_, c, h1⟩
theorem flat_length (hn : ∀ x, (cells x).length = n) : ∀ l : List α, (l.flatMap cells).length = l.length * n
 | [] => by simp
 | x :: l => by simp only [List.flatMap_cons, List.length_append, hn, flat_length hn l, List.length_cons, Nat.add_mul, Nat.one_mul]; omega
theorem flat_drop (hn : ∀ x, (cells x).length = n) : ∀ (l : List α) (i : Nat) (x : α), l[i]? = some x → ((l.flatMap cells).drop (i * n)).take n = cells x
 | [], i, x, h => by simp at h
 | y :: l, 0, x, h => by
  simp at h; subst h
  simp only [Nat.zero_mul, List.drop_zero, List.flatMap_cons]
  rw [List.take_append_of_le_length (Nat.le_of_eq (hn y).symm), List.take_of_length_le (Nat.le_of_eq (hn y))]
 | y :: l, i + 1, x, h => by
  have ih := flat_drop hn l i x (by simpa using h)
  rw [List.flatMap_cons, Nat.add_mul, Nat.one_mul, List.drop_append, List.drop_of_length_le (by rw [hn]; omega), List.nil_append, hn, show i * n + n - n = i * n by omega]
  exact ih
theorem rowsAt.load (hn : ∀ x, (cells x).length = n) {h : Heap} {v : Value} {l : List α} (hh : rowsAt cells inner h v l) {i : Nat} {x : α} (hi : l[i]? = some x) :
 ∃ b c, v = .slice (some ⟨b, 0, none⟩) l.length c ∧ b < h.next ∧ (∃ o z, h.get b = some (.cells (l.flatMap cells) o z)) ∧ h.cells b (i * n) n = some (cells x) ∧ inner h x := by
 have hlt : i < l.length := (List.getElem?_eq_some_iff.1 hi).1
 have hin := hh.2 x (List.mem_of_getElem? hi)
 rcases hh.1 with ⟨_, rfl⟩ | ⟨b, c, h1, h2, h3⟩
 ·simp at hlt
 ·rcases h3 with rfl | h3
  ·simp at hlt
  ·refine ⟨b, c, h1, h2, h3, ?_, hin⟩
   obtain ⟨o, z, h3⟩ := h3
   have hle : (i + 1) * n ≤ l.length * n := Nat.mul_le_mul_right n hlt
   rw [Nat.add_mul, Nat.one_mul] at hle
   simp only [Heap.cells, h3, flat_length hn]
   rw [if_pos hle, flat_drop hn l i x hi]
end
theorem put_at : ∀ (vs xs : List Value) (o k : Nat), o + vs.length ≤ xs.length → (put xs o vs)[k]? = if k < o then xs[k]? else if k < o + vs.length then vs[k - o]? else xs[k]?
 | [], xs, o, k, _ => by
  simp only [put, List.length_nil, Nat.add_zero]
  split <;> rfl
 | v :: vs, xs, o, k, h => by
  simp only [List.length_cons] at h
  rw [put, put_at vs (xs.set o v) (o + 1) k (by rw [List.length_set]; omega), List.getElem?_set]
  by_cases h1 : k < o
  ·rw [if_pos (by omega), if_pos h1, if_neg (by omega)]
  ·rw [if_neg h1]
   by_cases h2 : k = o
   ·subst h2
    rw [if_pos (by omega), if_pos rfl, if_pos (by omega), if_pos (by simp), Nat.sub_self]
    rfl
   ·rw [if_neg (show ¬ k < o + 1 by omega), List.length_cons, if_neg (show ¬ o = k from fun e => h2 e.symm)]
    by_cases h3 : k < o + 1 + vs.length
    ·rw [if_pos h3, if_pos (by omega), show k - o = (k - (o + 1)) + 1 by omega]
     rfl
    ·rw [if_neg h3, if_neg (show ¬ k < o + (vs.length + 1) by omega)]
theorem put_all {vs xs : List Value} (h : vs.length = xs.length) : put xs 0 vs = vs := by
 apply List.ext_getElem?
 intro k
 rw [put_at _ _ _ _ (by omega), if_neg (by omega), Nat.zero_add, Nat.sub_zero]
 split
 ·rfl
 ·rw [List.getElem?_eq_none (by omega), List.getElem?_eq_none (by omega)]
theorem iop_store {n p q b esz : Nat} {e : Env} {hp : Heap} {cs z : List Value} (h1 : e p = ptr b 0) (h2 : e q = .agg cs.toArray) (h3 : cs.length = n) (h4 : hp.get b = some (.cells z true esz)) (h5 : z.length = n) :
 iop (.store n (.t p) (.t q)) e hp = some (undef, hp.set b (.cells cs true esz)) := by
 simp only [iop, ev, h1, h2, ptr, cellsOf, List.toList_toArray, h3, if_true, Heap.write, h4, h5, Nat.zero_add, Nat.le_refl]
 rw [put_all (h3.trans h5.symm)]
 rfl
theorem cells_all {hp : Heap} {b n esz : Nat} {o : Bool} {cs : List Value} (h : hp.get b = some (.cells cs o esz)) (hl : cs.length = n) : hp.cells b 0 n = some cs := by
 simp only [Heap.cells, h]
 rw [if_pos (by omega), List.drop_zero, List.take_of_length_le (by omega)]
end Go.Idl
end

section
namespace Go.Idl
variable {T : Tbl}
def Below (n : Nat) : Loc → Prop
 | .cells b _ _ => b < n
 | .blk b => b < n
 | .sz b _ => b < n
 | .none => True
theorem Below.le {n m : Nat} (h : n ≤ m) {l : Loc} (hb : Below n l) : Below m l := by
 cases l <;> simp only [Below] at hb ⊢ <;> omega
theorem sameAt_below {h h' : Heap} (hk : Kept h h') {l : Loc} (hb : Below h.next l) : sameAt h h' l := by
 cases l with
 | cells b o n => simp only [sameAt, Heap.cells, hk.get b hb]
 | blk b => exact (hk.get b hb).symm
 | sz b n => simp only [sameAt, okSz, hk.get b hb]
 | none => trivial
structure CalmR (n0 : Nat) (rs : List (Nat × Loc)) (es : List (Nat × Heap × Heap)) (hp : Heap) : Prop where
 base : n0 ≤ hp.next
 rs : ∀ p ∈ rs, Below hp.next p.2
 es : ∀ p ∈ es, Kept p.2.1 p.2.2 ∧ n0 ≤ p.2.1.next
section
variable {anc : List (List Nat)} {ds : List Nat} {dst : Option Nat} {o : IOp} {m : Stm} {l : List Step} {i n0 : Nat} {e : Env} {hp h' : Heap} {d : Option (List Dfr)} {v : Value} {Q : Option Value → St → Prop}
end
end Go.Idl
end

section
namespace Go.Idl
variable {T : Tbl}
def Fin2 (fn : IFn) (K : Out → Heap → Prop) : Ex → St → Prop
 | .pan v, s => s.d = some [] ∧ K (.pan v) s.h
 | .brk _, _ => False
 | _, s => s.d = some [] ∧ ∃ vs, resAll s.e s.h fn.res = some vs ∧ K (.ret (tup vs)) s.h
theorem Wk_fn2 {f : FuncId} {fn : IFn} {args : List Value} {h : Heap} {K : Out → Heap → Prop} (hf : T.fn f = some fn) (hl : args.length ≤ fn.nt) (hb : Wc T fn.code ⟨args0 args, h, some []⟩ (Fin2 fn K)) : Wk T (.fn f) args h K := by
 obtain ⟨n, x, s, h1, h2⟩ := hb
 cases x with
 | brk i => exact h2.elim
 | pan v =>
  obtain ⟨hd, hK⟩ := h2
  refine ⟨n + 1, .pan v, s.h, ?_, hK⟩
  have hlv : ileave (icall T n) T n fn (some v) s = some (.pan v, s.h) := by
   unfold ileave
   rw [hd]
   simp only [idefer]
  simp only [icall, hf, if_neg (Nat.not_lt.2 hl), h1, hlv]
 | normal =>
  obtain ⟨hd, vs, hv, hK⟩ := h2
  refine ⟨n + 1, .ret (tup vs), s.h, ?_, hK⟩
  have hlv : ileave (icall T n) T n fn none s = some (.ret (tup vs), s.h) := by
   unfold ileave
   rw [hd]
   simp only [idefer, hv, Option.map_some]
  simp only [icall, hf, if_neg (Nat.not_lt.2 hl), h1, hlv]
 | ret =>
  obtain ⟨hd, vs, hv, hK⟩ := h2
  refine ⟨n + 1, .ret (tup vs), s.h, ?_, hK⟩
  have hlv : ileave (icall T n) T n fn none s = some (.ret (tup vs), s.h) := by
   unfold ileave
   rw [hd]
   simp only [idefer, hv, Option.map_some]
  simp only [icall, hf, if_neg (Nat.not_lt.2 hl), h1, hlv]
structure KeptBut (m : Nat) (h h' : Heap) : Prop where
 next : h.next ≤ h'.next
 get : ∀ b, b < h.next → b ≠ m → h'.get b = h.get b
theorem KeptBut.refl (m : Nat) (h : Heap) : KeptBut m h h := ⟨Nat.le_refl _, fun _ _ _ => rfl⟩
theorem KeptBut.trans {m : Nat} {a b c : Heap} (x : KeptBut m a b) (y : KeptBut m b c) : KeptBut m a c := ⟨Nat.le_trans x.next y.next, fun k hk hm => (y.get k (Nat.lt_of_lt_of_le hk x.next) hm).trans (x.get k hk hm)⟩
theorem Kept.but {a b : Heap} (x : Kept a b) (m : Nat) : KeptBut m a b := ⟨x.next, fun k hk _ => x.get k hk⟩
end Go.Idl
end

section
namespace Go.Idl
variable {T : Tbl}
def WcD (T : Tbl) (c : IC) (m : Option Value) (s : St) (Q : Ex → Option Value → St → Prop) : Prop := ∃ n x m' s', icodeD (icall T n) n c m s = some (x, m', s') ∧ Q x m' s'
def Lv (T : Tbl) (fn : IFn) (m : Option Value) (s : St) (K : Out → Heap → Prop) : Prop := ∃ n o h', ileave (icall T n) T n fn m s = some (o, h') ∧ K o h'
def FinL (T : Tbl) (fn : IFn) (K : Out → Heap → Prop) : Ex → St → Prop
 | .pan v, s => Lv T fn (some v) s K
 | .brk _, _ => False
 | _, s => Lv T fn none s K
theorem Wk_fnL {f : FuncId} {fn : IFn} {args : List Value} {h : Heap} {K : Out → Heap → Prop} (hf : T.fn f = some fn) (hl : args.length ≤ fn.nt) (hb : Wc T fn.code ⟨args0 args, h, some []⟩ (FinL T fn K)) : Wk T (.fn f) args h K := by
 obtain ⟨n, x, s, h1, h2⟩ := hb
 have hc : ∀ k, n ≤ k → icode (icall T k) k fn.code ⟨args0 args, h, some []⟩ = some (x, s) := fun k hk => icode_le hk h1
 cases x with
 | brk i => exact h2.elim
 | pan v =>
  obtain ⟨k, o, h', h3, h4⟩ := h2
  refine ⟨max n k + 1, o, h', ?_, h4⟩
  simp only [icall, hf, if_neg (Nat.not_lt.2 hl), hc _ (Nat.le_max_left n k)]
  exact ileave_mono (icall_mono T (Nat.le_max_right n k)) (Nat.le_max_right n k) h3
 | normal =>
  obtain ⟨k, o, h', h3, h4⟩ := h2
  refine ⟨max n k + 1, o, h', ?_, h4⟩
  simp only [icall, hf, if_neg (Nat.not_lt.2 hl), hc _ (Nat.le_max_left n k)]
  exact ileave_mono (icall_mono T (Nat.le_max_right n k)) (Nat.le_max_right n k) h3
 | ret =>
  obtain ⟨k, o, h', h3, h4⟩ := h2
  refine ⟨max n k + 1, o, h', ?_, h4⟩
  simp only [icall, hf, if_neg (Nat.not_lt.2 hl), hc _ (Nat.le_max_left n k)]
  exact ileave_mono (icall_mono T (Nat.le_max_right n k)) (Nat.le_max_right n k) h3
theorem Lv_one {fn dfn : IFn} {m : Option Value} {s : St} {g : FuncId} {args : List Value} {K : Out → Heap → Prop} (hd : s.d = some [.fn g args]) (hg : T.fn g = some dfn) (hl : args.length ≤ dfn.nt)
 (h : WcD T dfn.code m ⟨args0 args, s.h, some []⟩ (fun x m' s' => (x = .normal ∨ x = .ret) ∧ s'.d = some [] ∧ (∃ vs, resAll s'.e s'.h dfn.res = some vs) ∧ match m' with
  | some v => K (.pan v) s'.h
  | none => match m with
   | none => ∃ vs, resAll s.e s'.h fn.res = some vs ∧ K (.ret (tup vs)) s'.h
   | some _ => ∃ vs, resAllP s.e s'.h fn.res = some vs ∧ K (.ret (tup vs)) s'.h)) : Lv T fn m s K := by
 obtain ⟨n, x, m', ⟨e', h', d'⟩, h1, hx, hd', ⟨ws, hw⟩, hK⟩ := h
 simp only at hd' hw hK
 subst hd'
 have hi : idefer (icall T n) T n [.fn g args] m s.h = some (m', h') := by
  rcases hx with rfl | rfl <;> simp only [idefer, hg, if_neg (Nat.not_lt.2 hl), h1, hw]
 cases m' with
 | some v => exact ⟨n, .pan v, h', by simp only [ileave, hd, hi], hK⟩
 | none =>
  cases m with
  | none =>
   obtain ⟨vs, hv, hK⟩ := hK
   exact ⟨n, .ret (tup vs), h', by simp only [ileave, hd, hi, hv, Option.map_some], hK⟩
  | some v =>
   obtain ⟨vs, hv, hK⟩ := hK
   exact ⟨n, .ret (tup vs), h', by simp only [ileave, hd, hi, hv, Option.map_some], hK⟩
theorem icodeD_le {n k : Nat} (h : n ≤ k) {c : IC} {m : Option Value} {s : St} {r : Ex × Option Value × St} (hi : icodeD (icall T n) n c m s = some r) : icodeD (icall T k) k c m s = some r := icodeD_mono (icall_mono T h) h hi
def TnD (T : Tbl) (b : IC) (Q : Ex → Option Value → St → Prop) : Ex → Option Value → St → Prop
 | .normal, m, s => WcD T b m s Q
 | x, m, s => Q x m s
theorem WcD_seq {a b : IC} {m : Option Value} {s : St} {Q : Ex → Option Value → St → Prop} (h : WcD T a m s (TnD T b Q)) : WcD T (.seq a b) m s Q := by
 obtain ⟨n, x, m1, s1, h1, h2⟩ := h
 by_cases hx : x = .normal
 ·subst hx
  obtain ⟨k, y, m2, s2, h3, h4⟩ := h2
  refine ⟨max n k, y, m2, s2, ?_, h4⟩
  simp only [icodeD, icodeD_le (Nat.le_max_left n k) h1, icodeD_le (Nat.le_max_right n k) h3]
 ·refine ⟨n, x, m1, s1, ?_, ?_⟩
  ·simp only [icodeD, h1]
   cases x <;> first | exact (hx rfl).elim | rfl
  ·cases x <;> first | exact (hx rfl).elim | exact h2
theorem WcD_cond {c : Opd} {a b : IC} {m : Option Value} {s : St} {Q : Ex → Option Value → St → Prop} (p : Bool) (hc : ev s.e c = .bool p) (ht : p = true → WcD T a m s Q) (hf : p = false → WcD T b m s Q) : WcD T (.cond c a b) m s Q := by
 cases p with
 | true => obtain ⟨n, x, m1, s1, h1, h2⟩ := ht rfl; exact ⟨n, x, m1, s1, by simp only [icodeD, hc, h1], h2⟩
 | false => obtain ⟨n, x, m1, s1, h1, h2⟩ := hf rfl; exact ⟨n, x, m1, s1, by simp only [icodeD, hc, h1], h2⟩
theorem WcD_rec {l : List Step} {m m' : Option Value} {s s' : St} {Q : Ex → Option Value → St → Prop} (hr : hasRec l = true) (h : iopsD l m s = some (m', s')) (k : Q .normal m' s') : WcD T (.ops l) m s Q :=
 ⟨0, .normal, m', s', by simp only [icodeD, hr, h, if_true, Option.map_some], k⟩
theorem WcD_ops {l : List Step} {m : Option Value} {s : St} {Q : Ex → Option Value → St → Prop} (hr : hasRec l = false) (h : Wc T (.ops l) s (fun x s => Q x m s)) : WcD T (.ops l) m s Q := by
 obtain ⟨n, x, s1, h1, h2⟩ := h
 exact ⟨n, x, m, s1, by simp only [icodeD, hr, h1, Bool.false_eq_true, if_false, Option.map_some], h2⟩
theorem WcD_skip {m : Option Value} {s : St} {Q : Ex → Option Value → St → Prop} (h : Q .normal m s) : WcD T .skip m s Q := ⟨0, .normal, m, s, rfl, h⟩
theorem WcD_draw {l : List Step} {anc : List (List Nat)} {m : Option Value} {s : St} {Q : Ex → Option Value → St → Prop} (h : Wc T (.draw l anc) s (fun x s => Q x m s)) : WcD T (.draw l anc) m s Q := by
 obtain ⟨n, x, s1, h1, h2⟩ := h
 exact ⟨n, x, m, s1, by simp only [icodeD, h1, Option.map_some], h2⟩
theorem Wo_defer {x : Opd} {args : List Opd} {dst : Option Nat} {l : List Step} {e : Env} {hp : Heap} {ds : List Dfr} {f : FuncId} {vs : List Value} {Q : Option Value → St → Prop} (ht : target (ev e x) (args.map (ev e)) = some (.fn f, vs))
 (k : Wo T l ⟨dstUpd e dst undef, hp, some (.fn f vs :: ds)⟩ Q) : Wo T (⟨dst, .defer x args, none⟩ :: l) ⟨e, hp, some ds⟩ Q := by
 obtain ⟨n, r, s', h1, h2⟩ := k
 exact ⟨n, r, s', by simp only [iops, wantedE, istm, ht, if_true]; exact h1, h2⟩
theorem iop_store1 {p b esz : Nat} {o : Opd} {e : Env} {hp : Heap} {v x : Value} (h1 : e p = ptr b 0) (h2 : cellsOf (ev e o) = some [v]) (h4 : hp.get b = some (.cells [x] true esz)) :
 iop (.store 1 (.t p) o) e hp = some (undef, hp.set b (.cells [v] true esz)) := by
 simp only [iop, ev.eq_1, h1, ptr, h2, Heap.write, h4]
 rfl
theorem Wc_mid {a b : IC} {s : St} {Q : Ex → St → Prop} (R : St → Prop) (ha : Wc T a s (fun x s' => match x with | .normal => R s' | x => Q x s')) (hb : ∀ s', R s' → Wc T b s' Q) : Wc T (.seq a b) s Q :=
 Wc_seq (ha.mono fun x s' h => by
  cases x with
  | normal => exact hb s' h
  | brk i => exact h
  | ret => exact h
  | pan v => exact h)
end Go.Idl
end

section
namespace Go.Idl
variable {T : Tbl}
theorem Wc_unroll {b : IC} {s : St} {Q : Ex → St → Prop} (h : Wc T b s (fun x s' => match x with | .normal => Wc T (.loop b) s' Q | x => Q x s')) : Wc T (.loop b) s Q := by
 obtain ⟨n, x, s1, h1, h2⟩ := h
 by_cases hx : x = .normal
 ·subst hx
  obtain ⟨m, y, s2, h3, h4⟩ := h2
  refine ⟨max n m + 1, y, s2, ?_, h4⟩
  simp only [icode, loopCode, icode_le (show n ≤ max n m + 1 by omega) h1]
  simp only [icode] at h3
  exact loopCode_mono (f := fun _ s => icode (icall T m) m b s) (g := fun _ s => icode (icall T (max n m + 1)) (max n m + 1) b s) (fun s r h => icode_le (show m ≤ max n m + 1 by omega) h) (show m ≤ max n m by omega) h3
 ·refine ⟨n + 1, x, s1, ?_, ?_⟩
  ·simp only [icode, loopCode, icode_le (Nat.le_succ n) h1]
   cases x <;> first | exact (hx rfl).elim | rfl
  ·cases x <;> first | exact (hx rfl).elim | exact h2
theorem sameAt_refl (h : Heap) (l : Loc) : sameAt h h l := by cases l <;> first | rfl | trivial
def Idle (es : List (Nat × Heap × Heap)) : Prop := ∀ p ∈ es, p.2.1 = p.2.2
theorem Idle.same {es : List (Nat × Heap × Heap)} (h : Idle es) {l : Loc} {p : Nat × Heap × Heap} (hp : p ∈ es) : sameAt p.2.1 p.2.2 l := by rw [h p hp]; exact sameAt_refl _ _
section
variable {anc : List (List Nat)} {ds : List Nat} {dst : Option Nat} {m : Stm} {l : List Step} {e : Env} {hp : Heap} {d : Option (List Dfr)} {Q : Option Value → St → Prop}
end
end Go.Idl
end

section
namespace Go.Idl
variable {T : Tbl}
def dsts (l : List Step) : List Nat := l.filterMap (·.dst)
def mods : IC → List Nat
 | .ops l => dsts l
 | .draw l _ => dsts l
 | .seq a b => mods a ++ mods b
 | .cond _ a b => mods a ++ mods b
 | .block _ b => mods b
 | .loop b => mods b
 | _ => []
def FrE (ms : List Nat) (e e' : Env) : Prop := ∀ t, ms.contains t = false → e' t = e t
theorem FrE.refl (ms : List Nat) (e : Env) : FrE ms e e := fun _ _ => rfl
theorem FrE.trans {ms : List Nat} {a b c : Env} (x : FrE ms a b) (y : FrE ms b c) : FrE ms a c := fun t h => (y t h).trans (x t h)
theorem FrE.sub {ms ns : List Nat} {a b : Env} (x : FrE ms a b) (h : ∀ t, t ∈ ms → t ∈ ns) : FrE ns a b := fun t ht => x t (by
 cases hc : ms.contains t with
 | false => rfl
 | true => exact absurd (h t (List.contains_iff_mem.1 hc)) (fun hm => by rw [List.contains_iff_mem.2 hm] at ht; cases ht))
theorem FrE.dst {ms : List Nat} {e e' : Env} (h : FrE ms e e') {dst : Option Nat} (hd : ∀ d, dst = some d → d ∈ ms) (v : Value) : FrE ms e (dstUpd e' dst v) := fun t ht => by
 cases dst with
 | none => exact h t ht
 | some d =>
  simp only [dstUpd, upd]
  rw [if_neg (fun e => by rw [e, List.contains_iff_mem.2 (hd d rfl)] at ht; cases ht)]
  exact h t ht
theorem FrE.dst1 {ms : List Nat} {e e' : Env} {dst : Option Nat} {v : Value} (h : FrE ms (dstUpd e dst v) e') (hd : ∀ d, dst = some d → d ∈ ms) : FrE ms e e' := fun t ht => by
 rw [h t ht]
 exact (FrE.refl ms e).dst hd v t ht
theorem istm_fr {call : CallF} {dst : Option Nat} {m : Stm} {s s' : St} {r : Option Value} (h : istm call dst m s = some (r, s')) : s'.e = s.e ∨ ∃ v, s'.e = dstUpd s.e dst v := by
 have after : ∀ q : Option (Out × Heap), afterCall dst s q = some (r, s') → s'.e = s.e ∨ ∃ v, s'.e = dstUpd s.e dst v := by
  intro q hq
  unfold afterCall at hq
  split at hq
  ·cases hq; exact .inr ⟨_, rfl⟩
  ·cases hq; exact .inl rfl
  ·cases hq
 unfold istm at h
 split at h
 ·split at h
  ·cases h; exact .inr ⟨_, rfl⟩
  ·cases h
 ·exact after _ h
 ·split at h
  ·exact after _ h
  ·cases h
 ·split at h
  ·cases h; exact .inr ⟨_, rfl⟩
  ·cases h
 ·split at h
  ·cases h; exact .inl rfl
  ·cases h
theorem dsts_head {x : Step} {l : List Step} {d : Nat} (h : x.dst = some d) : d ∈ dsts (x :: l) := by simp [dsts, h]
theorem dsts_tail {x : Step} {l : List Step} {d : Nat} (h : d ∈ dsts l) : d ∈ dsts (x :: l) := by
 simp only [dsts, List.mem_filterMap] at h ⊢
 obtain ⟨a, h1, h2⟩ := h
 exact ⟨a, List.mem_cons_of_mem _ h1, h2⟩
theorem istm_frE {call : CallF} {x : Step} {l : List Step} {s s' : St} {r : Option Value} (h : istm call x.dst x.stm s = some (r, s')) : FrE (dsts (x :: l)) s.e s'.e := by
 rcases istm_fr h with h | ⟨v, h⟩
 ·rw [h]; exact .refl _ _
 ·rw [h]; exact (FrE.refl _ _).dst (fun d hd => dsts_head hd) v
theorem iops_frE {call : CallF} : ∀ {l : List Step} {s s' : St} {r : Option Value}, iops call l s = some (r, s') → FrE (dsts l) s.e s'.e
 | [], s, s', r, h => by simp only [iops, Option.some.injEq, Prod.mk.injEq] at h; rw [h.2]; exact .refl _ _
 | x :: l, s, s', r, h => by
  simp only [iops] at h
  split at h
  ·split at h
   ·rename_i s1 hs
    exact (istm_frE (l := l) hs).trans ((iops_frE h).sub fun t ht => dsts_tail ht)
   ·exact istm_frE h
  ·exact ((iops_frE h).sub fun t ht => dsts_tail ht).dst1 (fun d hd => dsts_head hd)
theorem forget_frE (e : Env) (ds : List Nat) : FrE ds e (forget e ds) := fun t ht => by
 simp only [forget, ht]; rfl
theorem idraw_frE {call : CallF} {anc : List (List Nat)} {ds : List Nat} : ∀ {l : List Step} {i : Nat} {rs : List (Nat × Loc)} {es : List (Nat × Heap × Heap)} {s s' : St} {r : Option Value}, (∀ t, t ∈ dsts l → t ∈ ds) → idraw call anc ds l i rs es s = some (r, s') → FrE ds s.e s'.e
 | [], i, rs, es, s, s', r, _, h => by simp only [idraw, Option.some.injEq, Prod.mk.injEq] at h; rw [h.2]; exact .refl _ _
 | x :: l, i, rs, es, s, s', r, hs, h => by
  have ht : ∀ t, t ∈ dsts l → t ∈ ds := fun t ht => hs t (dsts_tail ht)
  simp only [idraw] at h
  split at h
  ·split at h
   ·rename_i s1 hm
    have h1 := (istm_frE (l := l) hm).sub hs
    split at h
    ·exact h1.trans (idraw_frE ht h)
    ·split at h
     ·exact h1.trans (idraw_frE ht h)
     ·cases h
    ·exact h1.trans (idraw_frE ht h)
    ·split at h
     ·exact h1.trans (idraw_frE ht h)
     ·cases h
   ·rename_i v s1 hm
    split at h
    ·cases h
     exact forget_frE s.e ds
    ·cases h
   ·cases h
  ·exact (idraw_frE (s := ⟨dstUpd s.e x.dst undef, s.h, s.d⟩) ht h).dst1 (fun d hd => hs d (dsts_head hd))
theorem loopCode_frE {f : IC → St → Option (Ex × St)} {b : IC} {ms : List Nat} (hf : ∀ s x s', f b s = some (x, s') → FrE ms s.e s'.e) : ∀ {n : Nat} {s s' : St} {x : Ex}, loopCode f b n s = some (x, s') → FrE ms s.e s'.e
 | 0, s, s', x, h => by cases h
 | n + 1, s, s', x, h => by
  simp only [loopCode] at h
  split at h
  ·rename_i s1 h1
   exact (hf _ _ _ h1).trans (loopCode_frE hf h)
  ·exact hf _ _ _ h
theorem icode_frE {call : CallF} {n : Nat} : ∀ {c : IC} {s s' : St} {x : Ex}, icode call n c s = some (x, s') → FrE (mods c) s.e s'.e := by
 intro c
 induction c with
 | skip => intro s s' x h; cases h; exact .refl _ _
 | ops l =>
  intro s s' x h
  simp only [icode] at h
  cases hi : iops call l s with
  | none => rw [hi] at h; cases h
  | some q =>
   obtain ⟨r, s1⟩ := q
   have := iops_frE hi
   rw [hi] at h
   cases r <;> (cases h; exact this)
 | draw l anc =>
  intro s s' x h
  simp only [icode] at h
  cases hi : idraw call anc (l.filterMap (·.dst)) l 0 [] [] s with
  | none => rw [hi] at h; cases h
  | some q =>
   obtain ⟨r, s1⟩ := q
   have := idraw_frE (l := l) (ds := dsts l) (fun t ht => ht) hi
   rw [hi] at h
   cases r <;> (cases h; exact this)
 | seq a b iha ihb =>
  intro s s' x h
  simp only [icode] at h
  have sa : ∀ t, t ∈ mods a → t ∈ mods (.seq a b) := fun t ht => List.mem_append_left _ ht
  have sb : ∀ t, t ∈ mods b → t ∈ mods (.seq a b) := fun t ht => List.mem_append_right _ ht
  split at h
  ·rename_i s1 h1
   exact ((iha h1).sub sa).trans ((ihb h).sub sb)
  ·exact (iha h).sub sa
 | cond c a b iha ihb =>
  intro s s' x h
  simp only [icode] at h
  split at h
  ·exact (iha h).sub fun t ht => List.mem_append_left _ ht
  ·exact (ihb h).sub fun t ht => List.mem_append_right _ ht
  ·cases h
 | block id b ih =>
  intro s s' x h
  simp only [icode] at h
  split at h
  ·rename_i i s1 h1
   split at h <;> (cases h; exact ih h1)
  ·exact ih h
 | loop b ih =>
  intro s s' x h
  simp only [icode] at h
  exact loopCode_frE (f := fun _ s => icode call n b s) (fun s x s' h => ih h) h
 | exit id => intro s s' x h; cases h; exact .refl _ _
 | ret => intro s s' x h; cases h; exact .refl _ _
 | rangeF f ps asg body _ _ =>
  intro s s' x h
  have he : s'.e = s.e := by
   simp only [icode] at h
   repeat' (split at h)
   all_goals (cases h <;> rfl)
  rw [he]; exact .refl _ _
theorem Wc_fr {c : IC} {s : St} {Q : Ex → St → Prop} (h : Wc T c s (fun x s' => FrE (mods c) s.e s'.e → Q x s')) : Wc T c s Q := by
 obtain ⟨n, x, s', h1, h2⟩ := h
 exact ⟨n, x, s', h1, h2 (icode_frE h1)⟩
theorem Wc_loopF {b : IC} {s0 : St} {Q : Ex → St → Prop} (I : Env → Heap → Option (List Dfr) → Prop) (μ : Env → Heap → Nat) (h0 : I s0.e s0.h s0.d)
 (hr : ∀ e h d, I e h d → FrE (mods b) s0.e e → Wc T b ⟨e, h, d⟩ (fun x s' => match x with | .normal => I s'.e s'.h s'.d ∧ μ s'.e s'.h < μ e h | x => Q x s')) : Wc T (.loop b) s0 Q := by
 refine Wc_loop (fun s => I s.e s.h s.d ∧ FrE (mods b) s0.e s.e) (fun s => μ s.e s.h) ⟨h0, .refl _ _⟩ ?_
 rintro ⟨e, h, d⟩ ⟨hI, hF⟩
 refine Wc_fr ((hr e h d hI hF).mono fun x s' hx hfr => ?_)
 cases x with
 | normal => exact ⟨⟨hx.1, hF.trans hfr⟩, hx.2⟩
 | _ => exact hx
def Rnd (blk idl i k : Nat) (N : Value) (I : Env → Heap → Option (List Dfr) → Prop) (Q : Ex → St → Prop) : Ex → St → Prop
 | .normal, s => I (upd (upd s.e k N) i N) s.h s.d
 | .brk b, s => if b = blk then I (upd (upd s.e k N) i N) s.h s.d else if b = idl then Q .normal s else Q (.brk b) s
 | x, s => Q x s
def sideG (c i : Nat) (ms : List Nat) : Bool := !ms.contains i && c != i
theorem Wc_rangeG {idl blk c i k : Nat} {n : Opd} {B : IC} {s0 : St} {Q : Ex → St → Prop} (N : Nat) (I : Nat → Env → Heap → Option (List Dfr) → Prop) (hs : sideG c i (mods B) = true) (hi : s0.e i = .int .i64 0) (hn : ∀ e, FrE (c :: k :: i :: mods B) s0.e e → ev e n = .int .i64 N) (hN : N ≤ 9223372036854775807) (hb : blk ≠ idl)
 (h0 : I 0 s0.e s0.h s0.d)
 (hr : ∀ (j : Nat) e h d, j < N → I j e h d → FrE (c :: k :: i :: mods B) s0.e e → e i = .int .i64 j → Wc T B ⟨upd e c (.bool true), h, d⟩ (Rnd blk idl i k (.int .i64 ((j + 1 : Nat) : Int)) (I (j + 1)) Q))
 (he : ∀ e h d, I N e h d → FrE (c :: k :: i :: mods B) s0.e e → e i = .int .i64 N → Q .normal ⟨upd e c (.bool false), h, d⟩) :
 Wc T (.block idl (.loop (.seq (.ops [⟨some c, .op (.bin .lss (.t i) n), none⟩]) (.seq (.cond (.t c) .skip (.exit idl)) (.seq (.block blk B) (.ops [⟨some k, .op (.bin .add (.t i) (.c (.int .i64 1))), none⟩, ⟨some i, .op (.mov (.t k)), none⟩])))))) s0 Q := by
 simp only [sideG, Bool.and_eq_true, Bool.not_eq_true', bne_iff_ne, ne_eq] at hs
 obtain ⟨s1, s3⟩ := hs
 refine Wc_block (Wc_loop (fun s => ∃ j : Nat, j ≤ N ∧ s.e i = .int .i64 j ∧ FrE (c :: k :: i :: mods B) s0.e s.e ∧ I j s.e s.h s.d) (fun s => match s.e i with | .int _ q => (N - q).toNat | _ => 0) ⟨0, Nat.zero_le _, hi, .refl _ _, h0⟩ ?_)
 rintro ⟨e, h, d⟩ ⟨j, hj, hei, hfr, hI⟩
 simp only at hei hfr hI
 have hen := hn e hfr
 refine Wc_seq (Wc_ops (Wo_op (v := .bool (decide ((j : Int) < N))) (h' := h) (by simp only [iop, ev.eq_1, hei, hen, binV, binI, if_true, Option.map_some]) (Wo_nil ?_)))
 show Wc T _ _ _
 refine Wc_seq (Wc_cond (decide ((j : Int) < N)) (by simp only [ev, dstUpd, upd, if_true]) (fun hlt => Wc_skip ?_) (fun hge => Wc_exit ?_))
 case refine_2 =>
  have hjN : j = N := by simp at hge; omega
  subst hjN
  rw [hge]
  simp only [Tb, Tn, if_true]
  exact he e h d hI hfr hei
 show Wc T _ _ _
 have hjN : j < N := by simpa using hlt
 rw [hlt]
 refine Wc_seq (Wc_block (Wc_fr ((hr j e h d hjN hI hfr hei).mono fun x s' hx hf => ?_)))
 have gi : s'.e i = .int .i64 j := by rw [hf i s1]; simp only [dstUpd, upd]; rw [if_neg (fun e => s3 e.symm)]; exact hei
 have e1 : IntKind.i64.wrap ((j : Int) + 1) = ((j + 1 : Nat) : Int) := by rw [wrap64] <;> omega
 have go : I (j + 1) (upd (upd s'.e k (.int .i64 ((j + 1 : Nat) : Int))) i (.int .i64 ((j + 1 : Nat) : Int))) s'.h s'.d → Wc T (.ops [⟨some k, .op (.bin .add (.t i) (.c (.int .i64 1))), none⟩, ⟨some i, .op (.mov (.t k)), none⟩]) s' (fun x s'' => match x with
  | .normal => (∃ j : Nat, j ≤ N ∧ s''.e i = .int .i64 j ∧ FrE (c :: k :: i :: mods B) s0.e s''.e ∧ I j s''.e s''.h s''.d) ∧ (match s''.e i with | .int _ q => (N - q).toNat | _ => 0) < (match e i with | .int _ q => (N - q).toNat | _ => 0)
  | x => Tb idl Q x s'') := by
  intro hI'
  obtain ⟨e', h', d'⟩ := s'
  simp only at gi hI'
  refine Wc_ops (Wo_op (v := .int .i64 ((j + 1 : Nat) : Int)) (h' := h') (by simp only [iop, ev, gi, binV, binI, e1, if_true, Option.map_some]) (Wo_op (v := .int .i64 ((j + 1 : Nat) : Int)) (h' := h') (by simp only [iop, ev, dstUpd, upd, if_true]) (Wo_nil ?_)))
  refine ⟨⟨j + 1, hjN, by simp only [dstUpd, upd, if_true], ?_, hI'⟩, ?_⟩
  ·have f1 : FrE (c :: k :: i :: mods B) e e' := FrE.trans (b := upd e c (.bool true)) ((FrE.refl _ e).dst (dst := some c) (fun d hd => by cases hd; exact List.mem_cons_self ..) _) (hf.sub fun t ht => List.mem_cons_of_mem _ (List.mem_cons_of_mem _ (List.mem_cons_of_mem _ ht)))
   exact ((hfr.trans f1).dst (dst := some k) (fun d hd => by cases hd; exact List.mem_cons_of_mem _ (List.mem_cons_self ..)) _).dst (dst := some i) (fun d hd => by cases hd; exact List.mem_cons_of_mem _ (List.mem_cons_of_mem _ (List.mem_cons_self ..))) _
  ·simp only [dstUpd, upd, if_true, hei]
   exact (Int.toNat_lt_toNat (by omega)).2 (by omega)
 cases x with
 | normal => exact go hx
 | brk b =>
  simp only [Rnd] at hx
  simp only [Tb]
  by_cases hbb : b = blk
  ·rw [if_pos hbb] at hx ⊢
   exact go hx
  ·rw [if_neg hbb] at hx ⊢
   simp only [Tn, Tb]
   exact hx
 | ret => exact hx
 | pan v => exact hx
def sideR (c i n k : Nat) (ms : List Nat) : Bool := sideG c i ms && !(c :: k :: i :: ms).contains n
theorem Wc_range {idl blk c i n k : Nat} {B : IC} {s0 : St} {Q : Ex → St → Prop} (N : Nat) (I : Nat → Env → Heap → Option (List Dfr) → Prop) (hs : sideR c i n k (mods B) = true) (hi : s0.e i = .int .i64 0) (hn : s0.e n = .int .i64 N) (hN : N ≤ 9223372036854775807) (hb : blk ≠ idl)
 (h0 : I 0 s0.e s0.h s0.d)
 (hr : ∀ (j : Nat) e h d, j < N → I j e h d → FrE (c :: k :: i :: mods B) s0.e e → e i = .int .i64 j → e n = .int .i64 N → Wc T B ⟨upd e c (.bool true), h, d⟩ (Rnd blk idl i k (.int .i64 ((j + 1 : Nat) : Int)) (I (j + 1)) Q))
 (he : ∀ e h d, I N e h d → FrE (c :: k :: i :: mods B) s0.e e → e i = .int .i64 N → Q .normal ⟨upd e c (.bool false), h, d⟩) :
 Wc T (.block idl (.loop (.seq (.ops [⟨some c, .op (.bin .lss (.t i) (.t n)), none⟩]) (.seq (.cond (.t c) .skip (.exit idl)) (.seq (.block blk B) (.ops [⟨some k, .op (.bin .add (.t i) (.c (.int .i64 1))), none⟩, ⟨some i, .op (.mov (.t k)), none⟩])))))) s0 Q := by
 simp only [sideR, Bool.and_eq_true, Bool.not_eq_true'] at hs
 have hn' : ∀ e, FrE (c :: k :: i :: mods B) s0.e e → e n = .int .i64 N := fun e hf => (hf n hs.2).trans hn
 exact Wc_rangeG N I hs.1 hi hn' hN hb h0 (fun j e h d hj hI hf he => hr j e h d hj hI hf he (hn' e hf)) he
theorem Wc_rangeF {f : Opd} {ps : List Nat} {asg body : IC} {e : Env} {h : Heap} {ds : List Dfr} {Q : Ex → St → Prop} {g : FuncId} {vs : List Value} (ht : target (ev e f) [.func (.yield (h.next + 1)) #[] #[]] = some (.fn g, vs))
 (hk : Wk T (.fn g) vs ((h.new .dfr).new (.loop ⟨.ready, none, e, ps, asg, body⟩)) (fun o h' => match o with
  | .ret _ => ∃ L, h'.get (h.next + 1) = some (.loop L) ∧ L.st ≠ .busy ∧ match L.pend with
   | none => Q .normal ⟨e, h'.set (h.next + 1) (.loop { L with st := .gone }), some (.mark h.next :: ds)⟩
   | some j => Q (jmpEx j) ⟨e, h'.set (h.next + 1) (.loop { L with st := .gone }), some (.mark h.next :: ds)⟩
  | .pan v => Q (.pan v) ⟨e, h', some (.mark h.next :: ds)⟩)) : Wc T (.rangeF f ps asg body) ⟨e, h, some ds⟩ Q := by
 obtain ⟨n, o, h', h1, h2⟩ := hk
 cases o with
 | pan v => exact ⟨n, .pan v, _, by simp only [icode, ht, h1], h2⟩
 | ret v =>
  obtain ⟨L, hL, hb, hp⟩ := h2
  cases hq : L.pend with
  | none =>
   rw [hq] at hp
   exact ⟨n, .normal, _, by simp only [icode, ht, h1, hL, if_neg hb, hq], hp⟩
  | some j =>
   rw [hq] at hp
   exact ⟨n, jmpEx j, _, by simp only [icode, ht, h1, hL, if_neg hb, hq], hp⟩
theorem Wk_yld {l : Nat} {args : List Value} {h : Heap} {L : LoopB} {K : Out → Heap → Prop} (hl : h.get l = some (.loop L)) (hlen : args.length = L.ps.length)
 (ha : Wc T L.asg ⟨setPs L.e L.ps args, h, none⟩ (fun x s => x = .normal ∧ ∃ L1, s.h.get l = some (.loop L1) ∧ L1.st = .ready ∧ Wc T L.body ⟨s.e, s.h.set l (.loop { L1 with st := .busy }), s.d⟩ (fun x s2 => ∃ L2, s2.h.get l = some (.loop L2) ∧ match x with
  | .normal => K (.ret (.bool true)) (s2.h.set l (.loop { L2 with st := .ready, pend := none }))
  | .ret => K (.ret (.bool false)) (s2.h.set l (.loop { L2 with st := .done, pend := some .ret }))
  | .brk id => K (.ret (.bool false)) (s2.h.set l (.loop { L2 with st := .done, pend := some (.brk id) }))
  | .pan _ => False))) : Wk T (.yld l) args h K := by
 obtain ⟨n, x, s, h1, rfl, L1, h2, h3, m, y, s2, h4, L2, h5, h6⟩ := ha
 have h1' := icode_le (Nat.le_max_left n m) h1
 have h4' := icode_le (Nat.le_max_right n m) h4
 cases y with
 | pan v => exact h6.elim
 | normal => exact ⟨max n m + 1, _, _, by simp only [icall, hl, hlen, if_true, h1', h2, h3, h4', h5], h6⟩
 | ret => exact ⟨max n m + 1, _, _, by simp only [icall, hl, hlen, if_true, h1', h2, h3, h4', h5], h6⟩
 | brk id => exact ⟨max n m + 1, _, _, by simp only [icall, hl, hlen, if_true, h1', h2, h3, h4', h5], h6⟩
theorem Lv_mark {fn : IFn} {s : St} {b : Nat} {K : Out → Heap → Prop} {vs : List Value} (hd : s.d = some [.mark b]) (hb : s.h.get b = some .dfr) (hv : resAll s.e (s.h.set b .dead) fn.res = some vs) (hK : K (.ret (tup vs)) (s.h.set b .dead)) : Lv T fn none s K :=
 ⟨0, .ret (tup vs), s.h.set b .dead, by simp only [ileave, hd, idefer, hb, hv, Option.map_some], hK⟩
end Go.Idl
end

section
namespace Go.Idl
variable {T : Tbl}
section
variable {dst : Option Nat} {l : List Step} {e : Env} {h : Heap} {d : Option (List Dfr)} {Q : Option Value → St → Prop}
structure New1 (h h' : Heap) (o : Blk) : Prop where
 kept : Kept h h'
 next : h'.next = h.next + 1
 get : h'.get h.next = some o
theorem New1.of_new (h : Heap) (o : Blk) : New1 h (h.new o) o := ⟨(Kept.refl h).new o, rfl, new_get' _ _⟩
theorem New1.of_set (h : Heap) (o o' : Blk) : New1 h ((h.new o).set h.next o') o' := ⟨((Kept.refl h).new o).set (Nat.le_refl _) _, rfl, set_get' _ _ _⟩
theorem Wo_new {o : IOp} {v : Value} {B : Blk} (hi : iop o e h = some (v, h.new B)) (k : ∀ h', New1 h h' B → Wo T l ⟨dstUpd e dst v, h', d⟩ Q) : Wo T (⟨dst, .op o, none⟩ :: l) ⟨e, h, d⟩ Q :=
 Wo_op hi (k _ (.of_new _ _))
theorem Wo_box {x : Opd} {cs : List Value} (hc : cellsOf (ev e x) = some cs) (k : ∀ h', New1 h h' (.cells cs true 0) → Wo T l ⟨dstUpd e dst (ptr h.next 0), h', d⟩ Q) : Wo T (⟨dst, .op (.box x), none⟩ :: l) ⟨e, h, d⟩ Q :=
 Wo_new (by simp only [iop, hc, Option.map_some]) k
theorem Wo_alloc {z : List Value} (k : ∀ h', New1 h h' (.cells z true 0) → Wo T l ⟨dstUpd e dst (ptr h.next 0), h', d⟩ Q) : Wo T (⟨dst, .op (.alloc z), none⟩ :: l) ⟨e, h, d⟩ Q :=
 Wo_new rfl k
theorem Wo_store_new {n p q : Nat} {cs z : List Value} (h1 : e p = ptr h.next 0) (h2 : e q = .agg cs.toArray) (h3 : cs.length = n) (h5 : z.length = n) (k : ∀ h', New1 h h' (.cells cs true 0) → Wo T l ⟨e, h', d⟩ Q) :
 Wo T (⟨none, .op (.store n (.t p) (.t q)), none⟩ :: l) ⟨e, h.new (.cells z true 0), d⟩ Q :=
 Wo_op (iop_store (b := h.next) (esz := 0) (cs := cs) (z := z) h1 h2 h3 (new_get' _ _) h5) (k _ (.of_set _ _ _))
end
theorem Wk_pure {c : Cal} {args : List Value} {h : Heap} {v : Value} {K : Out → Heap → Prop} (hk : Wk T c args h (fun o h' => h' = h ∧ o = .ret v)) (k : K (.ret v) h) : Wk T c args h K := hk.mono fun o h' ⟨e1, e2⟩ => by rw [e1, e2]; exact k
theorem Wk_kept {c : Cal} {args : List Value} {h : Heap} {v : Value} {K : Out → Heap → Prop} (hk : Wk T c args h (fun o h' => Kept h h' ∧ o = .ret v)) (k : ∀ h', Kept h h' → K (.ret v) h') : Wk T c args h K := hk.mono fun o h' ⟨e1, e2⟩ => by rw [e2]; exact k h' e1
def strC (s : ByteArray) : List Value := [.string s]
abbrev strsAt (h : Heap) (v : Value) (l : List ByteArray) : Prop := rowsAt strC (fun _ _ => True) h v l
theorem strC_len (s : ByteArray) : (strC s).length = 1 := rfl
theorem strsAt.keep {h h' : Heap} (hk : Kept h h') {v : Value} {l : List ByteArray} (hv : strsAt h v l) : strsAt h' v l := rowsAt.keep (fun _ _ => trivial) hk hv
theorem strsAt.load {h : Heap} {v : Value} {l : List ByteArray} (hv : strsAt h v l) {j : Nat} {x : ByteArray} (hx : l[j]? = some x) : ∃ b c o z, v = .slice (some ⟨b, 0, none⟩) l.length c ∧ b < h.next ∧ h.get b = some (.cells (l.flatMap strC) o z) ∧ (l.flatMap strC)[j * 1]? = some (.string x) := by
 obtain ⟨b, c, hvb, hb, ⟨o, z, hg⟩, hc, _⟩ := rowsAt.load strC_len hv hx
 refine ⟨b, c, o, z, hvb, hb, hg, ?_⟩
 simp only [Heap.cells, hg] at hc
 split at hc
 ·simp only [Option.some.injEq] at hc
  have h2 := congrArg (fun q => q[0]?) hc
  simp only [strC, List.getElem?_cons_zero, List.getElem?_take, List.getElem?_drop] at h2
  simpa using h2
 ·cases hc
end Go.Idl
end

section
namespace Go.Idl
variable {T : Tbl}
theorem decode1 {s : ByteArray} {k : Nat} {c : UInt8} (h : s.data.toList[k]? = some c) (hc : c.toNat < 128) : Utf8.decode s k = (c.toNat, 1) := by
 obtain ⟨⟨l⟩⟩ := s
 have h : l[k]? = some c := h
 have hlt : k < l.length := (List.getElem?_eq_some_iff.1 h).1
 have hs : k < (⟨l.toArray⟩ : ByteArray).size := by simpa [ByteArray.size] using hlt
 have he : (⟨l.toArray⟩ : ByteArray)[k]'hs = c := by
  have : l[k] = c := (List.getElem?_eq_some_iff.1 h).2
  simpa [ByteArray.getElem_eq_getElem_data] using this
 rw [decode_ascii _ _ hs (by rw [he]; exact hc), he]
def RndS (blk idl bi : Nat) (s : ByteArray) (j : Nat) (I : Env → Heap → Option (List Dfr) → Prop) (Q : Ex → St → Prop) : Ex → St → Prop
 | .normal, t => t.h.get bi = some (.siter s j) ∧ I t.e t.h t.d
 | .brk b, t => if b = blk then t.h.get bi = some (.siter s j) ∧ I t.e t.h t.d else if b = idl then Q .normal t else Q (.brk b) t
 | x, t => Q x t
def sideS (q c it : Nat) (ms : List Nat) : Bool := !ms.contains it && q != it && c != it && q != c
theorem Wc_rangeStr {idl blk q c it bi : Nat} {B : IC} {s : ByteArray} {s0 : St} {Q : Ex → St → Prop} (I : Nat → Env → Heap → Option (List Dfr) → Prop) (hasc : ∀ b ∈ s.data.toList, b.toNat < 128) (hs : sideS q c it (mods B) = true) (hb : blk ≠ idl) (hit : s0.e it = ptr bi 0) (hst : s0.h.get bi = some (.siter s 0))
 (h0 : I 0 s0.e s0.h s0.d)
 (hr : ∀ (j : Nat) (b : UInt8) e h d, s.data.toList[j]? = some b → I j e h d → FrE (q :: c :: mods B) s0.e e → h.get bi = some (.siter s j) → Wc T B ⟨upd (upd e q (.tuple #[.bool true, .int .i64 j, .int .i32 b.toNat])) c (.bool true), h.set bi (.siter s (j + 1)), d⟩ (RndS blk idl bi s (j + 1) (I (j + 1)) Q))
 (he : ∀ e h d, I s.size e h d → FrE (q :: c :: mods B) s0.e e → Q .normal ⟨upd (upd e q (.tuple #[.bool false])) c (.bool false), h, d⟩) :
 Wc T (.block idl (.loop (.seq (.ops [⟨some q, .op (.next (.t it)), none⟩, ⟨some c, .op (.extract (.t q) 0), none⟩]) (.seq (.cond (.t c) .skip (.exit idl)) (.block blk B))))) s0 Q := by
 simp only [sideS, Bool.and_eq_true, Bool.not_eq_true', bne_iff_ne, ne_eq] at hs
 obtain ⟨⟨⟨s1, s2⟩, s3⟩, s4⟩ := hs
 have hsz : s.size = s.data.toList.length := (Array.length_toList).symm
 refine Wc_block (Wc_loop (fun t => ∃ j : Nat, j ≤ s.size ∧ t.h.get bi = some (.siter s j) ∧ FrE (q :: c :: mods B) s0.e t.e ∧ I j t.e t.h t.d) (fun t => match t.h.get bi with | some (.siter _ p) => s.size - p | _ => 0) ⟨0, Nat.zero_le _, hst, .refl _ _, h0⟩ ?_)
 rintro ⟨e, h, d⟩ ⟨j, hj, hg, hfr, hI⟩
 simp only at hg hfr hI
 have eit : e it = ptr bi 0 := by
  rw [hfr it (by
   have : (q :: c :: mods B).contains it = (it == q || (it == c || (mods B).contains it)) := by simp only [List.contains_cons]
   rw [this, s1, Bool.or_false, beq_eq_false_iff_ne.2 (Ne.symm s2), beq_eq_false_iff_ne.2 (Ne.symm s3)]; rfl)]
  exact hit
 by_cases hlt : j < s.size
 case neg =>
  have hjs : j = s.size := by omega
  subst hjs
  refine Wc_seq (Wc_ops (Wo_op (v := .tuple #[.bool false]) (h' := h) (by simp only [iop, ev, eit, ptr, hg, Nat.lt_irrefl, if_false]) (Wo_op (v := .bool false) (h' := h) (by simp only [iop, ev, dstUpd, upd, if_true]; rfl) (Wo_nil ?_))))
  show Wc T _ _ _
  refine Wc_seq (Wc_cond false (by simp only [ev, dstUpd, upd, if_true]) nofun (fun _ => Wc_exit ?_))
  simp only [Tb, Tn, if_true]
  exact he e h d hI hfr
 obtain ⟨b, hb'⟩ : ∃ b, s.data.toList[j]? = some b := ⟨_, List.getElem?_eq_getElem (by rw [← hsz]; exact hlt)⟩
 have hdec := decode1 hb' (hasc b (List.mem_of_getElem? hb'))
 refine Wc_seq (Wc_ops (Wo_op (v := .tuple #[.bool true, .int .i64 j, .int .i32 b.toNat]) (h' := h.set bi (.siter s (j + 1))) (by simp only [iop, ev, eit, ptr, hg, hlt, if_true, hdec]) (Wo_op (v := .bool true) (h' := h.set bi (.siter s (j + 1))) (by simp only [iop, ev, dstUpd, upd, if_true]; rfl) (Wo_nil ?_))))
 show Wc T _ _ _
 refine Wc_seq (Wc_cond true (by simp only [ev, dstUpd, upd, if_true]) (fun _ => Wc_skip ?_) nofun)
 show Wc T _ _ _
 refine Wc_block (Wc_fr ((hr j b e h d hb' hI hfr hg).mono fun x t hx hf => ?_))
 have f1 : FrE (q :: c :: mods B) s0.e t.e := (((hfr.dst (dst := some q) (fun d hd => by cases hd; exact List.mem_cons_self ..) _).dst (dst := some c) (fun d hd => by cases hd; exact List.mem_cons_of_mem _ (List.mem_cons_self ..)) _)).trans (hf.sub fun t ht => List.mem_cons_of_mem _ (List.mem_cons_of_mem _ ht))
 have go : t.h.get bi = some (.siter s (j + 1)) ∧ I (j + 1) t.e t.h t.d → (∃ j : Nat, j ≤ s.size ∧ t.h.get bi = some (.siter s j) ∧ FrE (q :: c :: mods B) s0.e t.e ∧ I j t.e t.h t.d) ∧ (match t.h.get bi with | some (.siter _ p) => s.size - p | _ => 0) < (match h.get bi with | some (.siter _ p) => s.size - p | _ => 0) := fun hh =>
  ⟨⟨j + 1, hlt, hh.1, f1, hh.2⟩, by rw [hh.1, hg]; simp only; omega⟩
 cases x with
 | normal => exact go hx
 | brk i =>
  simp only [RndS] at hx
  simp only [Tb]
  by_cases hbb : i = blk
  ·rw [if_pos hbb] at hx ⊢
   exact go hx
  ·rw [if_neg hbb] at hx ⊢
   exact hx
 | ret => exact hx
 | pan v => exact hx
end Go.Idl
end

section
namespace Go.Idl
theorem std : (∀ (α : Type) (a : α) (l : List α) (n : Nat), List.drop (n + 1) (a :: l) = List.drop n l) ∧ (∀ (α : Type) (l : List α), List.drop 0 l = l)
 ∧ (∀ (call : CallF) (s : St), iops call [] s = some (none, s))
 ∧ (∀ (call : CallF) (dst : Option Nat) (o : IOp) (l : List Step) (e : Env) (h : Heap) (d : Option (List Dfr)), iops call (⟨dst, .op o, none⟩ :: l) ⟨e, h, d⟩ = iK call dst l e d (iop o e h))
 ∧ (∀ (call : CallF) (dst : Option Nat) (m : Stm) (j : Nat) (w : Bool) (l : List Step) (e : Env) (h : Heap) (d : Option (List Dfr)), iops call (⟨dst, m, some (j, w)⟩ :: l) ⟨e, h, d⟩ = iG call dst m l ⟨e, h, d⟩ (gval (e j) w))
 ∧ (∀ (call : CallF) (dst : Option Nat) (l : List Step) (e : Env) (d : Option (List Dfr)) (v : Value) (h : Heap), iK call dst l e d (some (v, h)) = iops call l ⟨dstUpd e dst v, h, d⟩)
 ∧ (∀ (call : CallF) (dst : Option Nat) (m : Stm) (l : List Step) (s : St), iG call dst m l s true = iops call (⟨dst, m, none⟩ :: l) s)
 ∧ (∀ (call : CallF) (dst : Option Nat) (m : Stm) (l : List Step) (e : Env) (h : Heap) (d : Option (List Dfr)), iG call dst m l ⟨e, h, d⟩ false = iops call l ⟨dstUpd e dst undef, h, d⟩)
 ∧ (∀ c w : Bool, gval (.bool c) w = (c == w)) ∧ (∀ b : Bool, (b == true) = b) ∧ (∀ b : Bool, (b == false) = !b) ∧ ((!true) = false) ∧ ((!false) = true)
 ∧ (∀ (α : Type) (a : α) (l : List α) (d : α), List.getD (a :: l) 0 d = a) ∧ (∀ (α : Type) (a : α) (l : List α) (d : α) (n : Nat), List.getD (a :: l) (n + 1) d = List.getD l n d)
 ∧ (∀ (α : Type) (a : α) (l : List α), (a :: l).length = l.length + 1) ∧ (∀ α : Type, ([] : List α).length = 0)
 ∧ (∀ (α : Type) (a b : α) (l : List α), (a :: l).set 0 b = b :: l) ∧ (∀ (α : Type) (a b : α) (l : List α) (n : Nat), (a :: l).set (n + 1) b = a :: l.set n b)
 ∧ (∀ (α : Type) (a : α) (l : List α), (a :: l)[0]? = some a) ∧ (∀ (α : Type) (a : α) (l : List α) (n : Nat), (a :: l)[n + 1]? = l[n]?)
 ∧ (∀ n : Nat, 0 + n = n) ∧ (∀ n : Nat, n + 0 = n) ∧ (∀ (α β : Type) (f : α → β) (a : α), Option.map f (some a) = some (f a)) ∧ ((false = true) = False)
 ∧ (∀ h : Decidable True, @decide True h = true) ∧ (∀ h : Decidable False, @decide False h = false) ∧ (∀ a b : Int, (a ≥ b) = (b ≤ a)) ∧ (∀ a b : Int, (a > b) = (b < a)) ∧ (∀ a b : Nat, (a ≥ b) = (b ≤ a)) ∧ (∀ a b : Nat, (a > b) = (b < a))
 ∧ (∀ (h : Heap) (b : Nat) (o : Blk), (h.set b o).get b = some o) :=
 ⟨fun _ _ _ _ => rfl, fun _ _ => rfl, iops_nil, iops_op, iops_grd, iK_some, iG_true, iG_false, gval_bool, fun b => by cases b <;> rfl, fun b => by cases b <;> rfl, rfl, rfl, fun _ _ _ _ => rfl, fun _ _ _ _ _ => rfl, fun _ _ _ => rfl, fun _ => rfl, fun _ _ _ _ => rfl, fun _ _ _ _ _ => rfl, fun _ _ _ => rfl, fun _ _ _ _ => rfl,
  Nat.zero_add, Nat.add_zero, fun _ _ _ _ => rfl, by simp, fun h => by simp, fun h => by simp, fun _ _ => rfl, fun _ _ => rfl, fun _ _ => rfl, fun _ _ => rfl, set_get'⟩
attribute [go_sem] std iop ev upd dstUpd binV binI unV ptr Heap.cell Heap.write cellsOf put args0 partL beq_self_eq_true List.take_succ_cons List.take_zero
theorem iop_store_at {p b k esz : Nat} {o : Opd} {e : Env} {hp : Heap} {cs : List Value} {v : Value} (h1 : e p = ptr b k) (h2 : cellsOf (ev e o) = some [v]) (h3 : hp.get b = some (.cells cs true esz)) (h4 : k < cs.length) :
 iop (.store 1 (.t p) o) e hp = some (undef, hp.set b (.cells (cs.set k v) true esz)) := by
 simp only [iop, ev.eq_1, h1, ptr, h2, List.length_cons, List.length_nil, Heap.write, h3]
 rw [if_pos trivial, if_pos (by omega)]
 rfl
theorem bnd_ok {lo hi m : Nat} (h1 : lo ≤ m) (h2 : m ≤ hi) : bndV lo hi (.int .i64 ((m : Nat) : Int)) = some m := by
 simp only [bndV]; rw [if_pos (by omega)]; simp
theorem KeptBut.set {m i : Nat} {a b : Heap} (x : KeptBut m a b) (o : Blk) (hi : i = m ∨ a.next ≤ i) : KeptBut m a (b.set i o) := ⟨x.next, fun k hk hm => by
 rw [set_get_ne' _ _ (by omega)]; exact x.get k hk hm⟩
theorem KeptBut.kept {m : Nat} {a b c : Heap} (x : KeptBut m a b) (y : Kept b c) : KeptBut m a c := x.trans (y.but m)
theorem Kept.of_but {m : Nat} {a b c : Heap} (x : Kept a b) (y : KeptBut m b c) (hm : a.next ≤ m) : Kept a c := ⟨Nat.le_trans x.next y.next, fun k hk => by
 rw [y.get k (Nat.lt_of_lt_of_le hk x.next) (by omega)]; exact x.get k hk⟩
variable {T : Tbl}
theorem Wc_case {t t' x : Nat} {a k : Int} {A B : IC} {e : Env} {h : Heap} {d : Option (List Dfr)} {Q : Ex → St → Prop} (hx : e x = .int .i64 k)
 (hA : k = a → Wc T A ⟨upd (upd e t' (.bool true)) t (.bool true), h, d⟩ Q) (hB : k ≠ a → Wc T B ⟨upd (upd e t' (.bool false)) t (.bool false), h, d⟩ Q) :
 Wc T (.seq (.ops [⟨some t', .op (.bin .eql (.t x) (.c (.int .i64 a))), none⟩, ⟨some t, .op (.mov (.t t')), none⟩]) (.cond (.t t) A B)) ⟨e, h, d⟩ Q := by
 refine Wc_seq (Wc_ops (Wo_op (v := .bool (k == a)) (h' := h) (by simp only [iop, ev, hx, binV, binI, if_true, Option.map_some]) (Wo_op (v := .bool (k == a)) (h' := h) (by simp only [iop, ev, dstUpd, upd, if_true]) (Wo_nil ?_))))
 show Wc T _ _ _
 cases hk : (k == a) with
 | true => exact Wc_cond true (by simp only [ev, dstUpd, upd, if_true]) (fun _ => hA (beq_iff_eq.1 hk)) nofun
 | false => exact Wc_cond false (by simp only [ev, dstUpd, upd, if_true]) nofun (fun _ => hB (by simpa using hk))
end Go.Idl
end

section
namespace Go.Idl
variable {T : Tbl} {α : Type}
theorem flatF_len {f : α → List Value} {w : Nat} (hf : ∀ a, (f a).length = w) : ∀ l : List α, (l.flatMap f).length = l.length * w
 | [] => by simp
 | a :: l => by rw [List.flatMap_cons, List.length_append, hf, flatF_len hf l, List.length_cons, Nat.succ_mul, Nat.add_comm]
def ownL (f : α → List Value) (w n0 : Nat) (h : Heap) (v : Value) (l : List α) : Prop :=
 (l = [] ∧ v = .slice none 0 0) ∨ ∃ b, n0 ≤ b ∧ b < h.next ∧ v = .slice (some ⟨b, 0, none⟩) l.length (l.length + 1) ∧ h.get b = some (.cells (l.flatMap f) true w)
theorem ownL.len {f : α → List Value} {w n0 : Nat} {h : Heap} {v : Value} {l : List α} (o : ownL f w n0 h v l) : ∃ a c, v = .slice a l.length c := by
 rcases o with ⟨rfl, rfl⟩ | ⟨b, _, _, rfl, _⟩
 ·exact ⟨_, _, rfl⟩
 ·exact ⟨_, _, rfl⟩
theorem ownL.keep {f : α → List Value} {w n0 : Nat} {h h' : Heap} {v : Value} {l : List α} (o : ownL f w n0 h v l) (hn : h.next ≤ h'.next) (hg : ∀ b, n0 ≤ b → b < h.next → h'.get b = h.get b) : ownL f w n0 h' v l := by
 rcases o with o | ⟨b, h1, h2, h3, h4⟩
 ·exact .inl o
 ·exact .inr ⟨b, h1, Nat.lt_of_lt_of_le h2 hn, h3, by rw [hg b h1 h2]; exact h4⟩
theorem ownL.kept {f : α → List Value} {w n0 : Nat} {h h' : Heap} {v : Value} {l : List α} (o : ownL f w n0 h v l) (k : Kept h h') : ownL f w n0 h' v l := o.keep k.next fun b _ hb => k.get b hb
theorem ownL.mono {f : α → List Value} {w n0 n1 : Nat} {h : Heap} {v : Value} {l : List α} (o : ownL f w n0 h v l) (hn : n1 ≤ n0) : ownL f w n1 h v l := by
 rcases o with o | ⟨b, h1, h2⟩
 ·exact .inl o
 ·exact .inr ⟨b, Nat.le_trans hn h1, h2⟩
theorem row_at {f : α → List Value} {w : Nat} (hf : ∀ a, (f a).length = w) {l : List α} {i : Nat} {x : α} (hi : l[i]? = some x) : ((l.flatMap f).drop (i * w)).take w = f x := by
 induction l generalizing i with
 | nil => simp at hi
 | cons a l ih =>
  match i with
  | 0 =>
   simp at hi
   subst hi
   rw [Nat.zero_mul, List.drop_zero, List.flatMap_cons, List.take_append_of_le_length (by rw [hf]; exact Nat.le_refl _), List.take_of_length_le (by rw [hf]; exact Nat.le_refl _)]
  | i + 1 =>
   have e : (i + 1) * w = (f a).length + i * w := by rw [Nat.succ_mul, hf, Nat.add_comm]
   rw [List.flatMap_cons, e, ← List.drop_drop, List.drop_left]
   exact ih (by simpa using hi)
theorem ownL.load {f : α → List Value} {w n0 : Nat} (hf : ∀ a, (f a).length = w) {h : Heap} {v : Value} {l : List α} (o : ownL f w n0 h v l) {i : Nat} {x : α} (hi : l[i]? = some x) : ∃ b c, v = .slice (some ⟨b, 0, none⟩) l.length c ∧ n0 ≤ b ∧ b < h.next ∧ h.get b = some (.cells (l.flatMap f) true w) ∧ h.cells b (i * w) w = some (f x) := by
 rcases o with ⟨rfl, _⟩ | ⟨b, h1, h2, h3, h4⟩
 ·simp at hi
 ·have hl := (List.getElem?_eq_some_iff.1 hi).1
  have hle : (i + 1) * w ≤ l.length * w := Nat.mul_le_mul_right _ hl
  rw [Nat.succ_mul] at hle
  refine ⟨b, _, h3, h1, h2, h4, ?_⟩
  simp only [Heap.cells, h4]
  rw [if_pos (by rw [flatF_len hf]; exact hle), row_at hf hi]
theorem ownL.elems {f : α → List Value} {w n0 : Nat} (hf : ∀ a, (f a).length = w) {h : Heap} {v : Value} {l : List α} (o : ownL f w n0 h v l) : elemsOf h w v = some (l.length, l.flatMap f) := by
 rcases o with ⟨rfl, rfl⟩ | ⟨b, h1, h2, rfl, h4⟩
 ·rfl
 ·by_cases h0 : l.length = 0
  ·have : l = [] := List.length_eq_zero_iff.1 h0
   subst this
   simp [elemsOf]
  ·simp only [elemsOf, h0, if_false, Heap.cells, h4, Nat.zero_add]
   rw [if_pos (by rw [flatF_len hf]; exact Nat.le_refl _), List.drop_zero, List.take_of_length_le (by rw [flatF_len hf]; exact Nat.le_refl _)]
   rfl
theorem ownL.append {f : α → List Value} {w bytes n0 : Nat} (hf : ∀ a, (f a).length = w) {h : Heap} {v x : Value} {l m : List α} (o : ownL f w n0 h v l) (hk : n0 ≤ h.next) (hx : elemsOf h w x = some (m.length, m.flatMap f)) (hs : (l.length + m.length) * bytes ≤ 140737488355328) :
 ∃ v' h', appendV w bytes v x h = some (v', h') ∧ Beside v h h' ∧ ownL f w n0 h' (v') (l ++ m) := by
 by_cases h0m : m.length = 0
 ·have : m = [] := List.length_eq_zero_iff.1 h0m
  subst this
  rw [List.append_nil]
  refine ⟨v, h, ?_, ⟨Nat.le_refl _, fun _ _ _ => rfl⟩, o⟩
  rcases o with ⟨_, rfl⟩ | ⟨b, _, _, rfl, _⟩
  ·simp [appendV, hx]
  ·simp [appendV, hx]
 ·rcases o with ⟨rfl, rfl⟩ | ⟨b, h1, h2, rfl, h4⟩
  ·rw [List.nil_append]
   have hs' : m.length * bytes ≤ 140737488355328 := by simpa using hs
   exact ⟨_, _, by simp only [appendV, hx, h0m, if_false]; rw [if_pos hs'], ⟨Nat.le_succ _, fun b hb _ => new_get_ne' _ _ (Nat.ne_of_lt hb)⟩, .inr ⟨h.next, hk, Nat.lt_succ_self _, rfl, new_get' _ _⟩⟩
  ·have hne : ¬ l.length = l.length + 1 := by omega
   refine ⟨.slice (some ⟨h.next, 0, none⟩) (l.length + m.length) (l.length + m.length + 1), (h.set b .dead).new (.cells ((l ++ m).flatMap f) true w), ?_, ⟨Nat.le_succ _, fun k hkk hkb => ?_⟩, .inr ⟨h.next, Nat.le_trans h1 (Nat.le_of_lt h2), Nat.lt_succ_self _, by rw [List.length_append], new_get' _ _⟩⟩
   ·simp only [appendV, hx, h0m, if_false, hne, h4]
    rw [if_pos hs, if_pos ⟨trivial, by rw [flatF_len hf, Nat.zero_add]; exact Nat.le_refl _⟩, List.drop_zero, List.take_of_length_le (by rw [flatF_len hf]; exact Nat.le_refl _), List.flatMap_append]
   ·rw [new_get_ne' _ _ (by rw [set_next]; omega), set_get_ne' _ _ (fun e => hkb _ _ _ rfl e.symm)]
theorem ownL.beside {f : α → List Value} {w n0 : Nat} {h h' : Heap} {v : Value} {l : List α} (o : ownL f w n0 h v l) (hb : Beside v h h') {b : Nat} (h1 : b < n0) (h2 : b < h.next) : h'.get b = h.get b := by
 refine hb.get b h2 ?_
 intro p n c hv
 rcases o with ⟨_, e⟩ | ⟨k, e1, _, e3, _⟩
 ·rw [e] at hv; cases hv
 ·rw [e3] at hv; cases hv
  simp only; omega
end Go.Idl
end

section
namespace Go.Idl
variable {T : Tbl}
theorem idraw_still_app {call : CallF} {anc : List (List Nat)} {ds : List Nat} : ∀ {l1 : List Step} (l2 : List Step) {i : Nat} {ras es0 : List Nat} {rs : List (Nat × Loc)} {es : List (Nat × Heap × Heap)} {s s' : St}, still anc (l1 ++ l2) i ras es0 = true → (∀ p ∈ rs, p.1 ∈ ras) → (∀ p ∈ es, p.1 ∈ es0) →
 iops call l1 s = some (none, s') → ∃ i' ras' es0' rs' es', still anc l2 i' ras' es0' = true ∧ (∀ p ∈ rs', p.1 ∈ ras') ∧ (∀ p ∈ es', p.1 ∈ es0') ∧ idraw call anc ds (l1 ++ l2) i rs es s = idraw call anc ds l2 i' rs' es' s'
 | [], l2, i, ras, es0, rs, es, s, s', hc, hrs, hes, h => by
  simp only [iops, Option.some.injEq, Prod.mk.injEq, true_and] at h
  subst h
  exact ⟨i, ras, es0, rs, es, hc, hrs, hes, rfl⟩
 | x :: l, l2, i, ras, es0, rs, es, s, s', hc, hrs, hes, h => by
  simp only [iops] at h
  simp only [List.cons_append, idraw]
  simp only [List.cons_append, still] at hc
  by_cases hw : wantedE s.e x.grd = true
  ·rw [if_pos hw] at h
   simp only [if_pos hw]
   cases hm : istm call x.dst x.stm s with
   | none => rw [hm] at h; cases h
   | some q =>
    obtain ⟨r, s1⟩ := q
    rw [hm] at h
    cases r with
    | some v => simp only [Option.some.injEq, Prod.mk.injEq, reduceCtorEq, false_and] at h
    | none =>
     simp only at h ⊢
     cases hk : kdStm x.stm with
     | P => rw [hk] at hc; exact idraw_still_app l2 hc hrs hes h
     | R =>
      rw [hk] at hc
      simp only [Bool.and_eq_true] at hc
      simp only
      rw [if_pos (fun p hp => .inl (by simpa using List.all_eq_true.1 hc.1 p.1 (hes p hp)))]
      exact idraw_still_app l2 hc.2 (fun p hp => by rcases List.mem_cons.1 hp with rfl | hp; exact List.mem_cons_self ..; exact List.mem_cons_of_mem _ (hrs p hp)) hes h
     | A =>
      rw [hk] at hc
      exact idraw_still_app l2 hc (fun p hp => by rcases List.mem_cons.1 hp with rfl | hp; exact List.mem_cons_self ..; exact List.mem_cons_of_mem _ (hrs p hp)) hes h
     | E =>
      rw [hk] at hc
      simp only [Bool.and_eq_true] at hc
      simp only
      rw [if_pos (fun p hp => .inl (by simpa using List.all_eq_true.1 hc.1 p.1 (hrs p hp)))]
      exact idraw_still_app l2 hc.2 hrs (fun p hp => by rcases List.mem_cons.1 hp with rfl | hp; exact List.mem_cons_self ..; exact List.mem_cons_of_mem _ (hes p hp)) h
  ·rw [if_neg hw] at h
   simp only [if_neg hw]
   refine idraw_still_app (ras := ras) (es0 := es0) l2 ?_ hrs hes h
   cases hk : kdStm x.stm <;> rw [hk] at hc <;> simp only [Bool.and_eq_true] at hc
   ·exact hc
   ·exact still_mono hc.2 (fun k hk => List.mem_cons_of_mem _ hk) (fun k hk => hk)
   ·exact still_mono hc (fun k hk => List.mem_cons_of_mem _ hk) (fun k hk => hk)
   ·exact still_mono hc.2 (fun k hk => hk) (fun k hk => List.mem_cons_of_mem _ hk)
theorem Wc_draw_end (n : Nat) {l : List Step} {anc : List (List Nat)} {s : St} {Q : Ex → St → Prop} {x : Step} (hl : l.drop n = [x]) (hc : still anc l 0 [] [] = true)
 (h : Wo T (l.take n) s (fun r s1 => r = none ∧ Wo T [x] s1 (fun r s' => match r with | none => Q .normal s' | some v => ∀ e, Q (.pan v) ⟨e, s'.h, s'.d⟩))) : Wc T (.draw l anc) s Q := by
 obtain ⟨n1, r1, s1, h1, rfl, n2, r2, s2, h2, h3⟩ := h
 have h1' := iops_le (Nat.le_max_left n1 n2) h1
 have h2' := iops_le (Nat.le_max_right n1 n2) h2
 have hls : l.take n ++ l.drop n = l := List.take_append_drop n l
 obtain ⟨i', ras', es0', rs', es', q1, q2, q3, q4⟩ := idraw_still_app (call := icall T (max n1 n2)) (anc := anc) (ds := l.filterMap (·.dst)) (l.drop n) (i := 0) (ras := []) (es0 := []) (rs := []) (es := []) (by rw [hls]; exact hc) (fun p hp => by cases hp) (fun p hp => by cases hp) h1'
 rw [hls, hl] at q4
 rw [hl] at q1
 cases r2 with
 | none =>
  have := idraw_still (ds := l.filterMap (·.dst)) q1 q2 q3 h2'
  exact ⟨max n1 n2, .normal, s2, by simp only [icode, q4, this, exOf], h3⟩
 | some v =>
  refine ⟨max n1 n2, .pan v, ⟨forget s1.e (l.filterMap (·.dst)), s2.h, s2.d⟩, ?_, h3 _⟩
  have : idraw (icall T (max n1 n2)) anc (l.filterMap (·.dst)) [x] i' rs' es' s1 = some (some v, ⟨forget s1.e (l.filterMap (·.dst)), s2.h, s2.d⟩) := by
   simp only [iops] at h2'
   simp only [idraw]
   by_cases hw : wantedE s1.e x.grd = true
   ·rw [if_pos hw] at h2' ⊢
    cases hm : istm (icall T (max n1 n2)) x.dst x.stm s1 with
    | none => rw [hm] at h2'; cases h2'
    | some q =>
     obtain ⟨r, s3⟩ := q
     rw [hm] at h2'
     cases r with
     | none => simp only [Option.some.injEq, Prod.mk.injEq, reduceCtorEq, false_and] at h2'
     | some u =>
      simp only [Option.some.injEq, Prod.mk.injEq] at h2'
      obtain ⟨rfl, rfl⟩ := h2'
      simp only [allAnc, if_true]
   ·rw [if_neg hw] at h2'
    simp only [Option.some.injEq, Prod.mk.injEq, reduceCtorEq, false_and] at h2'
  simp only [icode, q4, this, exOf]
end Go.Idl
end

section
namespace Go.Idl
def C38 : IFn := ⟨23, (.seq (.ops [Sx 2 (.mov (.c (.bool false)))]) (.seq (.ops [Sm 4 0, Sc 5 30 [], Sx 6 (.build [.string ⟨#[]⟩, .int .i64 0, .int .i64 0, .int .i64 0, .int .i64 0, .int .i64 0, .int .i64 0, .int .i64 0, .int .i64 0, .int .i64 0, .int .i64 0, .int .i64 0, .int .i64 0, .int .i64 0, .int .i64 0, .int .i64 0, .int .i64 0, .int .i64 0, .int .i64 0, .int .i64 0, .int .i64 0, .int .i64 0, .int .i64 0, .int .i64 0, .int .i64 0, .int .i64 0, .int .i64 0, .int .i64 0, .int .i64 0, .int .i64 0, .int .i64 0, .int .i64 0, .int .i64 0, .int .i64 0, .int .i64 0, .int .i64 0, .int .i64 0, .int .i64 0, .int .i64 0, .int .i64 0, .int .i64 0, .int .i64 0, .int .i64 0, .int .i64 0, .int .i64 0, .int .i64 0, .int .i64 0, .int .i64 0, .int .i64 0, .int .i64 0, .int .i64 0, .int .i64 0, .int .i64 0, .int .i64 0, .int .i64 0, .int .i64 0, .int .i64 0, .int .i64 0, .int .i64 0, .int .i64 0, .int .i64 0, .int .i64 0, .int .i64 0, .int .i64 0, .int .i64 0, .int .i64 0, .int .i64 0, .int .i64 0, .int .i64 0, .int .i64 0, .int .i64 0, .int .i64 0, .int .i64 0, .int .i64 0, .int .i64 0, .int .i64 0, .int .i64 0, .int .i64 0, .int .i64 0, .int .i64 0, .int .i64 0, .int .i64 0, .int .i64 0, .int .i64 0, .int .i64 0, .int .i64 0, .int .i64 0, .int .i64 0, .int .i64 0, .int .i64 0, .int .i64 0, .int .i64 0, .int .i64 0, .int .i64 0, .int .i64 0, .int .i64 0, .int .i64 0, .int .i64 0, .int .i64 0, .int .i64 0, .int .i64 0, .int .i64 0, .int .i64 0, .int .i64 0, .int .i64 0, .int .i64 0, .int .i64 0, .int .i64 0, .int .i64 0, .int .i64 0, .int .i64 0, .int .i64 0, .int .i64 0, .int .i64 0, .int .i64 0, .int .i64 0, .int .i64 0, .int .i64 0, .int .i64 0, .int .i64 0, .int .i64 0, .int .i64 0, .int .i64 0, .int .i64 0, .int .i64 0, .int .i64 0, .int .i64 0, .int .i64 0, .int .i64 0, .int .i64 0, .int .i64 0, .int .i64 0, .int .i64 0, .int .i64 0, .int .i64 0, .int .i64 0, .int .i64 0, .int .i64 0, .int .i64 0, .int .i64 0, .int .i64 0, .int .i64 0, .int .i64 0, .int .i64 0, .int .i64 0, .int .i64 0, .int .i64 0, .int .i64 0, .int .i64 0, .int .i64 0, .int .i64 0, .int .i64 0, .int .i64 0, .int .i64 0, .int .i64 0, .int .i64 0, .int .i64 0, .int .i64 0, .int .i64 0, .int .i64 0, .int .i64 0, .int .i64 0, .int .i64 0, .int .i64 0, .int .i64 0, .int .i64 0, .int .i64 0, .int .i64 0, .int .i64 0, .int .i64 0, .int .i64 0, .int .i64 0, .int .i64 0, .int .i64 0, .int .i64 0, .int .i64 0, .int .i64 0, .int .i64 0, .int .i64 0, .int .i64 0, .int .i64 0, .int .i64 0, .int .i64 0, .int .i64 0, .int .i64 0, .int .i64 0, .int .i64 0, .int .i64 0, .int .i64 0, .int .i64 0, .int .i64 0, .int .i64 0, .int .i64 0, .int .i64 0, .int .i64 0, .int .i64 0, .int .i64 0, .int .i64 0, .int .i64 0, .int .i64 0, .int .i64 0, .int .i64 0, .int .i64 0, .int .i64 0, .int .i64 0, .int .i64 0, .int .i64 0, .int .i64 0, .int .i64 0, .int .i64 0, .int .i64 0, .int .i64 0, .int .i64 0, .int .i64 0, .int .i64 0, .int .i64 0, .int .i64 0, .int .i64 0, .int .i64 0, .int .i64 0, .int .i64 0, .int .i64 0, .int .i64 0, .int .i64 0, .int .i64 0, .int .i64 0, .int .i64 0, .int .i64 0, .int .i64 0, .int .i64 0, .int .i64 0, .int .i64 0, .int .i64 0, .int .i64 0, .int .i64 0, .int .i64 0, .int .i64 0, .int .i64 0, .int .i64 0, .int .i64 0, .int .i64 0, .int .i64 0, .int .i64 0, .int .i64 0, .int .i64 0, .int .i64 0, .int .i64 0, .int .i64 0, .int .i64 0, .int .i64 0, .int .i64 0, .int .i64 0, .int .i64 0, .int .i64 0, .int .i64 0, .int .i64 0, .int .i64 0, .int .i64 0] [(0, 1, .t 4), (2, 256, .t 5)]), Sx 7 (.box (.t 6)), Sm 3 7]) (.seq (.ops [Sm 8 3, Sc 9 51 [.t 8, (Ci 0)], Sb 10 .eql (.t 9) (Ci 2), Sm 11 10, Sg 12 (.mov (.t 3)) 11 true, ⟨some 13, .call 52 [.t 12], (some (11, true))⟩, Sg 14 (.mov (.t 0)) 11 true, Sg 15 (.len .str (.t 14)) 11 true, Sg 16 (.bin .eql (.t 13) (.t 15)) 11 true, Sx 17 (.pick (.t 11) (.t 16) (.c (.bool false))), Sm 18 17, Sg 19 (.mov (.t 0)) 18 true, ⟨some 20, .call 53 [.t 19], (some (18, true))⟩, Sg 21 (.un .not (.t 20)) 18 true, Sx 22 (.pick (.t 18) (.t 21) (.c (.bool false))), Sm 2 22]) .ret))), [.tmp 2]⟩
def C39L0 : IC := (.seq (.ops [Sb 48 .lss (.t 47) (.t 46)]) (.seq (.cond (.t 48) .skip (.exit 0)) (.seq (.block 1 (.seq (.ops [Sm 49 47, Sm 6 49]) (.seq (.ops [Sm 51 0, Sm 52 6, Sx 53 (.sidx (.t 51) (.t 52)), Sm 54 4, Sc 55 58 [.t 53, .t 54], Sm 50 55, Se 56 50 0, Se 57 50 1, Sm 7 56, Sm 8 57]) (.seq (.seq (.ops [Sm 58 8, Sx 59 (.un .not (.t 58)), Sm 60 59, Sg 61 (.mov (.t 5)) 60 false, Sg 62 (.mov (.t 7)) 60 false, Sg 63 (.bin .sub (.c (.int .u64 9223372036854775807)) (.t 62)) 60 false, Sg 64 (.mov (.t 4)) 60 false, Sg 65 (.bin .quo (.t 63) (.t 64)) 60 false, Sg 66 (.bin .gtr (.t 61) (.t 65)) 60 false, Sx 67 (.pick (.t 60) (.c (.bool true)) (.t 66))]) (.cond (.t 67) (.seq (.ops [Sx 2 (.mov (Ci 0)), Sx 3 (.mov (.c (.bool false)))]) .ret) .skip)) (.ops [Sm 68 5, Sm 69 4, Sb 70 .mul (.t 68) (.t 69), Sm 71 7, Sb 72 .add (.t 70) (.t 71), Sm 5 72]))))) (.ops [Sb 73 .add (.t 47) (Ci 1), Sm 47 73])))) def C39 : IFn := ⟨78, (.seq (.ops [Sx 2 (.mov (Ci 0)), Sx 3 (.mov (.c (.bool false)))]) (.seq (.seq (.ops [Sm 9 0, Sx 10 (.len .str (.t 9)), Sb 11 .eql (.t 10) (Ci 3), Sm 12 11, Sg 13 (.mov (.t 0)) 12 true, Sg 14 (.sidx (.t 13) (Ci 0)) 12 true, Sg 15 (.bin .eql (.t 14) (.c (.int .u8 39))) 12 true, Sx 16 (.pick (.t 12) (.t 15) (.c (.bool false))), Sm 17 16, Sg 18 (.mov (.t 0)) 17 true, Sg 19 (.sidx (.t 18) (Ci 2)) 17 true, Sg 20 (.bin .eql (.t 19) (.c (.int .u8 39))) 17 true, Sx 21 (.pick (.t 17) (.t 20) (.c (.bool false))), Sm 22 21, Sg 23 (.mov (.t 0)) 22 true, Sg 24 (.sidx (.t 23) (Ci 1)) 22 true, Sg 25 (.bin .geq (.t 24) (.c (.int .u8 32))) 22 true, Sx 26 (.pick (.t 22) (.t 25) (.c (.bool false))), Sm 27 26, Sg 28 (.mov (.t 0)) 27 true, Sg 29 (.sidx (.t 28) (Ci 1)) 27 true, Sg 30 (.bin .leq (.t 29) (.c (.int .u8 126))) 27 true, Sx 31 (.pick (.t 27) (.t 30) (.c (.bool false)))]) (.cond (.t 31) (.seq (.ops [Sm 32 0, Sx 33 (.sidx (.t 32) (Ci 1)), Sx 34 (.conv .i64 (.t 33)), Sm 2 34, Sx 3 (.mov (.c (.bool true)))]) .ret) .skip)) (.seq (.ops [Sx 4 (.mov (.c (.int .u64 10)))]) (.seq (.seq (.ops [Sm 35 0, Sx 36 (.len .str (.t 35)), Sb 37 .gtr (.t 36) (Ci 2), Sm 38 37, Sg 39 (.mov (.t 0)) 38 true, Sg 40 (.sub .str (.t 39) none (some (Ci 2)) none) 38 true, Sg 41 (.bin .eql (.t 40) (.c (.string ⟨#[48, 120]⟩))) 38 true, Sx 42 (.pick (.t 38) (.t 41) (.c (.bool false)))]) (.cond (.t 42) (.draw [Sm 43 0, Sx 44 (.sub .str (.t 43) (some (Ci 2)) none none), Sx 4 (.mov (.c (.int .u64 16))), Sm 0 44] [[], [0], [], [2, 1, 0]]) .skip)) (.seq (.ops [Sx 5 (.mov (.c (.int .u64 0)))]) (.seq (.seq (.ops [Sm 45 0, Sx 46 (.len .str (.t 45)), Sx 47 (.mov (Ci 0))]) (.block 0 (.loop C39L0))) (.seq (.ops [Sm 74 5, Sx 75 (.conv .i64 (.t 74)), Sm 76 0, Sb 77 .neq (.t 76) (.c (.string ⟨#[]⟩)), Sm 2 75, Sm 3 77]) .ret))))))), [.tmp 2, .tmp 3]⟩
def C53L0 : IC := (.seq (.ops [Sb 7 .lss (.t 6) (Ci 19)]) (.seq (.cond (.t 7) .skip (.exit 0)) (.seq (.block 1 (.seq (.ops [Sx 8 (.aidx 19 1 none (.t 5) (.t 6)), Sm 4 8]) (.seq (.ops [Sm 9 4, Sm 10 0, Sb 11 .eql (.t 9) (.t 10)]) (.cond (.t 11) (.seq (.ops [Sx 2 (.mov (.c (.bool true)))]) .ret) .skip)))) (.ops [Sb 12 .add (.t 6) (Ci 1), Sm 6 12])))) def C53 : IFn := ⟨13, (.seq (.ops [Sx 2 (.mov (.c (.bool false)))]) (.seq (.seq (.ops [Sc 5 62 [], Sx 6 (.mov (Ci 0))]) (.block 0 (.loop C53L0))) (.seq (.ops [Sx 2 (.mov (.c (.bool false)))]) .ret))), [.tmp 2]⟩
def C62 : IFn := ⟨2, (.seq (.ops [Sx 0 (.alloc [.string ⟨#[]⟩, .string ⟨#[]⟩, .string ⟨#[]⟩, .string ⟨#[]⟩, .string ⟨#[]⟩, .string ⟨#[]⟩, .string ⟨#[]⟩, .string ⟨#[]⟩, .string ⟨#[]⟩, .string ⟨#[]⟩, .string ⟨#[]⟩, .string ⟨#[]⟩, .string ⟨#[]⟩, .string ⟨#[]⟩, .string ⟨#[]⟩, .string ⟨#[]⟩, .string ⟨#[]⟩, .string ⟨#[]⟩, .string ⟨#[]⟩])]) (.seq (.ops [Sx 1 (.build [.string ⟨#[]⟩, .string ⟨#[]⟩, .string ⟨#[]⟩, .string ⟨#[]⟩, .string ⟨#[]⟩, .string ⟨#[]⟩, .string ⟨#[]⟩, .string ⟨#[]⟩, .string ⟨#[]⟩, .string ⟨#[]⟩, .string ⟨#[]⟩, .string ⟨#[]⟩, .string ⟨#[]⟩, .string ⟨#[]⟩, .string ⟨#[]⟩, .string ⟨#[]⟩, .string ⟨#[]⟩, .string ⟨#[]⟩, .string ⟨#[]⟩] [(0, 1, .c (.string ⟨#[114, 101, 99]⟩)), (1, 1, .c (.string ⟨#[102, 110]⟩)), (2, 1, .c (.string ⟨#[108, 101, 116]⟩)), (3, 1, .c (.string ⟨#[105, 102]⟩)), (4, 1, .c (.string ⟨#[101, 108, 115, 101]⟩)), (5, 1, .c (.string ⟨#[119, 104, 105, 108, 101]⟩)), (6, 1, .c (.string ⟨#[114, 101, 116, 117, 114, 110]⟩)), (7, 1, .c (.string ⟨#[111, 117, 116]⟩)), (8, 1, .c (.string ⟨#[115, 116, 111, 112]⟩)), (9, 1, .c (.string ⟨#[109, 101, 114, 103, 101]⟩)), (10, 1, .c (.string ⟨#[112, 114, 111, 109, 111, 116, 101]⟩)), (11, 1, .c (.string ⟨#[110, 101, 119]⟩)), (12, 1, .c (.string ⟨#[97, 114, 114]⟩)), (13, 1, .c (.string ⟨#[108, 101, 110]⟩)), (14, 1, .c (.string ⟨#[105, 110]⟩)), (15, 1, .c (.string ⟨#[105, 109, 103]⟩)), (16, 1, .c (.string ⟨#[115, 105, 122, 101]⟩)), (17, 1, .c (.string ⟨#[110, 117, 108, 108]⟩)), (18, 1, .c (.string ⟨#[114, 111, 111, 116]⟩))]), Su (.store 19 (.t 0) (.t 1))]) .ret)), [.cell 0 (some 19)]⟩
def C58 : IFn := ⟨43, (.seq (.ops [Sx 4 (.mov (.c (.int .u64 0))), Sx 5 (.mov (.c (.bool false)))]) (.seq (.ops [Sx 6 (.mov (.c (.int .u64 255)))]) (.seq (.block 0 (.seq (.ops [Sm 8 0, Sb 9 .geq (.t 8) (.c (.int .u8 48)), Sm 10 9, Sg 11 (.mov (.t 0)) 10 true, Sg 12 (.bin .leq (.t 11) (.c (.int .u8 57))) 10 true, Sx 13 (.pick (.t 10) (.t 12) (.c (.bool false))), Sm 7 13]) (.cond (.t 7) (.ops [Sm 14 0, Sb 15 .sub (.t 14) (.c (.int .u8 48)), Sx 16 (.conv .u64 (.t 15)), Sm 6 16]) (.seq (.ops [Sm 18 0, Sb 19 .geq (.t 18) (.c (.int .u8 97)), Sm 20 19, Sg 21 (.mov (.t 0)) 20 true, Sg 22 (.bin .leq (.t 21) (.c (.int .u8 102))) 20 true, Sx 23 (.pick (.t 20) (.t 22) (.c (.bool false))), Sm 17 23]) (.cond (.t 17) (.ops [Sm 24 0, Sb 25 .sub (.t 24) (.c (.int .u8 97)), Sx 26 (.conv .u64 (.t 25)), Sb 27 .add (.t 26) (.c (.int .u64 10)), Sm 6 27]) (.seq (.ops [Sm 29 0, Sb 30 .geq (.t 29) (.c (.int .u8 65)), Sm 31 30, Sg 32 (.mov (.t 0)) 31 true, Sg 33 (.bin .leq (.t 32) (.c (.int .u8 70))) 31 true, Sx 34 (.pick (.t 31) (.t 33) (.c (.bool false))), Sm 28 34]) (.cond (.t 28) (.ops [Sm 35 0, Sb 36 .sub (.t 35) (.c (.int .u8 65)), Sx 37 (.conv .u64 (.t 36)), Sb 38 .add (.t 37) (.c (.int .u64 10)), Sm 6 38]) .skip))))))) (.seq (.ops [Sm 39 6, Sm 40 6, Sm 41 1, Sb 42 .lss (.t 40) (.t 41), Sm 4 39, Sm 5 42]) .ret)))), [.tmp 4, .tmp 5]⟩
def C51 : IFn := ⟨33, (.seq (.ops [Sx 4 (.mov (Ci 0))]) (.seq (.seq (.draw [Sm 5 0, Sn 6 5, Sf 7 1 6, Sl 8 7, Sm 9 1, Sb 10 .add (.t 8) (.t 9), Sm 11 0, Sn 12 11, Sf 13 0 12, Sl 14 13, Sx 15 (.len .str (.t 14)), Sb 16 .geq (.t 10) (.t 15)] [[], [0], [1, 0], [2, 1, 0], [], [4, 3, 2, 1, 0], [], [6], [7, 6], [8, 7, 6], [9, 8, 7, 6], [10, 9, 8, 7, 6, 5, 4, 3, 2, 1, 0]]) (.cond (.t 16) (.seq (.ops [Sx 4 (.mov (Ci 0))]) .ret) .skip)) (.seq (.draw [Sm 17 0, Sm 18 0, Sn 19 18, Sf 20 0 19, Sl 21 20, Sm 22 0, Sn 23 22, Sf 24 1 23, Sl 25 24, Sm 26 1, Sb 27 .add (.t 25) (.t 26), Sx 28 (.sidx (.t 21) (.t 27)), Sn 29 17, Sf 30 2 29, Sx 31 (.iaddr (.ar 256 1) (.t 30) (.t 28)), Sl 32 31, Sm 4 32] [[], [], [1], [2, 1], [3, 2, 1], [], [5], [6, 5], [7, 6, 5], [], [9, 8, 7, 6, 5], [10, 9, 8, 7, 6, 5, 4, 3, 2, 1], [0], [12, 0], [11, 10, 9, 8, 7, 6, 5, 4, 3, 2, 1, 13, 12, 0], [14, 11, 10, 9, 8, 7, 6, 5, 4, 3, 2, 1, 13, 12, 0], [15, 14, 11, 10, 9, 8, 7, 6, 5, 4, 3, 2, 1, 13, 12, 0]]) .ret))), [.tmp 4]⟩
def C52L0 : IC := (.seq (.seq (.ops [Sm 8 4, Sb 9 .eql (.t 8) (Ci 2), Sm 10 9, Sg 11 (.mov (.t 4)) 10 false, Sg 12 (.bin .eql (.t 11) (Ci 3)) 10 false, Sx 13 (.pick (.t 10) (.c (.bool true)) (.t 12))]) (.cond (.t 13) .skip (.exit 0))) (.seq (.block 1 (.ops [Sm 17 3, Sb 18 .add (.t 17) (Ci 1), Sm 3 18])) (.ops [Sm 14 0, Sm 15 3, Sc 16 51 [.t 14, .t 15], Sm 4 16]))) def C52 : IFn := ⟨20, (.seq (.ops [Sx 2 (.mov (Ci 0))]) (.seq (.ops [Sx 3 (.mov (Ci 0))]) (.seq (.seq (.ops [Sm 5 0, Sm 6 3, Sc 7 51 [.t 5, .t 6], Sm 4 7]) (.block 0 (.loop C52L0))) (.seq (.ops [Sm 19 3, Sm 2 19]) .ret)))), [.tmp 2]⟩
def C50L0 : IC := (.seq (.seq (.draw [Sm 60 0, Sn 61 60, Sf 62 1 61, Sl 63 62, Sm 64 0, Sn 65 64, Sf 66 0 65, Sl 67 66, Sx 68 (.len .str (.t 67)), Sb 69 .lss (.t 63) (.t 68), Sm 70 69, Sg 71 (.mov (.t 0)) 70 true, Sg 72 (.nilck (.t 71)) 70 true, Sg 73 (.faddr 0 (.t 72)) 70 true, Sg 74 (.load none (.t 73)) 70 true, Sg 75 (.mov (.t 0)) 70 true, Sg 76 (.nilck (.t 75)) 70 true, Sg 77 (.faddr 1 (.t 76)) 70 true, Sg 78 (.load none (.t 77)) 70 true, Sg 79 (.sidx (.t 74) (.t 78)) 70 true, Sg 80 (.bin .neq (.t 79) (.c (.int .u8 10))) 70 true, Sx 81 (.pick (.t 70) (.t 80) (.c (.bool false)))] [[], [0], [1, 0], [2, 1, 0], [], [4], [5, 4], [6, 5, 4], [7, 6, 5, 4], [8, 7, 6, 5, 4, 3, 2, 1, 0], [9, 8, 7, 6, 5, 4, 3, 2, 1, 0], [10, 9, 8, 7, 6, 5, 4, 3, 2, 1, 0], [10, 9, 8, 7, 6, 5, 4, 3, 2, 1, 0, 11], [10, 9, 8, 7, 6, 5, 4, 3, 2, 1, 0, 12, 11], [10, 9, 8, 7, 6, 5, 4, 3, 2, 1, 0, 13, 12, 11], [10, 9, 8, 7, 6, 5, 4, 3, 2, 1, 0], [10, 9, 8, 7, 6, 5, 4, 3, 2, 1, 0, 15], [10, 9, 8, 7, 6, 5, 4, 3, 2, 1, 0, 16, 15], [10, 9, 8, 7, 6, 5, 4, 3, 2, 1, 0, 17, 16, 15], [10, 9, 8, 7, 6, 5, 4, 3, 2, 1, 0, 18, 17, 16, 15, 14, 13, 12, 11], [10, 9, 8, 7, 6, 5, 4, 3, 2, 1, 0, 19, 18, 17, 16, 15, 14, 13, 12, 11], [20, 10, 9, 8, 7, 6, 5, 4, 3, 2, 1, 0, 19, 18, 17, 16, 15, 14, 13, 12, 11]]) (.cond (.t 81) .skip (.exit 3))) (.block 4 (.ops [Sm 82 0, Sn 83 82, Sf 84 1 83, Sl 85 84, Sb 86 .add (.t 85) (Ci 1), Sn 87 82, Sf 88 1 87, Su (.store 1 (.t 88) (.t 86))]))) def C50L1 : IC := (.seq (.seq (.draw [Sm 2 0, Sn 3 2, Sf 4 1 3, Sl 5 4, Sm 6 0, Sn 7 6, Sf 8 0 7, Sl 9 8, Sx 10 (.len .str (.t 9)), Sb 11 .lss (.t 5) (.t 10)] [[], [0], [1, 0], [2, 1, 0], [], [4], [5, 4], [6, 5, 4], [7, 6, 5, 4], [8, 7, 6, 5, 4, 3, 2, 1, 0]]) (.cond (.t 11) .skip (.exit 0))) (.block 1 (.seq (.block 2 (.seq (.ops [Sm 13 0, Sc 14 51 [.t 13, (Ci 0)], Sb 15 .eql (.t 14) (Ci 1), Sm 12 15]) (.cond (.t 12) (.seq (.ops [Sm 16 0, Sn 17 16, Sf 18 1 17, Sl 19 18, Sb 20 .add (.t 19) (Ci 1), Sn 21 16, Sf 22 1 21, Su (.store 1 (.t 22) (.t 20))]) (.exit 1)) (.seq (.draw [Sm 24 0, Sn 25 24, Sf 26 0 25, Sl 27 26, Sm 28 0, Sn 29 28, Sf 30 1 29, Sl 31 30, Sx 32 (.sidx (.t 27) (.t 31)), Sb 33 .neq (.t 32) (.c (.int .u8 47)), Sm 34 33, Sg 35 (.mov (.t 0)) 34 false, Sg 36 (.nilck (.t 35)) 34 false, Sg 37 (.faddr 1 (.t 36)) 34 false, Sg 38 (.load none (.t 37)) 34 false, Sg 39 (.bin .add (.t 38) (Ci 1)) 34 false, Sg 40 (.mov (.t 0)) 34 false, Sg 41 (.nilck (.t 40)) 34 false, Sg 42 (.faddr 0 (.t 41)) 34 false, Sg 43 (.load none (.t 42)) 34 false, Sg 44 (.len .str (.t 43)) 34 false, Sg 45 (.bin .geq (.t 39) (.t 44)) 34 false, Sx 46 (.pick (.t 34) (.c (.bool true)) (.t 45)), Sm 47 46, Sg 48 (.mov (.t 0)) 47 false, Sg 49 (.nilck (.t 48)) 47 false, Sg 50 (.faddr 0 (.t 49)) 47 false, Sg 51 (.load none (.t 50)) 47 false, Sg 52 (.mov (.t 0)) 47 false, Sg 53 (.nilck (.t 52)) 47 false, Sg 54 (.faddr 1 (.t 53)) 47 false, Sg 55 (.load none (.t 54)) 47 false, Sg 56 (.bin .add (.t 55) (Ci 1)) 47 false, Sg 57 (.sidx (.t 51) (.t 56)) 47 false, Sg 58 (.bin .neq (.t 57) (.c (.int .u8 47))) 47 false, Sx 59 (.pick (.t 47) (.c (.bool true)) (.t 58)), Sm 23 59] [[], [0], [1, 0], [2, 1, 0], [], [4], [5, 4], [6, 5, 4], [7, 6, 5, 4, 3, 2, 1, 0], [8, 7, 6, 5, 4, 3, 2, 1, 0], [9, 8, 7, 6, 5, 4, 3, 2, 1, 0], [10, 9, 8, 7, 6, 5, 4, 3, 2, 1, 0], [10, 9, 8, 7, 6, 5, 4, 3, 2, 1, 0, 11], [10, 9, 8, 7, 6, 5, 4, 3, 2, 1, 0, 12, 11], [10, 9, 8, 7, 6, 5, 4, 3, 2, 1, 0, 13, 12, 11], [10, 9, 8, 7, 6, 5, 4, 3, 2, 1, 0, 14, 13, 12, 11], [10, 9, 8, 7, 6, 5, 4, 3, 2, 1, 0], [10, 9, 8, 7, 6, 5, 4, 3, 2, 1, 0, 16], [10, 9, 8, 7, 6, 5, 4, 3, 2, 1, 0, 17, 16], [10, 9, 8, 7, 6, 5, 4, 3, 2, 1, 0, 18, 17, 16], [10, 9, 8, 7, 6, 5, 4, 3, 2, 1, 0, 19, 18, 17, 16], [10, 9, 8, 7, 6, 5, 4, 3, 2, 1, 0, 20, 19, 18, 17, 16, 15, 14, 13, 12, 11], [21, 10, 9, 8, 7, 6, 5, 4, 3, 2, 1, 0, 20, 19, 18, 17, 16, 15, 14, 13, 12, 11], [10, 9, 8, 7, 6, 5, 4, 3, 2, 1, 0, 22, 21, 20, 19, 18, 17, 16, 15, 14, 13, 12, 11], [23, 10, 9, 8, 7, 6, 5, 4, 3, 2, 1, 0, 22, 21, 20, 19, 18, 17, 16, 15, 14, 13, 12, 11], [23, 10, 9, 8, 7, 6, 5, 4, 3, 2, 1, 0, 22, 21, 20, 19, 18, 17, 16, 15, 14, 13, 12, 11, 24], [23, 10, 9, 8, 7, 6, 5, 4, 3, 2, 1, 0, 22, 21, 20, 19, 18, 17, 16, 15, 14, 13, 12, 11, 25, 24], [23, 10, 9, 8, 7, 6, 5, 4, 3, 2, 1, 0, 22, 21, 20, 19, 18, 17, 16, 15, 14, 13, 12, 11, 26, 25, 24], [23, 10, 9, 8, 7, 6, 5, 4, 3, 2, 1, 0, 22, 21, 20, 19, 18, 17, 16, 15, 14, 13, 12, 11], [23, 10, 9, 8, 7, 6, 5, 4, 3, 2, 1, 0, 22, 21, 20, 19, 18, 17, 16, 15, 14, 13, 12, 11, 28], [23, 10, 9, 8, 7, 6, 5, 4, 3, 2, 1, 0, 22, 21, 20, 19, 18, 17, 16, 15, 14, 13, 12, 11, 29, 28], [23, 10, 9, 8, 7, 6, 5, 4, 3, 2, 1, 0, 22, 21, 20, 19, 18, 17, 16, 15, 14, 13, 12, 11, 30, 29, 28], [23, 10, 9, 8, 7, 6, 5, 4, 3, 2, 1, 0, 22, 21, 20, 19, 18, 17, 16, 15, 14, 13, 12, 11, 31, 30, 29, 28], [23, 10, 9, 8, 7, 6, 5, 4, 3, 2, 1, 0, 22, 21, 20, 19, 18, 17, 16, 15, 14, 13, 12, 11, 32, 31, 30, 29, 28, 27, 26, 25, 24], [23, 10, 9, 8, 7, 6, 5, 4, 3, 2, 1, 0, 22, 21, 20, 19, 18, 17, 16, 15, 14, 13, 12, 11, 33, 32, 31, 30, 29, 28, 27, 26, 25, 24], [34, 23, 10, 9, 8, 7, 6, 5, 4, 3, 2, 1, 0, 22, 21, 20, 19, 18, 17, 16, 15, 14, 13, 12, 11, 33, 32, 31, 30, 29, 28, 27, 26, 25, 24], [23, 10, 9, 8, 7, 6, 5, 4, 3, 2, 1, 0, 22, 21, 20, 19, 18, 17, 16, 15, 14, 13, 12, 11, 35, 34, 33, 32, 31, 30, 29, 28, 27, 26, 25, 24]]) (.cond (.t 23) .ret .skip))))) (.block 3 (.loop C50L0))))) def C50 : IFn := ⟨89, (.seq .skip (.block 0 (.loop C50L1))), []⟩
def C54 : IFn := ⟨68, (.seq (.ops [Sx 2 (.mov (Ci 0))]) (.seq (.draw [Sm 5 0, Sn 6 5, Sf 7 0 6, Sl 8 7, Sm 9 0, Sn 10 9, Sf 11 1 10, Sl 12 11, Sx 13 (.sidx (.t 8) (.t 12)), Sm 3 13] [[], [0], [1, 0], [2, 1, 0], [], [4], [5, 4], [6, 5, 4], [7, 6, 5, 4, 3, 2, 1, 0], [8, 7, 6, 5, 4, 3, 2, 1, 0]]) (.seq (.ops [Sx 4 (.mov (.c (.int .u8 0)))]) (.seq (.seq (.draw [Sm 14 0, Sn 15 14, Sf 16 1 15, Sl 17 16, Sb 18 .add (.t 17) (Ci 1), Sm 19 0, Sn 20 19, Sf 21 0 20, Sl 22 21, Sx 23 (.len .str (.t 22)), Sb 24 .lss (.t 18) (.t 23)] [[], [0], [1, 0], [2, 1, 0], [3, 2, 1, 0], [], [5], [6, 5], [7, 6, 5], [8, 7, 6, 5], [9, 8, 7, 6, 5, 4, 3, 2, 1, 0]]) (.cond (.t 24) (.draw [Sm 25 0, Sn 26 25, Sf 27 0 26, Sl 28 27, Sm 29 0, Sn 30 29, Sf 31 1 30, Sl 32 31, Sb 33 .add (.t 32) (Ci 1), Sx 34 (.sidx (.t 28) (.t 33)), Sm 4 34] [[], [0], [1, 0], [2, 1, 0], [], [4], [5, 4], [6, 5, 4], [7, 6, 5, 4], [8, 7, 6, 5, 4, 3, 2, 1, 0], [9, 8, 7, 6, 5, 4, 3, 2, 1, 0]]) .skip)) (.seq (.block 0 (.seq (.ops [Sm 36 3, Sb 37 .eql (.t 36) (.c (.int .u8 62)), Sm 38 37, Sg 39 (.mov (.t 4)) 38 true, Sg 40 (.bin .neq (.t 39) (.c (.int .u8 62))) 38 true, Sx 41 (.pick (.t 38) (.t 40) (.c (.bool false))), Sm 35 41]) (.cond (.t 35) (.seq (.ops [Sx 2 (.mov (Ci 0))]) .ret) (.seq (.seq (.ops [Sm 43 3, Sb 44 .eql (.t 43) (.c (.int .u8 60)), Sm 45 44, Sg 46 (.mov (.t 3)) 45 false, Sg 47 (.bin .eql (.t 46) (.c (.int .u8 62))) 45 false, Sx 48 (.pick (.t 45) (.c (.bool true)) (.t 47)), Sm 49 48, Sg 50 (.mov (.t 4)) 49 true, Sg 51 (.mov (.t 3)) 49 true, Sg 52 (.bin .eql (.t 50) (.t 51)) 49 true, Sx 53 (.pick (.t 49) (.t 52) (.c (.bool false))), Sm 42 53]) (.cond (.t 42) .skip (.ops [Sm 54 3, Sb 55 .eql (.t 54) (.c (.int .u8 61)), Sm 56 55, Sg 57 (.mov (.t 3)) 56 false, Sg 58 (.bin .eql (.t 57) (.c (.int .u8 33))) 56 false, Sx 59 (.pick (.t 56) (.c (.bool true)) (.t 58)), Sm 60 59, Sg 61 (.mov (.t 3)) 60 false, Sg 62 (.bin .eql (.t 61) (.c (.int .u8 60))) 60 false, Sx 63 (.pick (.t 60) (.c (.bool true)) (.t 62)), Sm 64 63, Sg 65 (.mov (.t 4)) 64 true, Sg 66 (.bin .eql (.t 65) (.c (.int .u8 61))) 64 true, Sx 67 (.pick (.t 64) (.t 66) (.c (.bool false))), Sm 42 67]))) (.cond (.t 42) (.seq (.ops [Sx 2 (.mov (Ci 2))]) .ret) .skip))))) (.seq (.ops [Sx 2 (.mov (Ci 1))]) .ret)))))), [.tmp 2]⟩
def C31 : IFn := ⟨125, (.seq (.ops [Sx 2 (.alloc [.int .i64 0, .string ⟨#[]⟩, .int .i64 0, .int .i64 0, .int .i64 0]), Sx 3 (.mov (Ci 0))]) (.seq (.ops [Sm 8 0, Sc 9 50 [.t 8]]) (.seq (.draw [Sm 10 0, Sn 11 10, Sf 12 1 11, Sl 13 12, Sm 14 0, Sn 15 14, Sf 16 1 15, Sl 17 16, Sx 18 (.build [.int .i64 0, .string ⟨#[]⟩, .int .i64 0, .int .i64 0, .int .i64 0] [(2, 1, .t 13), (3, 1, .t 17)]), Sx 4 (.alloc [.int .i64 0, .string ⟨#[]⟩, .int .i64 0, .int .i64 0, .int .i64 0]), Su (.store 5 (.t 4) (.t 18))] [[], [0], [1, 0], [2, 1, 0], [], [4], [5, 4], [6, 5, 4], [7, 6, 5, 4, 3, 2, 1, 0], [], [9, 8, 7, 6, 5, 4, 3, 2, 1, 0]]) (.seq (.ops [Sx 5 (.mov (Ci 0))]) (.seq (.seq (.ops [Sm 19 0, Sc 20 51 [.t 19, (Ci 0)]]) (.block 0 (.seq (.ops [Sb 33 .eql (.t 20) (Ci 2), Sm 32 33]) (.cond (.t 32) (.seq (.ops [Sm 34 0, Sc 35 52 [.t 34], Sm 5 35]) (.seq (.ops [Sf 36 0 4, Su (.store 1 (.t 36) (Ci 1))]) (.seq (.draw [Sm 37 0, Sn 38 37, Sf 39 0 38, Sl 40 39, Sm 41 0, Sn 42 41, Sf 43 1 42, Sl 44 43, Sm 45 0, Sn 46 45, Sf 47 1 46, Sl 48 47, Sm 49 5, Sb 50 .add (.t 48) (.t 49), Sx 51 (.sub .str (.t 40) (some (.t 44)) (some (.t 50)) none), Sc 52 53 [.t 51]] [[], [0], [1, 0], [2, 1, 0], [], [4], [5, 4], [6, 5, 4], [], [8], [9, 8], [10, 9, 8], [], [12, 11, 10, 9, 8], [13, 12, 11, 10, 9, 8, 7, 6, 5, 4, 3, 2, 1, 0], [14, 13, 12, 11, 10, 9, 8, 7, 6, 5, 4, 3, 2, 1, 0]]) (.cond (.t 52) (.ops [Sf 53 0 4, Su (.store 1 (.t 53) (Ci 2))]) .skip)))) (.seq (.ops [Sb 55 .eql (.t 20) (Ci 3), Sm 54 55]) (.cond (.t 54) (.seq (.ops [Sf 56 0 4, Su (.store 1 (.t 56) (Ci 4))]) (.ops [Sm 57 0, Sc 58 52 [.t 57], Sm 5 58])) (.seq (.ops [Sb 60 .eql (.t 20) (Ci 5), Sm 59 60]) (.cond (.t 59) (.seq (.ops [Sf 61 0 4, Su (.store 1 (.t 61) (Ci 4))]) (.draw [Sm 62 0, Sn 63 62, Sf 64 0 63, Sl 65 64, Sx 66 (.len .str (.t 65)), Sm 67 0, Sn 68 67, Sf 69 1 68, Sl 70 69, Sb 71 .sub (.t 66) (.t 70), Sx 72 (.minmax false (Ci 3) (.t 71)), Sm 5 72] [[], [0], [1, 0], [2, 1, 0], [3, 2, 1, 0], [], [5], [6, 5], [7, 6, 5], [8, 7, 6, 5, 4, 3, 2, 1, 0], [9, 8, 7, 6, 5, 4, 3, 2, 1, 0], [10, 9, 8, 7, 6, 5, 4, 3, 2, 1, 0]])) (.seq (.ops [Sb 74 .eql (.t 20) (Ci 4), Sm 73 74]) (.cond (.t 73) (.seq (.ops [Sf 75 0 4, Su (.store 1 (.t 75) (Ci 3))]) (.ops [Sm 76 0, Sc 77 54 [.t 76], Sm 5 77])) (.seq (.draw [Sm 21 0, Sn 22 21, Sf 23 1 22, Sl 24 23, Sm 25 0, Sn 26 25, Sf 27 0 26, Sl 28 27, Sx 29 (.len .str (.t 28)), Sb 30 .eql (.t 24) (.t 29)] [[], [0], [1, 0], [2, 1, 0], [], [4], [5, 4], [6, 5, 4], [7, 6, 5, 4], [8, 7, 6, 5, 4, 3, 2, 1, 0]]) (.cond (.t 30) (.seq (.ops [Sx 31 (.load (some 5) (.t 4)), Su (.store 5 (.t 2) (.t 31)), Sx 3 (.mov (Ci 0))]) .ret) .skip)))))))))))) (.seq (.draw [Sm 78 0, Sn 79 78, Sf 80 0 79, Sl 81 80, Sm 82 0, Sn 83 82, Sf 84 1 83, Sl 85 84, Sm 86 0, Sn 87 86, Sf 88 1 87, Sl 89 88, Sm 90 5, Sb 91 .add (.t 89) (.t 90), Sx 92 (.sub .str (.t 81) (some (.t 85)) (some (.t 91)) none), Sf 93 1 4, Su (.store 1 (.t 93) (.t 92))] [[], [0], [1, 0], [2, 1, 0], [], [4], [5, 4], [6, 5, 4], [], [8], [9, 8], [10, 9, 8], [], [12, 11, 10, 9, 8], [13, 12, 11, 10, 9, 8, 7, 6, 5, 4, 3, 2, 1, 0], [14, 13, 12, 11, 10, 9, 8, 7, 6, 5, 4, 3, 2, 1, 0], [14, 13, 12, 11, 10, 9, 8, 7, 6, 5, 4, 3, 2, 1, 0, 15]]) (.seq (.seq (.ops [Sf 94 0 4, Sl 95 94, Sb 96 .eql (.t 95) (Ci 4)]) (.cond (.t 96) (.seq (.ops [Sf 98 1 4, Sl 99 98, Sc 100 39 [.t 99], Sm 97 100, Se 101 97 0, Se 102 97 1, Sm 6 101, Sm 7 102]) (.seq (.seq (.ops [Sm 103 7, Sx 104 (.un .not (.t 103))]) (.cond (.t 104) (.seq (.ops [Sx 105 (.load (some 5) (.t 4)), Su (.store 5 (.t 2) (.t 105)), Sx 3 (.mov (Ci 41))]) .ret) .skip)) (.ops [Sm 106 6, Sf 107 4 4, Su (.store 1 (.t 107) (.t 106))]))) .skip)) (.seq (.seq (.ops [Sm 108 5, Sb 109 .eql (.t 108) (Ci 0)]) (.cond (.t 109) (.seq (.ops [Sx 110 (.load (some 5) (.t 4)), Su (.store 5 (.t 2) (.t 110)), Sx 3 (.mov (Ci 40))]) .ret) .skip)) (.seq (.ops [Sm 111 0, Sn 112 111, Sf 113 1 112, Sl 114 113, Sm 115 5, Sb 116 .add (.t 114) (.t 115), Sn 117 111, Sf 118 1 117, Su (.store 1 (.t 118) (.t 116))]) (.seq (.ops [Sm 119 0, Sn 120 119, Sf 121 1 120, Sl 122 121, Sf 123 3 4, Su (.store 1 (.t 123) (.t 122))]) (.seq (.ops [Sx 124 (.load (some 5) (.t 4)), Su (.store 5 (.t 2) (.t 124)), Sx 3 (.mov (Ci 0))]) .ret))))))))))), [.cell 2 (some 5), .tmp 3]⟩
def C16L0 : IC := (.block 1 (.seq (.ops [Sm 17 5, Sc 18 31 [.t 17], Sm 16 18, Se 19 16 0, Se 20 16 1, Sx 7 (.alloc [.int .i64 0, .string ⟨#[]⟩, .int .i64 0, .int .i64 0, .int .i64 0]), Su (.store 5 (.t 7) (.t 19)), Sm 8 20]) (.seq (.seq (.ops [Sm 21 8, Sb 22 .neq (.t 21) (Ci 0)]) (.cond (.t 22) (.seq (.draw [Sf 23 2 7, Sl 24 23, Sm 25 8, Sx 2 (.mov (.c (.slice none 0 0))), Sm 3 24, Sm 4 25] [[], [0], [], [], [3, 1, 0], [4, 3, 1, 0, 2]]) .ret) .skip)) (.seq (.ops [Sm 26 6, Sx 27 (.load (some 5) (.t 7)), Sx 28 (.lit 5 1 [.int .i64 0, .string ⟨#[]⟩, .int .i64 0, .int .i64 0, .int .i64 0] [(0, 5, .t 27)]), Sx 29 (.append 5 48 (.t 26) (.t 28)), Sm 6 29]) (.seq (.ops [Sf 30 0 7, Sl 31 30, Sb 32 .eql (.t 31) (Ci 0)]) (.cond (.t 32) (.seq (.ops [Sm 33 6, Sm 2 33, Sx 3 (.mov (Ci 0)), Sx 4 (.mov (Ci 0))]) .ret) .skip)))))) def C16 : IFn := ⟨34, (.seq (.ops [Sx 2 (.mov (.c (.slice none 0 0))), Sx 3 (.mov (Ci 0)), Sx 4 (.mov (Ci 0))]) (.seq (.seq (.ops [Sm 9 0, Sx 10 (.len .str (.t 9)), Sb 11 .gtr (.t 10) (Ci 200000)]) (.cond (.t 11) (.seq (.ops [Sx 2 (.mov (.c (.slice none 0 0))), Sx 3 (.mov (Ci 0)), Sx 4 (.mov (Ci 2))]) .ret) .skip)) (.seq (.ops [Sm 12 0, Sc 13 30 [], Sx 14 (.build [.string ⟨#[]⟩, .int .i64 0, .int .i64 0, .int .i64 0, .int .i64 0, .int .i64 0, .int .i64 0, .int .i64 0, .int .i64 0, .int .i64 0, .int .i64 0, .int .i64 0, .int .i64 0, .int .i64 0, .int .i64 0, .int .i64 0, .int .i64 0, .int .i64 0, .int .i64 0, .int .i64 0, .int .i64 0, .int .i64 0, .int .i64 0, .int .i64 0, .int .i64 0, .int .i64 0, .int .i64 0, .int .i64 0, .int .i64 0, .int .i64 0, .int .i64 0, .int .i64 0, .int .i64 0, .int .i64 0, .int .i64 0, .int .i64 0, .int .i64 0, .int .i64 0, .int .i64 0, .int .i64 0, .int .i64 0, .int .i64 0, .int .i64 0, .int .i64 0, .int .i64 0, .int .i64 0, .int .i64 0, .int .i64 0, .int .i64 0, .int .i64 0, .int .i64 0, .int .i64 0, .int .i64 0, .int .i64 0, .int .i64 0, .int .i64 0, .int .i64 0, .int .i64 0, .int .i64 0, .int .i64 0, .int .i64 0, .int .i64 0, .int .i64 0, .int .i64 0, .int .i64 0, .int .i64 0, .int .i64 0, .int .i64 0, .int .i64 0, .int .i64 0, .int .i64 0, .int .i64 0, .int .i64 0, .int .i64 0, .int .i64 0, .int .i64 0, .int .i64 0, .int .i64 0, .int .i64 0, .int .i64 0, .int .i64 0, .int .i64 0, .int .i64 0, .int .i64 0, .int .i64 0, .int .i64 0, .int .i64 0, .int .i64 0, .int .i64 0, .int .i64 0, .int .i64 0, .int .i64 0, .int .i64 0, .int .i64 0, .int .i64 0, .int .i64 0, .int .i64 0, .int .i64 0, .int .i64 0, .int .i64 0, .int .i64 0, .int .i64 0, .int .i64 0, .int .i64 0, .int .i64 0, .int .i64 0, .int .i64 0, .int .i64 0, .int .i64 0, .int .i64 0, .int .i64 0, .int .i64 0, .int .i64 0, .int .i64 0, .int .i64 0, .int .i64 0, .int .i64 0, .int .i64 0, .int .i64 0, .int .i64 0, .int .i64 0, .int .i64 0, .int .i64 0, .int .i64 0, .int .i64 0, .int .i64 0, .int .i64 0, .int .i64 0, .int .i64 0, .int .i64 0, .int .i64 0, .int .i64 0, .int .i64 0, .int .i64 0, .int .i64 0, .int .i64 0, .int .i64 0, .int .i64 0, .int .i64 0, .int .i64 0, .int .i64 0, .int .i64 0, .int .i64 0, .int .i64 0, .int .i64 0, .int .i64 0, .int .i64 0, .int .i64 0, .int .i64 0, .int .i64 0, .int .i64 0, .int .i64 0, .int .i64 0, .int .i64 0, .int .i64 0, .int .i64 0, .int .i64 0, .int .i64 0, .int .i64 0, .int .i64 0, .int .i64 0, .int .i64 0, .int .i64 0, .int .i64 0, .int .i64 0, .int .i64 0, .int .i64 0, .int .i64 0, .int .i64 0, .int .i64 0, .int .i64 0, .int .i64 0, .int .i64 0, .int .i64 0, .int .i64 0, .int .i64 0, .int .i64 0, .int .i64 0, .int .i64 0, .int .i64 0, .int .i64 0, .int .i64 0, .int .i64 0, .int .i64 0, .int .i64 0, .int .i64 0, .int .i64 0, .int .i64 0, .int .i64 0, .int .i64 0, .int .i64 0, .int .i64 0, .int .i64 0, .int .i64 0, .int .i64 0, .int .i64 0, .int .i64 0, .int .i64 0, .int .i64 0, .int .i64 0, .int .i64 0, .int .i64 0, .int .i64 0, .int .i64 0, .int .i64 0, .int .i64 0, .int .i64 0, .int .i64 0, .int .i64 0, .int .i64 0, .int .i64 0, .int .i64 0, .int .i64 0, .int .i64 0, .int .i64 0, .int .i64 0, .int .i64 0, .int .i64 0, .int .i64 0, .int .i64 0, .int .i64 0, .int .i64 0, .int .i64 0, .int .i64 0, .int .i64 0, .int .i64 0, .int .i64 0, .int .i64 0, .int .i64 0, .int .i64 0, .int .i64 0, .int .i64 0, .int .i64 0, .int .i64 0, .int .i64 0, .int .i64 0, .int .i64 0, .int .i64 0, .int .i64 0, .int .i64 0, .int .i64 0, .int .i64 0, .int .i64 0, .int .i64 0, .int .i64 0, .int .i64 0, .int .i64 0, .int .i64 0, .int .i64 0, .int .i64 0, .int .i64 0, .int .i64 0, .int .i64 0, .int .i64 0, .int .i64 0, .int .i64 0, .int .i64 0, .int .i64 0] [(0, 1, .t 12), (2, 256, .t 13)]), Sx 15 (.box (.t 14)), Sm 5 15]) (.seq (.ops [Sx 6 (.mov (.c (.slice none 0 0)))]) (.block 0 (.loop C16L0)))))), [.tmp 2, .tmp 3, .tmp 4]⟩
end Go.Idl
end
