/- Calls: what the ideal call comes to, the model's comes to. -/
import Derived.Test.YtfdpknfndjllgaaI7
namespace Go.Idl
set_option linter.unusedVariables false
set_option linter.unusedSimpArgs false

/-- A table that the program bears out. -/
structure TblOk (P : Program) (T : Tbl) : Prop where
  fn : ∀ f fn, T.fn f = some fn → ∃ F : Func, P.funcs[f]? = some F ∧ cfn P F = some fn
  prim : ∀ f p, T.prim f = some p → CalleeOk P f ∧ ∀ args v, p args = some v → (∀ ι rargs, RepL ι args rargs → rargs = args) ∧ (∀ ι, Rep ι v v) ∧
    ∀ w, Calls P f args.toArray w (fun e w' => e = .returned v ∧ Grew w w' ∧ w'.os = w.os ∧ w'.tape = w.tape ∧ w'.output = w.output)

variable {P : Program} {base : Nat} {w0 : World}

theorem cfn_spec {F : Func} {fn : IFn} (h : cfn P F = some fn) : ∃ c, F.body = some c ∧ cic P F.ntmps c = some fn.code ∧ crv P F.results.toList = some fn.res ∧ fn.nt = F.ntmps ∧ (F.name == "runtime.NumGoroutine") = false := by
  unfold cfn at h
  split at h
  · cases h
  · rename_i c hb
    split at h
    case h_2 => cases h
    rename_i ic r h1 h2
    split at h
    · cases h
    · rename_i hn
      cases h
      exact ⟨c, hb, h1, h2, rfl, by simpa using hn⟩

theorem enter_rep {ι : Inj} {args rargs : List Value} (h : RepL ι args rargs) (m : Nat) : ERep ι (args0 args) (rargs.toArray ++ Array.replicate m undef) := by
  intro j
  simp only [args0, List.getD_eq_getElem?_getD, Array.getD_eq_getD_getElem?, Array.getElem?_append, List.size_toArray, List.getElem?_toArray, Array.getElem?_replicate]
  by_cases hj : j < rargs.length
  · rw [if_pos hj]
    rw [List.getElem?_eq_getElem (show j < args.length by rw [h.1]; exact hj), List.getElem?_eq_getElem hj]
    exact h.2 j _ _ (List.getElem?_eq_getElem (by rw [h.1]; exact hj)) (List.getElem?_eq_getElem hj)
  · rw [if_neg hj, List.getElem?_eq_none (by rw [h.1]; omega)]
    split <;> exact rep_undef

theorem Ok.grew {ι : Inj} {h : Heap} {w w' : World} (hk : Ok P base w0 ι h w) (hg : Grew w w') : Ok P base w0 ι h w' :=
  ⟨hk.sim.grew hg, Nat.le_trans hk.size hg.1, fun k hk' => by rw [hg.2 k (Nat.lt_of_lt_of_le hk' hk.size)]; exact hk.old k hk'⟩

theorem idefer_sound {call : CallF} (hcall : CallOk P base w0 call) {T : Tbl} (hT : TblOk P T) {fn : Func} {tmps : Array Value} {R : Ending → World → Prop} {k n : Nat} :
    ∀ (ds : List Dfr) {ds' : List Deferred} {m : Option Value} {u : FrameMode} {h : Heap} {ι : Inj} {w : World}, Ok P base w0 ι h w → DL ι ds ds' → MRel ι m u → ∀ {m' : Option Value} {h' : Heap}, idefer call T n ds m h = some (m', h') →
      (∀ ι' w' u', Ok P base w0 ι' h' w' → Ext ι h w ι' h' w' → MRel ι' m' u' → LeavesIn Fence.wide k P fn tmps R [] u' w') → LeavesInM Fence.wide k P fn tmps R ds' u w
  | [], [], m, u, h, ι, w, hk, hD, hM, m', h', hi, hQ => by
    simp only [idefer, Option.some.injEq, Prod.mk.injEq] at hi
    obtain ⟨rfl, rfl⟩ := hi
    exact hQ ι w u hk (.refl _ _ _) hM
  | [], _ :: _, m, u, h, ι, w, hk, hD, hM, m', h', hi, hQ => hD.elim
  | .mark b :: ds, [], m, u, h, ι, w, hk, hD, hM, m', h', hi, hQ => hD.elim
  | .fn f args :: ds, [], m, u, h, ι, w, hk, hD, hM, m', h', hi, hQ => hD.elim
  | .mark b :: ds, d :: ds', m, u, h, ι, w, hk, hD, hM, m', h', hi, hQ => by
    have hrun : u ≠ .run := by
      cases m with
      | none => rw [show u = .returning from hM]; simp
      | some v => obtain ⟨c, rfl, _⟩ := hM; simp
    obtain ⟨⟨i, hι, ht⟩, hD'⟩ := hD
    simp only [idefer] at hi
    split at hi
    case h_2 => cases hi
    rename_i hb
    obtain ⟨o', ho', hr⟩ := hk.sim.blk b _ i hb hι
    have hobj : o' = .deferred (some []) := by
      unfold BRel at hr
      split at hr <;> simp_all
    subst hobj
    have hm : mine h b := by unfold mine; rw [hb]; trivial
    obtain ⟨hs2, he2⟩ := hk.sim.turn hι hm .dead (.deferred none) trivial (w' := w.putObj i.blk (.deferred none))
      (by simp [World.putObj, (Array.getElem?_eq_some_iff.1 ho').1]) (fun k hk => by simp [World.putObj, Array.getElem?_setIfInBounds, Ne.symm hk]) (by simp [World.putObj]) rfl rfl rfl
    refine ⟨hrun, .inl ⟨i.blk, _, ht, run_takeDeferred ho', ?_⟩⟩
    exact idefer_sound hcall hT ds (hk.ext hs2 he2) hD' hM hi fun ι' w' u' h1 h2 h3 => hQ ι' w' u' h1 (he2.trans h2) h3
  | .fn f args :: ds, d :: ds', m, u, h, ι, w, hk, hD, hM, m', h', hi, hQ => by
    have hrun : u ≠ .run := by
      cases m with
      | none => rw [show u = .returning from hM]; simp
      | some v => obtain ⟨c, rfl, _⟩ := hM; simp
    obtain ⟨⟨cap, ht, hargs⟩, hD'⟩ := hD
    simp only [idefer] at hi
    split at hi
    · cases hi
    rename_i fn2 hfn2
    obtain ⟨F2, hF2, hc2⟩ := hT.fn f fn2 hfn2
    obtain ⟨c, hb, h1, h2, h3, h4⟩ := cfn_spec hc2
    split at hi
    · cases hi
    rename_i hlen
    have hok : CalleeOk P f := ⟨F2, hF2, by rw [hb]; rfl, h4⟩
    refine ⟨hrun, .inr ⟨fun h => by simp [Fence.wide] at h, .func f, cap, f, d.args ++ cap, ht, by rw [ht]; exact hok.run _ _, fun g _ => trivial, ?_⟩⟩
    refine callsDIn_of_wpSIn hF2 hb trivial fun c₀ cs hmode => ?_
    have hc0 : c₀ = { c₀ with mode := u } := by cases c₀; simp only at hmode; subst hmode; rfl
    rw [hc0]
    have hal : args.length = (d.args ++ cap).size := by have := hargs.1; simpa using this
    have hE0 := enter_rep hargs (F2.ntmps - (d.args ++ cap).size)
    have hta : (d.args.toList ++ cap.toList).toArray = d.args ++ cap := by apply Array.toList_inj.1; simp
    rw [hta] at hE0
    have hsz0 : (d.args ++ cap ++ Array.replicate (F2.ntmps - (d.args ++ cap).size) undef).size = F2.ntmps := by
      simp only [Array.size_append, Array.size_replicate] at hal ⊢; omega
    -- behind the call
    have after : ∀ {x : Ex} {m1 : Option Value} {e1 : Env} {h1' : Heap}, (x = .normal ∨ x = .ret) → (match resAll e1 h1' fn2.res with | some _ => idefer call T n ds m1 h1' | none => none) = some (m', h') →
        ∀ e a' u' w', ExPostD P base w0 F2.ntmps ι h w x m1 ⟨e1, h1', some []⟩ e a' u' w' → bodyPostS P F2 c₀ cs (fun
          | .returned _, u', w' => LeavesInM Fence.wide k P fn tmps R ds' (settle u') w'
          | .panicked chain, u', w' => LeavesInM Fence.wide k P fn tmps R ds' (raised u' chain) w'
          | .outgrown, _, w' => R .outgrown w') e a' ({ c₀ with mode := u' } :: cs) w' := by
      intro x m1 e1 h1' hx hres e a' u' w' hp
      obtain ⟨ι1, k1, k2, k3, k4, k5, k6⟩ := hp
      split at hres
      case h_2 => cases hres
      rename_i vs hvs
      have hE1 : ERep ι1 e1 a'.tmps ∧ (e = .normal ∨ e = .ret) := by
        rcases hx with rfl | rfl
        · cases e <;> simp only [ExRel] at k5; exact ⟨k5, .inl rfl⟩
        · cases e <;> simp only [ExRel] at k5; exact ⟨k5, .inr rfl⟩
      obtain ⟨v', hv1, _⟩ := results_sound k1.sim h2 (fun r _ => rvGood_all hE1.1 r) hvs
      have hdn : a'.defers = [] := by
        cases hdd : a'.defers with
        | nil => rfl
        | cons => rw [hdd] at k4; exact k4.elim
      have hrest : LeavesInM Fence.wide k P fn tmps R ds' (settle u') w' :=
        idefer_sound hcall hT ds k1 (hD'.mono k2.inj) k6.settle hres fun ι' w2 u2 g1 g2 g3 => hQ ι' w2 u2 g1 (k2.trans g2) g3
      rcases hE1.2 with rfl | rfl
      · exact ⟨hdn, u', rfl, v', hv1, hrest⟩
      · exact ⟨hdn, u', rfl, v', hv1, hrest⟩
    have hdd0 : DRep ι (some []) ([] : List Deferred) := trivial
    split at hi
    · rename_i m1 e1 h1' hcd
      exact icodeD_sound hcall h1 (s := ⟨args0 args, h, some []⟩) (a := { tmps := d.args ++ cap ++ Array.replicate (F2.ntmps - (d.args ++ cap).size) undef, defers := [] }) rfl hk hsz0 hE0 hdd0 hM.toD hcd (after (.inl rfl) hi)
    · rename_i m1 e1 h1' hcd
      exact icodeD_sound hcall h1 (s := ⟨args0 args, h, some []⟩) (a := { tmps := d.args ++ cap ++ Array.replicate (F2.ntmps - (d.args ++ cap).size) undef, defers := [] }) rfl hk hsz0 hE0 hdd0 hM.toD hcd (after (.inr rfl) hi)
    · cases hi

theorem ileave_sound {call : CallF} (hcall : CallOk P base w0 call) {T : Tbl} (hT : TblOk P T) {F2 : Func} {fn : IFn} (hcr : crv P F2.results.toList = some fn.res) {n k : Nat} {m : Option Value} {s : St} {ι0 : Inj} {h0 : Heap} {wi : World} {out : Out} {h' : Heap}
    (hi : ileave call T n fn m s = some (out, h')) {ι : Inj} {a : Act} {w : World} (hk : Ok P base w0 ι s.h w) (he0 : Ext ι0 h0 wi ι s.h w) (hD : DRep ι s.d a.defers) {u : FrameMode} (hM : MRel ι m u) (hE : m = none → ERep ι s.e a.tmps) (hP : PERep ι s.e a.tmps) :
    LeavesInM Fence.wide k P F2 a.tmps (CallPost P base w0 ι0 h0 wi out h') a.defers u w := by
  unfold ileave at hi
  split at hi
  · cases hi
  rename_i ds hds
  rw [hds] at hD
  cases hid : idefer call T n ds m s.h with
  | none => rw [hid] at hi; cases hi
  | some q =>
    obtain ⟨m', h1⟩ := q
    rw [hid] at hi
    cases m' with
    | some v =>
      simp only [Option.some.injEq, Prod.mk.injEq] at hi
      obtain ⟨rfl, rfl⟩ := hi
      refine idefer_sound hcall hT ds hk hD hM hid fun ι' w' u' k1 k2 k3 => ?_
      obtain ⟨c, rfl, c1, c2, c3⟩ := k3
      exact ⟨ι', k1, he0.trans k2, c1, c2, c3⟩
    | none =>
      simp only at hi
      obtain ⟨vs, hvs, hp⟩ := opt_map hi
      cases hp
      refine idefer_sound hcall hT ds hk hD hM hid fun ι' w' u' k1 k2 k3 => ?_
      have : u' = .returning := k3
      subst this
      have hv : ∃ v', (results F2 a.tmps).run P w' = .ok v' w' ∧ Rep ι' (tup vs) v' := by
        cases m with
        | none => exact results_sound k1.sim hcr (fun r _ => rvGood_all ((hE rfl).mono k2.inj) r) hvs
        | some v =>
          have hP' : PERep ι' s.e a.tmps := fun j => (hP j).imp id fun h => h.mono k2.inj
          obtain ⟨g1, g2⟩ := resAllP_good hP' hvs
          exact results_sound k1.sim hcr g2 g1
      obtain ⟨v', hv1, hv2⟩ := hv
      exact ⟨v', hv1, ι', k1, he0.trans k2, hv2⟩

theorem setPs_rep {ι : Inj} : ∀ {ps : List Nat} {args rargs : List Value} {e : Env} {t : Array Value}, RepL ι args rargs → args.length = ps.length → (∀ p ∈ ps, p < t.size) → ERep ι e t →
    ERep ι (setPs e ps args) ((ps.zip rargs).foldl (fun t (p : Nat × Value) => t.setIfInBounds p.1 p.2) t) ∧ ((ps.zip rargs).foldl (fun t (p : Nat × Value) => t.setIfInBounds p.1 p.2) t).size = t.size
  | [], [], [], e, t, _, _, _, hE => ⟨hE, rfl⟩
  | p :: ps, v :: args, v' :: rargs, e, t, hR, hl, hp, hE => by
    obtain ⟨h1, h2⟩ := hR.head
    have := setPs_rep (ps := ps) (args := args) (rargs := rargs) (e := upd e p v) (t := t.setIfInBounds p v') h2 (by simpa using hl) (fun q hq => by simpa using hp q (by simp [hq])) (hE.put (hp p (by simp)) h1)
    simpa [setPs, List.zip_cons_cons] using this
  | [], v :: args, _, e, t, _, hl, _, _ => by simp at hl
  | p :: ps, [], _, e, t, _, hl, _, _ => by simp at hl
  | [], [], v :: rargs, e, t, hR, _, _, _ => by have := hR.1; simp at this
  | p :: ps, v :: args, [], e, t, hR, _, _, _ => by have := hR.1; simp at this

theorem icall_sound {T : Tbl} (hT : TblOk P T) : ∀ n, CallOk P base w0 (icall T n)
  | 0 => ⟨fun f args h out h' hi => (by cases hi), fun l args h out h' hi => (by cases hi)⟩
  | n + 1 => by
    have ih : CallOk P base w0 (icall T n) := icall_sound hT n
    refine ⟨fun f args h out h' hi => ?_, fun l args h out h' hi ι w rargs i hk hargs hι => ?_⟩
    · -- a function
      simp only [icall] at hi
      split at hi
      · rename_i fn hfn
        obtain ⟨F2, hF2, hc2⟩ := hT.fn f fn hfn
        obtain ⟨c, hb, h1, h2, h3, h4⟩ := cfn_spec hc2
        split at hi
        · cases hi
        rename_i hlen
        refine ⟨⟨F2, hF2, by rw [hb]; rfl, h4⟩, fun ι w rargs hk hargs => ?_⟩
        refine callsIn_wide.1 (callsIn_of_wp_marks (n := 0) hF2 hb trivial ?_)
        have hal := hargs.1
        have hE0 := enter_rep hargs (F2.ntmps - rargs.toArray.size)
        have hsz0 : (rargs.toArray ++ Array.replicate (F2.ntmps - rargs.toArray.size) undef).size = F2.ntmps := by simp; omega
        have hdd0 : DRep ι (some []) ([] : List Deferred) := trivial
        have hF : FOk Fence.wide (some ([] : List Dfr)) := .inl ⟨rfl, rfl⟩
        split at hi
        · rename_i s1 hcd
          refine icode_sound ih h1 (s := ⟨args0 args, h, some []⟩) hF hk hsz0 hE0 hdd0 hcd fun e a' w' hp => ?_
          obtain ⟨rfl, ι1, k1, k2, k3, k4, k5⟩ := hp.normal
          exact ileave_sound ih hT h2 hi k1 k2 k4 (m := none) rfl (fun _ => k5) k5.toP
        · rename_i s1 hcd
          refine icode_sound ih h1 (s := ⟨args0 args, h, some []⟩) hF hk hsz0 hE0 hdd0 hcd fun e a' w' hp => ?_
          obtain ⟨ι1, k1, k2, k3, k4, k5⟩ := hp
          cases e <;> simp only [ExRel] at k5
          exact ileave_sound ih hT h2 hi k1 k2 k4 (m := none) rfl (fun _ => k5) k5.toP
        · rename_i v s1 hcd
          refine icode_sound ih h1 (s := ⟨args0 args, h, some []⟩) hF hk hsz0 hE0 hdd0 hcd fun e a' w' hp => ?_
          obtain ⟨ι1, k1, k2, k3, k4, k5⟩ := hp
          cases e <;> simp only [ExRel] at k5
          rename_i chain
          rcases chain with _ | ⟨c1, _ | _⟩
          · exact k5.elim
          · exact ileave_sound ih hT h2 hi k1 k2 k4 (m := some v) ⟨c1, rfl, k5.1, k5.2.1, k5.2.2.1⟩ (fun h => by cases h) k5.2.2.2
          · exact k5.elim
        · cases hi
      · split at hi
        case h_2 => cases hi
        rename_i p hp
        obtain ⟨v, hv, hq⟩ := opt_map hi
        cases hq
        obtain ⟨hok, hpr⟩ := hT.prim f p hp
        obtain ⟨g1, g2, g3⟩ := hpr args v hv
        refine ⟨hok, fun ι w rargs hk hargs => ?_⟩
        rw [g1 ι rargs hargs]
        refine (g3 w).mono fun e w' hh => ?_
        obtain ⟨rfl, hg, e1, e2, e3⟩ := hh
        exact ⟨ι, hk.grew hg, ⟨.refl ι, ⟨e1, e2, e3, hg.1, fun k hk _ => hg.2 k hk⟩, fun r _ h => h, Nat.le_refl _, fun _ _ h => .inl h⟩, g2 ι⟩
    · -- a round
      simp only [icall] at hi
      split at hi
      case h_2 => cases hi
      rename_i L hL
      split at hi
      case isFalse => cases hi
      rename_i hlen
      obtain ⟨o', ho', hr⟩ := hk.sim.blk l _ i hL hι
      cases o' <;> simp only [BRel] at hr
      rename_i L'
      obtain ⟨b1, b2, b3, b4, b5, b6, b7, b8⟩ := hr
      have hpl : rargs.length = L'.params.size := by rw [← hargs.1, hlen, b5]; simp
      refine ⟨L', ho', hpl, fun m => ?_⟩
      obtain ⟨hE0, hsz0⟩ := setPs_rep hargs hlen b6 b4
      have hfold : ((L'.params.zip rargs.toArray).foldl (fun tmps (t, a) => tmps.setIfInBounds t a) L'.tmps) = ((L.ps.zip rargs).foldl (fun t (p : Nat × Value) => t.setIfInBounds p.1 p.2) L'.tmps) := by
        rw [b5, ← Array.foldl_toList]
        simp
      rw [hfold]
      refine roundIn_of_wpIn trivial ?_
      have hFr : FOk (Fence.wide.inRound i.blk) (none : Option (List Dfr)) := .inr ⟨i.blk, rfl, rfl⟩
      have hget : ∀ {ι1 : Inj} {h1 : Heap} {w1 : World} {L1 : LoopB}, Ok P base w0 ι1 h1 w1 → h1.get l = some (.loop L1) → ι1 l = some i → ∃ L2 : Go.Loop, w1.heap[i.blk]? = some (.loop L2) ∧ BRel (CRel P) base ι1 i (.loop L1) (.loop L2) ∧ (Instr.getLoop i.blk).run P w1 = .ok L2 w1 := by
        intro ι1 h1 w1 L1 hk1 hg1 hi1
        obtain ⟨o2, ho2, hr2⟩ := hk1.sim.blk l _ i hg1 hi1
        cases o2 with
        | loop L2 =>
          refine ⟨L2, ho2, hr2, ?_⟩
          have hg : (getObj i.blk).run P w1 = .ok (.loop L2) w1 := by simp [getObj, Sem.run, ho2]
          simp [Instr.getLoop, hg]
        | _ => simp only [BRel] at hr2
      cases hasg : icode (icall T n) n L.asg ⟨setPs L.e L.ps args, h, none⟩ with
      | none => rw [hasg] at hi; cases hi
      | some q =>
        obtain ⟨x1, s1⟩ := q
        rw [hasg] at hi
        refine icode_sound ih b7 (s := ⟨setPs L.e L.ps args, h, none⟩) (a := { tmps := _, defers := [] }) hFr hk hsz0 hE0 (rfl : DRep ι none []) hasg fun e a1 w1 hp => ?_
        cases x1 <;> first | (cases hi; done) | skip
        obtain ⟨rfl, ι1, k1, k2, k3, k4, k5⟩ := hp.normal
        simp only at hi
        split at hi
        case h_2 => cases hi
        rename_i L1 hL1
        split at hi
        case isFalse => cases hi
        rename_i hst
        obtain ⟨L2, hL2, hr2, hgl⟩ := hget k1 hL1 (k2.inj _ _ hι)
        simp only [BRel] at hr2
        obtain ⟨c1, c2, c3, c4, c5, c6, c7, c8⟩ := hr2
        have hst2 : L2.state = .ready := by
          cases hh : L2.state <;> rw [hst, hh] at c2 <;> first | rfl | exact c2.elim
        have hm1 : mine s1.h l := by unfold mine; rw [hL1]; trivial
        obtain ⟨w2, hrun2, hs2, he2⟩ := Sim.setObj (P := P) k1.sim (k2.inj _ _ hι) hm1 (.loop { L1 with st := .busy }) hL2 (fun c t f => by simp) (o' := .loop { L2 with state := .busy }) ⟨c1, trivial, c3, c4, c5, c6, c7, c8⟩
        refine ⟨w2, ?_, ?_⟩
        · simp [Instr.beginRound, hgl, hrun2, hst2]
        · have hk2 := k1.ext hs2 he2
          have hn1 : s1.d = none := by have := icode_d hasg; simpa using this
          cases hbody : icode (icall T n) n L.body { s1 with h := s1.h.set l (.loop { L1 with st := .busy }) } with
          | none => rw [hbody] at hi; cases hi
          | some q =>
            obtain ⟨x2, s2⟩ := q
            rw [hbody] at hi
            refine icode_sound ih b8 (s := { s1 with h := s1.h.set l (.loop { L1 with st := .busy }) }) (by rw [hn1]; exact hFr) hk2 (by rw [k3]) (k5.mono he2.inj) (k4.mono he2.inj) hbody fun e a2 w3 hp3 => ?_
            obtain ⟨ι3, j1, j2, j3, j4, j5⟩ := hp3
            have hι3 := j2.inj _ _ (he2.inj _ _ (k2.inj _ _ hι))
            have eAll := (k2.trans he2).trans j2
            -- the record at the round's end
            have fin : ∀ {L3 : LoopB} (st : LSt) (pd : Option Jmp) (st' : LoopState) (pd' : Option Code), s2.h.get l = some (.loop L3) → LRep st st' → PRep pd pd' → ∃ (L4 : Go.Loop) (w4 : World), (Instr.getLoop i.blk).run P w3 = .ok L4 w3 ∧
                (setObj i.blk (.loop { L4 with state := st', pending := pd' })).run P w3 = .ok () w4 ∧ ∀ out, (∃ bb, out = Out.ret (.bool bb)) → ∃ bb, out = Out.ret (.bool bb) ∧ CallPost P base w0 ι h w out (s2.h.set l (.loop { L3 with st := st, pend := pd })) (.returned (.bool bb)) w4 := by
              intro L3 st pd st' pd' hg3 hl hpp
              obtain ⟨L4, hL4, hr4, hgl4⟩ := hget j1 hg3 hι3
              simp only [BRel] at hr4
              obtain ⟨d1, d2, d3, d4, d5, d6, d7, d8⟩ := hr4
              have hm3 : mine s2.h l := by unfold mine; rw [hg3]; trivial
              obtain ⟨w4, hrun4, hs4, he4⟩ := Sim.setObj (P := P) j1.sim hι3 hm3 (.loop { L3 with st := st, pend := pd }) hL4 (fun c t f => by simp) (o' := .loop { L4 with state := st', pending := pd' }) ⟨d1, hl, hpp, d4, d5, d6, d7, d8⟩
              exact ⟨L4, w4, hgl4, hrun4, fun out ⟨bb, ho⟩ => ⟨bb, ho, ι3, j1.ext hs4 he4, eAll.trans he4, by rw [ho]; exact .bool bb⟩⟩
            cases x2 with
            | pan v => cases hi
            | normal =>
              simp only at hi
              split at hi
              case h_2 => cases hi
              rename_i L3 hL3
              cases hi
              cases e <;> simp only [ExRel] at j5
              obtain ⟨L4, w4, g1, g2, g3⟩ := fin .ready none .ready none hL3 trivial trivial
              obtain ⟨bb, hbb, hpost⟩ := g3 _ ⟨true, rfl⟩
              cases hbb
              refine ⟨.bool true, w4, ?_, hpost⟩
              simp [Instr.endRound, g1, g2]
            | ret =>
              simp only at hi
              split at hi
              case h_2 => cases hi
              rename_i L3 hL3
              cases hi
              cases e <;> simp only [ExRel] at j5
              obtain ⟨L4, w4, g1, g2, g3⟩ := fin .done (some .ret) .done (some .ret) hL3 trivial trivial
              obtain ⟨bb, hbb, hpost⟩ := g3 _ ⟨false, rfl⟩
              cases hbb
              refine ⟨.bool false, w4, ?_, hpost⟩
              simp [Instr.endRound, g1, g2]
            | brk id =>
              simp only at hi
              split at hi
              case h_2 => cases hi
              rename_i L3 hL3
              cases hi
              cases e <;> simp only [ExRel] at j5
              obtain ⟨rfl, j5⟩ := j5
              obtain ⟨L4, w4, g1, g2, g3⟩ := fin .done (some (.brk id)) .done (some (.exit id)) hL3 trivial rfl
              obtain ⟨bb, hbb, hpost⟩ := g3 _ ⟨false, rfl⟩
              cases hbb
              refine ⟨.bool false, w4, ?_, hpost⟩
              simp [Instr.endRound, g1, g2]

end Go.Idl
