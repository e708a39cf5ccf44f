/- Rules for proofs about ideal code. -/
import Derived.Test.YtfdpknfndjllgaaI9
namespace Go.Idl
set_option linter.unusedVariables false
set_option linter.unusedSimpArgs false

variable {T : Tbl}

def Wk (T : Tbl) (c : Cal) (args : List Value) (h : Heap) (K : Out → Heap → Prop) : Prop := ∃ n out h', icall T n c args h = some (out, h') ∧ K out h'
def Wc (T : Tbl) (c : IC) (s : St) (Q : Ex → St → Prop) : Prop := ∃ n x s', icode (icall T n) n c s = some (x, s') ∧ Q x s'
def Wo (T : Tbl) (l : List Step) (s : St) (Q : Option Value → St → Prop) : Prop := ∃ n r s', iops (icall T n) l s = some (r, s') ∧ Q r s'
def Wd (T : Tbl) (anc : List (List Nat)) (ds : List Nat) (l : List Step) (i : Nat) (rs : List (Nat × Loc)) (es : List (Nat × Heap × Heap)) (s : St) (Q : Option Value → St → Prop) : Prop :=
  ∃ n r s', idraw (icall T n) anc ds l i rs es s = some (r, s') ∧ Q r s'

theorem icode_le {n m : Nat} (h : n ≤ m) {c : IC} {s : St} {r : Ex × St} (hi : icode (icall T n) n c s = some r) : icode (icall T m) m c s = some r := icode_mono (icall_mono T h) h hi
theorem iops_le {n m : Nat} (h : n ≤ m) {l : List Step} {s : St} {r : Option Value × St} (hi : iops (icall T n) l s = some r) : iops (icall T m) l s = some r := iops_mono (icall_mono T h) hi

theorem Wk.mono {c : Cal} {args : List Value} {h : Heap} {K K' : Out → Heap → Prop} (hk : Wk T c args h K) (h' : ∀ o h, K o h → K' o h) : Wk T c args h K' :=
  let ⟨n, out, h1, a, b⟩ := hk
  ⟨n, out, h1, a, h' _ _ b⟩
theorem Wc.mono {c : IC} {s : St} {Q Q' : Ex → St → Prop} (hk : Wc T c s Q) (h' : ∀ x s, Q x s → Q' x s) : Wc T c s Q' :=
  let ⟨n, x, s1, a, b⟩ := hk
  ⟨n, x, s1, a, h' _ _ b⟩
theorem Wo.mono {l : List Step} {s : St} {Q Q' : Option Value → St → Prop} (hk : Wo T l s Q) (h' : ∀ x s, Q x s → Q' x s) : Wo T l s Q' :=
  let ⟨n, x, s1, a, b⟩ := hk
  ⟨n, x, s1, a, h' _ _ b⟩

/-- What comes next, where code goes on. -/
def Tn (T : Tbl) (b : IC) (Q : Ex → St → Prop) : Ex → St → Prop
  | .normal, s => Wc T b s Q
  | x, s => Q x s
def Tb (id : Nat) (Q : Ex → St → Prop) : Ex → St → Prop
  | .brk i, s => if i = id then Q .normal s else Q (.brk i) s
  | x, s => Q x s
def To (Q : Ex → St → Prop) : Option Value → St → Prop
  | none, s => Q .normal s
  | some v, s => Q (.pan v) s

theorem Wc_skip {s : St} {Q : Ex → St → Prop} (h : Q .normal s) : Wc T .skip s Q := ⟨0, _, _, rfl, h⟩
theorem Wc_exit {id : Nat} {s : St} {Q : Ex → St → Prop} (h : Q (.brk id) s) : Wc T (.exit id) s Q := ⟨0, _, _, rfl, h⟩
theorem Wc_ret {s : St} {Q : Ex → St → Prop} (h : Q .ret s) : Wc T .ret s Q := ⟨0, _, _, rfl, h⟩
theorem Wc_ops {l : List Step} {s : St} {Q : Ex → St → Prop} (h : Wo T l s (To Q)) : Wc T (.ops l) s Q := by
  obtain ⟨n, r, s', h1, h2⟩ := h
  cases r with
  | none => exact ⟨n, .normal, s', by simp only [icode, h1, exOf], h2⟩
  | some v => exact ⟨n, .pan v, s', by simp only [icode, h1, exOf], h2⟩
theorem Wc_seq {a b : IC} {s : St} {Q : Ex → St → Prop} (h : Wc T a s (Tn T b Q)) : Wc T (.seq a b) s Q := by
  obtain ⟨n, x, s1, h1, h2⟩ := h
  by_cases hx : x = .normal
  · subst hx
    obtain ⟨m, y, s2, h3, h4⟩ := h2
    refine ⟨max n m, y, s2, ?_, h4⟩
    simp only [icode, icode_le (Nat.le_max_left n m) h1, icode_le (Nat.le_max_right n m) h3]
  · refine ⟨n, x, s1, ?_, ?_⟩
    · simp only [icode, h1]
      cases x <;> first | exact (hx rfl).elim | rfl
    · cases x <;> first | exact (hx rfl).elim | exact h2
theorem Wc_cond {c : Opd} {a b : IC} {s : St} {Q : Ex → St → Prop} (p : Bool) (hc : ev s.e c = .bool p) (ht : p = true → Wc T a s Q) (hf : p = false → Wc T b s Q) : Wc T (.cond c a b) s Q := by
  cases p with
  | true => obtain ⟨n, x, s1, h1, h2⟩ := ht rfl; exact ⟨n, x, s1, by simp only [icode, hc, h1], h2⟩
  | false => obtain ⟨n, x, s1, h1, h2⟩ := hf rfl; exact ⟨n, x, s1, by simp only [icode, hc, h1], h2⟩
theorem Wc_block {id : Nat} {b : IC} {s : St} {Q : Ex → St → Prop} (h : Wc T b s (Tb id Q)) : Wc T (.block id b) s Q := by
  obtain ⟨n, x, s1, h1, h2⟩ := h
  cases x with
  | brk i =>
    simp only [Tb] at h2
    split at h2
    · rename_i e; exact ⟨n, .normal, s1, by simp only [icode, h1, e, if_true], h2⟩
    · rename_i e; exact ⟨n, .brk i, s1, by simp only [icode, h1, e, if_false], h2⟩
  | _ => exact ⟨n, _, s1, by simp only [icode, h1], h2⟩
/-- A loop: what holds at its head, and what grows less. -/
theorem Wc_loop {b : IC} {s : St} {Q : Ex → St → Prop} (I : St → Prop) (μ : St → Nat) (h0 : I s) (hr : ∀ s, I s → Wc T b s (fun x s' => match x with | .normal => I s' ∧ μ s' < μ s | x => Q x s')) : Wc T (.loop b) s Q := by
  have key : ∀ k s, μ s < k → I s → ∃ n x s', loopCode (fun _ s => icode (icall T n) n b s) b n s = some (x, s') ∧ Q x s' := by
    intro k
    induction k with
    | zero => intro s h; omega
    | succ k ih =>
      intro s hk hI
      obtain ⟨n, x, s1, h1, h2⟩ := hr s hI
      by_cases hx : x = .normal
      · subst hx
        obtain ⟨m, y, s2, h3, h4⟩ := ih s1 (by have := h2.2; omega) h2.1
        refine ⟨max n m + 1, y, s2, ?_, h4⟩
        simp only [loopCode, icode_le (show n ≤ max n m + 1 by omega) h1]
        exact loopCode_mono (f := fun _ s => icode (icall T m) m b s) (g := fun _ s => icode (icall T (max n m + 1)) (max n m + 1) b s) (fun s r h => icode_le (show m ≤ max n m + 1 by omega) h) (show m ≤ max n m by omega) h3
      · refine ⟨n + 1, x, s1, ?_, ?_⟩
        · simp only [loopCode, icode_le (Nat.le_succ n) h1]
          cases x <;> first | exact (hx rfl).elim | rfl
        · cases x <;> first | exact (hx rfl).elim | exact h2
  obtain ⟨n, x, s', h1, h2⟩ := key _ s (Nat.lt_succ_self _) h0
  exact ⟨n, x, s', by simp only [icode]; exact h1, h2⟩

theorem Wo_nil {s : St} {Q : Option Value → St → Prop} (h : Q none s) : Wo T [] s Q := ⟨0, none, s, rfl, h⟩
theorem Wo_op {dst : Option Nat} {o : IOp} {l : List Step} {e : Env} {hp : Heap} {d : Option (List Dfr)} {v : Value} {h' : Heap} {Q : Option Value → St → Prop} (hi : iop o e hp = some (v, h')) (k : Wo T l ⟨dstUpd e dst v, h', d⟩ Q) : Wo T (⟨dst, .op o, none⟩ :: l) ⟨e, hp, d⟩ Q := by
  obtain ⟨n, r, s', h1, h2⟩ := k
  exact ⟨n, r, s', by simp only [iops, wantedE, istm, hi, if_true]; exact h1, h2⟩
/-- A guarded operation. -/
theorem Wo_grd {dst : Option Nat} {o : IOp} {l : List Step} {e : Env} {hp : Heap} {d : Option (List Dfr)} {j : Nat} {w : Bool} {Q : Option Value → St → Prop} (p : Bool) (hg : e j = .bool p) (ht : p = w → Wo T (⟨dst, .op o, none⟩ :: l) ⟨e, hp, d⟩ Q)
    (hf : p = !w → Wo T l ⟨dstUpd e dst undef, hp, d⟩ Q) : Wo T (⟨dst, .op o, some (j, w)⟩ :: l) ⟨e, hp, d⟩ Q := by
  by_cases hpw : p = w
  · obtain ⟨n, r, s', h1, h2⟩ := ht hpw
    refine ⟨n, r, s', ?_, h2⟩
    have : wantedE e (some (j, w)) = true := by simp [wantedE, hg, hpw]
    simp only [iops, this, if_true]
    simpa only [iops, wantedE, if_true] using h1
  · obtain ⟨n, r, s', h1, h2⟩ := hf (by cases p <;> cases w <;> simp_all)
    refine ⟨n, r, s', ?_, h2⟩
    have : wantedE e (some (j, w)) = false := by simp [wantedE, hg, hpw]
    simp only [iops, this, Bool.false_eq_true, if_false]
    exact h1
theorem Wo_grdS {dst : Option Nat} {m : Stm} {l : List Step} {e : Env} {hp : Heap} {d : Option (List Dfr)} {j : Nat} {w : Bool} {Q : Option Value → St → Prop} (p : Bool) (hg : e j = .bool p) (ht : p = w → Wo T (⟨dst, m, none⟩ :: l) ⟨e, hp, d⟩ Q)
    (hf : p = !w → Wo T l ⟨dstUpd e dst undef, hp, d⟩ Q) : Wo T (⟨dst, m, some (j, w)⟩ :: l) ⟨e, hp, d⟩ Q := by
  by_cases hpw : p = w
  · obtain ⟨n, r, s', h1, h2⟩ := ht hpw
    refine ⟨n, r, s', ?_, h2⟩
    have : wantedE e (some (j, w)) = true := by simp [wantedE, hg, hpw]
    simp only [iops, this, if_true]
    simpa only [iops, wantedE, if_true] using h1
  · obtain ⟨n, r, s', h1, h2⟩ := hf (by cases p <;> cases w <;> simp_all)
    refine ⟨n, r, s', ?_, h2⟩
    have : wantedE e (some (j, w)) = false := by simp [wantedE, hg, hpw]
    simp only [iops, this, Bool.false_eq_true, if_false]
    exact h1
theorem Wo_callC {c : Cal} {args : List Value} {dst : Option Nat} {m : Stm} {l : List Step} {e : Env} {hp : Heap} {d : Option (List Dfr)} {Q : Option Value → St → Prop}
    (hm : ∀ call : CallF, istm call dst m ⟨e, hp, d⟩ = afterCall dst ⟨e, hp, d⟩ (call c args hp))
    (h : Wk T c args hp (fun out h' => match out with | .ret v => Wo T l ⟨dstUpd e dst v, h', d⟩ Q | .pan v => Q (some v) ⟨e, h', d⟩)) : Wo T (⟨dst, m, none⟩ :: l) ⟨e, hp, d⟩ Q := by
  obtain ⟨n, out, h', h1, h2⟩ := h
  cases out with
  | ret v =>
    obtain ⟨k, r, s', h3, h4⟩ := h2
    refine ⟨max n k, r, s', ?_, h4⟩
    simp only [iops, wantedE, if_true, hm, icall_mono T (Nat.le_max_left n k) _ _ _ _ h1, afterCall]
    exact iops_le (Nat.le_max_right n k) h3
  | pan v =>
    refine ⟨n, some v, _, ?_, h2⟩
    simp only [iops, wantedE, if_true, hm, h1, afterCall]
theorem Wo_call {f : FuncId} {args : List Opd} {dst : Option Nat} {l : List Step} {e : Env} {hp : Heap} {d : Option (List Dfr)} {Q : Option Value → St → Prop}
    (h : Wk T (.fn f) (args.map (ev e)) hp (fun out h' => match out with | .ret v => Wo T l ⟨dstUpd e dst v, h', d⟩ Q | .pan v => Q (some v) ⟨e, h', d⟩)) : Wo T (⟨dst, .call f args, none⟩ :: l) ⟨e, hp, d⟩ Q :=
  Wo_callC (fun _ => rfl) h
theorem Wo_callv {x : Opd} {args : List Opd} {c : Cal} {vs : List Value} {dst : Option Nat} {l : List Step} {e : Env} {hp : Heap} {d : Option (List Dfr)} {Q : Option Value → St → Prop} (ht : target (ev e x) (args.map (ev e)) = some (c, vs))
    (h : Wk T c vs hp (fun out h' => match out with | .ret v => Wo T l ⟨dstUpd e dst v, h', d⟩ Q | .pan v => Q (some v) ⟨e, h', d⟩)) : Wo T (⟨dst, .callv x args, none⟩ :: l) ⟨e, hp, d⟩ Q :=
  Wo_callC (fun _ => by simp only [istm, ht]) h
theorem Wo_panic {x : Opd} {dst : Option Nat} {l : List Step} {e : Env} {hp : Heap} {d : Option (List Dfr)} {t : TypeId} {v : Value} {Q : Option Value → St → Prop} (hx : ev e x = .iface t v) (h : Q (some (.iface t v)) ⟨e, hp, d⟩) : Wo T (⟨dst, .panic x, none⟩ :: l) ⟨e, hp, d⟩ Q :=
  ⟨0, _, _, by simp only [iops, wantedE, if_true, istm, hx], h⟩

/-- A region whose order is open, without effects. -/
def calm : List Step → Bool
  | [] => true
  | x :: l => (kdStm x.stm != .E) && calm l

theorem idraw_calm {call : CallF} {anc : List (List Nat)} {ds : List Nat} : ∀ {l : List Step} {i : Nat} {rs : List (Nat × Loc)} {s s' : St}, calm l = true → iops call l s = some (none, s') → idraw call anc ds l i rs [] s = some (none, s')
  | [], i, rs, s, s', _, h => h
  | x :: l, i, rs, s, s', hc, h => by
    simp only [calm, Bool.and_eq_true, bne_iff_ne, ne_eq] at hc
    simp only [iops] at h
    simp only [idraw]
    by_cases hw : wantedE s.e x.grd = true
    · rw [if_pos hw] at h ⊢
      cases hm : istm call x.dst x.stm s with
      | none => rw [hm] at h; cases h
      | some q =>
        obtain ⟨r, s1⟩ := q
        rw [hm] at h
        cases r with
        | some v => simp only [Option.some.injEq, Prod.mk.injEq, reduceCtorEq, false_and] at h
        | none =>
          simp only at h ⊢
          cases hk : kdStm x.stm with
          | P => exact idraw_calm hc.2 h
          | R => simp only [List.not_mem_nil, false_implies, implies_true, if_true]; exact idraw_calm hc.2 h
          | A => exact idraw_calm hc.2 h
          | E => exact (hc.1 hk).elim
    · rw [if_neg hw] at h ⊢
      exact idraw_calm hc.2 h

theorem Wc_draw_calm {l : List Step} {anc : List (List Nat)} {s : St} {Q : Ex → St → Prop} (hc : calm l = true) (h : Wo T l s (fun r s' => r = none ∧ Q .normal s')) : Wc T (.draw l anc) s Q := by
  obtain ⟨n, r, s', h1, rfl, h2⟩ := h
  exact ⟨n, .normal, s', by simp only [icode, idraw_calm hc h1, exOf], h2⟩

/-- A region whose effects all come in the order of the text with what they could meet. -/
def still (anc : List (List Nat)) : List Step → Nat → List Nat → List Nat → Bool
  | [], _, _, _ => true
  | x :: l, i, ras, es => match kdStm x.stm with
    | .P => still anc l (i + 1) ras es
    | .R => (es.all fun k => (anc.getD i []).contains k) && still anc l (i + 1) (i :: ras) es
    | .A => still anc l (i + 1) (i :: ras) es
    | .E => (ras.all fun k => (anc.getD i []).contains k) && still anc l (i + 1) ras (i :: es)

theorem still_mono {anc : List (List Nat)} : ∀ {l : List Step} {i : Nat} {ras ras' es es' : List Nat}, still anc l i ras es = true → (∀ k ∈ ras', k ∈ ras) → (∀ k ∈ es', k ∈ es) → still anc l i ras' es' = true
  | [], _, _, _, _, _, _, _, _ => rfl
  | x :: l, i, ras, ras', es, es', h, h1, h2 => by
    simp only [still] at h ⊢
    cases hk : kdStm x.stm <;> rw [hk] at h <;> simp only [Bool.and_eq_true] at h ⊢
    · exact still_mono h h1 h2
    · exact ⟨List.all_eq_true.2 fun k hk => List.all_eq_true.1 h.1 k (h2 k hk), still_mono h.2 (fun k hk => by rcases List.mem_cons.1 hk with rfl | hk; exact List.mem_cons_self ..; exact List.mem_cons_of_mem _ (h1 k hk)) h2⟩
    · exact still_mono h (fun k hk => by rcases List.mem_cons.1 hk with rfl | hk; exact List.mem_cons_self ..; exact List.mem_cons_of_mem _ (h1 k hk)) h2
    · exact ⟨List.all_eq_true.2 fun k hk => List.all_eq_true.1 h.1 k (h1 k hk), still_mono h.2 h1 (fun k hk => by rcases List.mem_cons.1 hk with rfl | hk; exact List.mem_cons_self ..; exact List.mem_cons_of_mem _ (h2 k hk))⟩

theorem idraw_still {call : CallF} {anc : List (List Nat)} {ds : List Nat} : ∀ {l : List Step} {i : Nat} {ras es0 : List Nat} {rs : List (Nat × Loc)} {es : List (Nat × Heap × Heap)} {s s' : St}, still anc l i ras es0 = true → (∀ p ∈ rs, p.1 ∈ ras) → (∀ p ∈ es, p.1 ∈ es0) →
    iops call l s = some (none, s') → idraw call anc ds l i rs es s = some (none, s')
  | [], i, ras, es0, rs, es, s, s', _, _, _, h => h
  | x :: l, i, ras, es0, rs, es, s, s', hc, hrs, hes, h => by
    simp only [iops] at h
    simp only [idraw]
    simp only [still] at hc
    by_cases hw : wantedE s.e x.grd = true
    · rw [if_pos hw] at h ⊢
      cases hm : istm call x.dst x.stm s with
      | none => rw [hm] at h; cases h
      | some q =>
        obtain ⟨r, s1⟩ := q
        rw [hm] at h
        cases r with
        | some v => simp only [Option.some.injEq, Prod.mk.injEq, reduceCtorEq, false_and] at h
        | none =>
          simp only at h ⊢
          cases hk : kdStm x.stm with
          | P => rw [hk] at hc; exact idraw_still hc hrs hes h
          | R =>
            rw [hk] at hc
            simp only [Bool.and_eq_true] at hc
            simp only
            rw [if_pos (fun p hp => .inl (by simpa using List.all_eq_true.1 hc.1 p.1 (hes p hp)))]
            exact idraw_still hc.2 (fun p hp => by rcases List.mem_cons.1 hp with rfl | hp; exact List.mem_cons_self ..; exact List.mem_cons_of_mem _ (hrs p hp)) hes h
          | A =>
            rw [hk] at hc
            exact idraw_still hc (fun p hp => by rcases List.mem_cons.1 hp with rfl | hp; exact List.mem_cons_self ..; exact List.mem_cons_of_mem _ (hrs p hp)) hes h
          | E =>
            rw [hk] at hc
            simp only [Bool.and_eq_true] at hc
            simp only
            rw [if_pos (fun p hp => .inl (by simpa using List.all_eq_true.1 hc.1 p.1 (hrs p hp)))]
            exact idraw_still hc.2 hrs (fun p hp => by rcases List.mem_cons.1 hp with rfl | hp; exact List.mem_cons_self ..; exact List.mem_cons_of_mem _ (hes p hp)) h
    · rw [if_neg hw] at h ⊢
      refine idraw_still (ras := ras) (es0 := es0) ?_ hrs hes h
      cases hk : kdStm x.stm <;> rw [hk] at hc <;> simp only [Bool.and_eq_true] at hc
      · exact hc
      · exact still_mono hc.2 (fun k hk => List.mem_cons_of_mem _ hk) (fun k hk => hk)
      · exact still_mono hc (fun k hk => List.mem_cons_of_mem _ hk) (fun k hk => hk)
      · exact still_mono hc.2 (fun k hk => hk) (fun k hk => List.mem_cons_of_mem _ hk)

theorem Wc_draw_still {l : List Step} {anc : List (List Nat)} {s : St} {Q : Ex → St → Prop} (hc : still anc l 0 [] [] = true) (h : Wo T l s (fun r s' => r = none ∧ Q .normal s')) : Wc T (.draw l anc) s Q := by
  obtain ⟨n, r, s', h1, rfl, h2⟩ := h
  have hd := idraw_still (ds := l.filterMap (·.dst)) (rs := []) (es := []) hc (fun p hp => by simp at hp) (fun p hp => by simp at hp) h1
  exact ⟨n, .normal, s', by simp only [icode, hd, exOf], h2⟩

/-- A function that defers nothing. -/
theorem Wk_fn {f : FuncId} {fn : IFn} {args : List Value} {h : Heap} {K : Out → Heap → Prop} (hf : T.fn f = some fn) (hl : args.length ≤ fn.nt)
    (hb : Wc T fn.code ⟨args0 args, h, some []⟩ (fun x s => (x = .normal ∨ x = .ret) ∧ s.d = some [] ∧ ∃ vs, resAll s.e s.h fn.res = some vs ∧ K (.ret (tup vs)) s.h)) : Wk T (.fn f) args h K := by
  obtain ⟨n, x, s, h1, hx, hd, vs, hv, hK⟩ := hb
  refine ⟨n + 1, .ret (tup vs), s.h, ?_, hK⟩
  have hlv : ileave (icall T n) T n fn none s = some (.ret (tup vs), s.h) := by
    unfold ileave
    rw [hd]
    simp only [idefer, hv, Option.map_some]
  rcases hx with rfl | rfl
  · simp only [icall, hf, if_neg (Nat.not_lt.2 hl), h1, hlv]
  · simp only [icall, hf, if_neg (Nat.not_lt.2 hl), h1, hlv]
theorem Wk_prim {f : FuncId} {p : List Value → Option Value} {args : List Value} {v : Value} {h : Heap} {K : Out → Heap → Prop} (hf : T.fn f = none) (hp : T.prim f = some p) (hv : p args = some v) (hK : K (.ret v) h) : Wk T (.fn f) args h K :=
  ⟨1, .ret v, h, by simp only [icall, hf, hp, hv, Option.map_some], hK⟩

/-- What was there stays. -/
structure Kept (h h' : Heap) : Prop where
  next : h.next ≤ h'.next
  get : ∀ b, b < h.next → h'.get b = h.get b
theorem Kept.refl (h : Heap) : Kept h h := ⟨Nat.le_refl _, fun _ _ => rfl⟩
theorem Kept.trans {a b c : Heap} (x : Kept a b) (y : Kept b c) : Kept a c := ⟨Nat.le_trans x.next y.next, fun k hk => (y.get k (Nat.lt_of_lt_of_le hk x.next)).trans (x.get k hk)⟩
theorem Kept.new {a b : Heap} (x : Kept a b) (o : Blk) : Kept a (b.new o) := ⟨Nat.le_succ_of_le x.next, fun k hk => by
  have := x.next
  simp only [Heap.new]
  rw [if_neg (by omega)]; exact x.get k hk⟩
theorem Kept.set {a b : Heap} (x : Kept a b) {i : Nat} (hi : a.next ≤ i) (o : Blk) : Kept a (b.set i o) := ⟨x.next, fun k hk => by
  simp only [Heap.set]
  rw [if_neg (by omega)]; exact x.get k hk⟩

/-! ### Running a row of operations by simp: 'iops_nil, iops_op, iops_grd, iK, iG, gval, iop ..' -/

def iK (call : CallF) (dst : Option Nat) (l : List Step) (e : Env) (d : Option (List Dfr)) : Option (Value × Heap) → Option (Option Value × St)
  | some (v, h) => iops call l ⟨dstUpd e dst v, h, d⟩
  | none => none
theorem iK_some (call : CallF) (dst : Option Nat) (l : List Step) (e : Env) (d : Option (List Dfr)) (v : Value) (h : Heap) : iK call dst l e d (some (v, h)) = iops call l ⟨dstUpd e dst v, h, d⟩ := rfl
def iG (call : CallF) (dst : Option Nat) (m : Stm) (l : List Step) (s : St) : Bool → Option (Option Value × St)
  | true => iops call (⟨dst, m, none⟩ :: l) s
  | false => iops call l { s with e := dstUpd s.e dst undef }
theorem iG_true (call : CallF) (dst : Option Nat) (m : Stm) (l : List Step) (s : St) : iG call dst m l s true = iops call (⟨dst, m, none⟩ :: l) s := rfl
theorem iG_false (call : CallF) (dst : Option Nat) (m : Stm) (l : List Step) (e : Env) (h : Heap) (d : Option (List Dfr)) : iG call dst m l ⟨e, h, d⟩ false = iops call l ⟨dstUpd e dst undef, h, d⟩ := rfl
def gval : Value → Bool → Bool
  | .bool c, w => c == w
  | _, _ => false
theorem gval_bool (c w : Bool) : gval (.bool c) w = (c == w) := rfl
theorem iops_nil (call : CallF) (s : St) : iops call [] s = some (none, s) := rfl
theorem iops_op (call : CallF) (dst : Option Nat) (o : IOp) (l : List Step) (e : Env) (h : Heap) (d : Option (List Dfr)) : iops call (⟨dst, .op o, none⟩ :: l) ⟨e, h, d⟩ = iK call dst l e d (iop o e h) := by
  simp only [iops, wantedE, if_true, istm]
  cases iop o e h <;> rfl
theorem iops_grd (call : CallF) (dst : Option Nat) (m : Stm) (j : Nat) (w : Bool) (l : List Step) (e : Env) (h : Heap) (d : Option (List Dfr)) : iops call (⟨dst, m, some (j, w)⟩ :: l) ⟨e, h, d⟩ = iG call dst m l ⟨e, h, d⟩ (gval (e j) w) := by
  have hg : wantedE e (some (j, w)) = gval (e j) w := by
    simp only [wantedE]
    cases e j <;> rfl
  simp only [iops, hg]
  cases gval (e j) w with
  | true => simp only [if_true, iG, iops, wantedE]
  | false => simp only [Bool.false_eq_true, if_false, iG]

end Go.Idl
