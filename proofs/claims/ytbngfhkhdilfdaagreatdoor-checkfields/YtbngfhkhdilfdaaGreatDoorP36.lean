/- Texts of the proof. -/
import Derived.Test.YtbngfhkhdilfdaaGreatDoorP12
import Derived.KernelRfl
import Derived.Test.YtbngfhkhdilfdaaGreatDoorO7
import Derived.Test.YtbngfhkhdilfdaaGreatDoorFlex
import Derived.Lib.ItoaNum
set_option linter.unusedVariables false
set_option linter.unusedSimpArgs false
set_option maxRecDepth 100000
section
namespace Go.Idl
variable {T : Tbl} {X : Nat → Prop}
theorem back_step (F : Par1 T) (hT : T.fn 65 = some C65) {num : Int → ByteArray} {pb : Nat} {ts : List Tok} {f : Nat} (hfirst : OneOk T pb ts 75 (firstS num ts f)) (hexpr : ∀ g, g ≤ f → OneOk T pb ts 66 (exprS num ts g)) : OneOk T pb ts 65 (backS num ts (f + 1)) := by
 intro X st h r p hX hs
 rw [backS] at hs
 have hfew := p.few
 refine Wk_fn2 hT (by simp [C65]) ?_
 simp only [C65]
 refine Wc_seq (Wc_ops (Wo_run (fun _ => by simp only [go_sem, seval]; rfl) ?_))
 show Wc T _ _ _
 refine Wc_seq (Wc_ops (Wo_pre 1 (fun _ => by simp only [go_sem, seval]; rfl) ?_))
 rcases andS_some hs with ⟨a, er, h1', rfl⟩ | ⟨e, st2, h1', hs⟩
 ·refine Wo_call ((hfirst X st h _ p hX h1').mono ?_)
  rintro o h2 ⟨f2, rfl⟩
  exact ⟨rfl, f2, rfl⟩
 refine Wo_call ((hfirst X st h _ p hX h1').mono ?_)
 rintro o h2 ⟨f2, rfl, p2⟩
 show Wo T _ _ _
 refine (Wo_run (fun _ => by simp only [go_sem, seval]; rfl) ?_)
 show Wc T _ _ _
 have loop : ∀ (g : Nat), g ≤ f → ∀ (ev' : Env) (h5 : Heap) (e : Nat) (st2 : PSt), backL num ts g e st2 = some r → ev' 0 = .pointer (some ⟨pb, 0, none⟩) → ev' 3 = .int .i64 ((e : Nat) : Int) → PFr pb h h5 → Par pb ts X h5 st2 →
  Wc T (.loop C65L0) ⟨ev', h5, some []⟩ (fun x s' => match x with
   | .ret => s'.d = some [] ∧ ∃ vs, resAll s'.e s'.h [.tmp 2] = some vs ∧ PPost pb ts X h (fun n : Nat => .ret (.int .i64 n)) r (.ret (tup vs)) s'.h
   | .pan v => s'.d = some [] ∧ PPost pb ts X h (fun n : Nat => .ret (.int .i64 n)) r (.pan v) s'.h
   | _ => False) := by
  intro g
  induction g with
  | zero => intro _ ev' h5 e st2 hm; rw [backL] at hm; cases hm
  | succ g ih =>
   intro hgf ev' h5 e st2 hm e0 e3 f5 p5
   rw [backL] at hm
   cases ht : ts[st2.i]? with
   | none => rw [ht] at hm; cases hm
   | some t =>
    rw [ht] at hm
    simp only at hm
    refine Wc_unroll (Wc_block (Wc_seq (Wc_ops (Wo_pre 1 (fun _ => by simp only [go_sem, seval, e0]; rfl) ?_))))
    refine Wo_call (Wk_kept (now_ok F p5 ht) fun h6 k6 => ?_)
    refine Wo_op (v := .int .i64 t.frm) (h' := h6) rfl ?_
    refine (Wo_run (fun _ => by simp only [go_sem, seval]; rfl) ?_)
    show Wc T _ _ _
    have p6 := p5.keep k6
    have f06 := f5.trans (k6.pfr pb)
    refine Wc_block (Wc_seq (Wc_ops (Wo_pre 1 (fun _ => by simp only [go_sem, seval, e0]; rfl) ?_)))
    cases hk : takeS ts ⟨#[46]⟩ st2 with
    | none => rw [hk] at hm; cases hm
    | some q =>
     obtain ⟨b, st3⟩ := q
     rw [hk] at hm
     refine Wo_call ((take_ok F p6 hk).mono ?_)
     rintro o h7 ⟨f7, p7, rfl⟩
     show Wo T _ _ _
     have f07 := f06.trans f7
     have hX7 : ∀ b, X b → b < h7.next := fun b hb => Nat.lt_of_lt_of_le (hX b hb) f07.next
     refine (Wo_run (fun _ => by simp only [go_sem, seval]; rfl) ?_)
     show Wc T _ _ _
     cases b with
     | true =>
      simp only at hm
      refine Wc_cond true (by first | rfl | assumption) (fun _ => ?_) nofun
      refine Wc_seq (Wc_ops (Wo_pre 1 (fun _ => by simp only [go_sem, seval, e0]; rfl) ?_))
      rcases andS_some hm with ⟨a, er, h1', hr⟩ | ⟨tn, st4, h1', hm⟩
      ·refine Wo_call ((name_ok F p7 h1').mono ?_)
       rintro o h8 ⟨f8, rfl⟩
       subst hr
       exact ⟨rfl, f07.trans f8, rfl⟩
      refine Wo_call ((name_ok F p7 h1').mono ?_)
      rintro o h8 ⟨f8, rfl, p8⟩
      show Wo T _ _ _
      refine Wo_op (v := ptr h8.next 0) (h' := h8.new (.cells z5 true 0)) rfl ?_
      refine Wo_store_new (cs := tn.cells) (h := h8) (by first | rfl | assumption) (by first | rfl | assumption) rfl rfl fun h9 n9 => Wo_nil ?_
      show Wc T _ _ _
      have p9 := p8.keep n9.kept
      have f09 := (f07.trans f8).trans (n9.kept.pfr pb)
      have hg9 := n9.get
      have hX9 : ∀ b, X b → b < h9.next := fun b hb => Nat.lt_of_lt_of_le (hX b hb) f09.next
      rcases andS_some hm with ⟨a, er, h2', _⟩ | ⟨n, st5, h2', hm⟩
      ·obtain ⟨_, _, _, h3'⟩ := mkS_some h2'
       cases h3'
      refine Wc_ops (Wo_pre 5 (fun _ => by simp only [go_sem, seval, e0, e3, hg9, Tok.cells]; rfl) ?_)
      refine Wo_new (v := .slice (some ⟨h9.next, 0, none⟩) 1 1) (B := .cells (ints64 [(e : Int)]) true 1) (by rfl) fun h11 n11 => ?_
      refine Wo_node F (p9.keep n11.kept) (f09.trans (n11.kept.pfr pb)) (lit_kids (kids := [(e : Int)]) (c := 1) hX9 n11) h2' rfl fun n' st' h12 hr f12 p12 => ?_
      cases hr
      refine (Wo_run (fun _ => by simp only [go_sem, seval]; rfl) ?_)
      exact ih (by omega) _ h12 n st5 hm (by simp only [go_sem, seval, e0] <;> first | rfl | assumption | (symm; assumption)) (by first | rfl | assumption) f12 p12
     | false =>
      simp only at hm
      refine Wc_cond false (by first | rfl | assumption) nofun (fun _ => ?_)
      refine Wc_seq (Wc_ops (Wo_pre 1 (fun _ => by simp only [go_sem, seval, e0]; rfl) ?_))
      cases hk2 : takeS ts ⟨#[91]⟩ st3 with
      | none => rw [hk2] at hm; cases hm
      | some q2 =>
       obtain ⟨b2, st4⟩ := q2
       rw [hk2] at hm
       refine Wo_call ((take_ok F p7 hk2).mono ?_)
       rintro o h8 ⟨f8, p8, rfl⟩
       show Wo T _ _ _
       have f08 := f07.trans f8
       have hX8 : ∀ b, X b → b < h8.next := fun b hb => Nat.lt_of_lt_of_le (hX b hb) f08.next
       refine (Wo_run (fun _ => by simp only [go_sem, seval]; rfl) ?_)
       show Wc T _ _ _
       cases b2 with
       | false =>
        simp only [Option.some.injEq] at hm
        refine Wc_cond false (by first | rfl | assumption) nofun (fun _ => ?_)
        refine Wc_seq (Wc_ops (Wo_run (fun _ => by simp only [go_sem, seval, e3]; rfl) ?_))
        subst hm
        exact Wc_ret ⟨rfl, [.int .i64 e], by simp only [resAll, resV, upd, dstUpd, reduceIte, Nat.reduceEqDiff], f08, rfl, p8⟩
       | true =>
        simp only at hm
        refine Wc_cond true (by first | rfl | assumption) (fun _ => ?_) nofun
        refine Wc_seq (Wc_ops (Wo_pre 1 (fun _ => by simp only [go_sem, seval, e0]; rfl) ?_))
        rcases andS_some hm with ⟨a, er, h1', hr⟩ | ⟨q, st5, h1', hm⟩
        ·refine Wo_call ((hexpr g (by omega) X _ h8 _ p8 hX8 h1').mono ?_)
         rintro o h9 ⟨f9, rfl⟩
         subst hr
         exact ⟨rfl, f08.trans f9, rfl⟩
        refine Wo_call ((hexpr g (by omega) X _ h8 _ p8 hX8 h1').mono ?_)
        rintro o h9 ⟨f9, rfl, p9⟩
        show Wo T _ _ _
        refine (Wo_run (fun _ => by simp only [go_sem, seval]; rfl) ?_)
        show Wc T _ _ _
        have f09 := f08.trans f9
        refine Wc_seq (Wc_ops (Wo_pre 1 (fun _ => by simp only [go_sem, seval, e0]; rfl) ?_))
        rcases andS_some hm with ⟨a, er, h1', hr⟩ | ⟨u, st6, h1', hm⟩
        ·refine Wo_call ((want_ok F p9 h1').mono ?_)
         rintro o h10 ⟨f10, rfl⟩
         subst hr
         exact ⟨rfl, f09.trans f10, rfl⟩
        refine Wo_call ((want_ok F p9 h1').mono ?_)
        rintro o h10 ⟨f10, rfl, p10⟩
        show Wo T _ _ _
        refine Wo_nil ?_
        show Wc T _ _ _
        have f010 := f09.trans f10
        have hX10 : ∀ b, X b → b < h10.next := fun b hb => Nat.lt_of_lt_of_le (hX b hb) f010.next
        rcases andS_some hm with ⟨a, er, h2', _⟩ | ⟨n, st7, h2', hm⟩
        ·obtain ⟨_, _, _, h3'⟩ := mkS_some h2'
         cases h3'
        refine Wc_ops (Wo_pre 4 (fun _ => by simp only [go_sem, seval, e0, e3]; rfl) ?_)
        refine Wo_new (v := .slice (some ⟨h10.next, 0, none⟩) 2 2) (B := .cells (ints64 [(e : Int), (q : Int)]) true 1) (by rfl) fun h11 n11 => ?_
        refine Wo_node F (p10.keep n11.kept) (f010.trans (n11.kept.pfr pb)) (lit_kids (kids := [(e : Int), (q : Int)]) (c := 2) hX10 n11) h2' rfl fun n' st' h12 hr f12 p12 => ?_
        cases hr
        refine (Wo_run (fun _ => by simp only [go_sem, seval]; rfl) ?_)
        exact ih (by omega) _ h12 n st7 hm (by simp only [go_sem, seval, e0] <;> first | rfl | assumption | (symm; assumption)) (by first | rfl | assumption) f12 p12
 refine Wc_block ((loop f (Nat.le_refl _) _ h2 e st2 hs (by first | rfl | assumption) (by first | rfl | assumption) f2 p2).mono ?_)
 intro x s' hx
 cases x with
 | normal => exact hx.elim
 | brk i => exact hx.elim
 | ret => exact hx
 | pan v => exact hx
end Go.Idl
end

section
namespace Go.Idl
variable {T : Tbl} {X : Nat → Prop}
theorem ownI.kids {n0 : Nat} {h : Heap} {v : Value} {l : List Int} {h0 : Heap} (o : ownI n0 h v l) (hX : ∀ b, X b → b < n0) : kidsAt X h v l := by
 rcases o with ⟨rfl, rfl⟩ | ⟨b, e1, e2, e3, e4⟩
 ·exact .inl ⟨rfl, rfl⟩
 ·exact .inr ⟨b, _, e3, e2, e4, fun hx => by have := hX b hx; omega⟩
theorem first_step (F : Par1 T) (W : WordFns T) (hLi : T.fn 35 = some C35) (hT : T.fn 75 = some C75) {num : Int → ByteArray} {pb : Nat} {ts : List Tok} (hnum : ∀ t ∈ ts, ∀ (h : Heap) (K : Out → Heap → Prop), K (.ret (.string (num t.num))) h → Wk T (.fn 82) [.int .i64 t.num, .int .i64 10] h K)
 {f : Nat} (hexpr : OneOk T pb ts 66 (exprS num ts f)) : OneOk T pb ts 75 (firstS num ts (f + 1)) := by
 intro X st h r p hX hs
 rw [firstS] at hs
 have hfew := p.few
 cases ht : ts[st.i]? with
 | none => rw [ht] at hs; cases hs
 | some t =>
  rw [ht] at hs
  simp only at hs
  have htm := List.mem_of_getElem? ht
  have hi := (List.getElem?_eq_some_iff.1 ht).1
  refine Wk_fn2 hT (by simp [C75]) ?_
  simp only [C75]
  refine Wc_seq (Wc_ops (Wo_run (fun _ => by simp only [go_sem, seval]; rfl) ?_))
  show Wc T _ _ _
  refine Wc_seq (Wc_ops (Wo_pre 1 (fun _ => by simp only [go_sem, seval]; rfl) ?_))
  refine Wo_call (Wk_kept (now_ok F p ht) fun h2 k2 => ?_)
  refine Wo_op (v := ptr h2.next 0) (h' := h2.new (.cells z5 true 0)) rfl ?_
  refine Wo_store_new (cs := t.cells) (h := h2) (by first | rfl | assumption) (by first | rfl | assumption) rfl rfl fun h3 n3 => Wo_nil ?_
  show Wc T _ _ _
  have k3 := k2.trans n3.kept
  have p3 := p.keep k3
  have hg3 := n3.get
  have hlt3 : h2.next < h3.next := by rw [n3.next]; exact Nat.lt_succ_self _
  have hpb2 : pb < h2.next := by have := p.lt; have := k2.next; omega
  have hX3 : ∀ b, X b → b < h3.next := fun b hb => Nat.lt_of_lt_of_le (hX b hb) k3.next
  have hw : IntKind.i64.wrap (((st.i : Nat) : Int) + 1) = ((st.i + 1 : Nat) : Int) := by rw [wrap64] <;> omega
  obtain ⟨tv, lv, nds, hg, _⟩ := p3.rep
  have hset : ([tv, Value.int .i64 st.i, lv].set 1 (.int .i64 ((st.i + 1 : Nat) : Int))) = [tv, .int .i64 ((st.i + 1 : Nat) : Int), lv] := rfl
  obtain ⟨pgo, fgo⟩ := p3.go (i := st.i + 1) hg
  have hg4 : (h3.set pb (.cells [tv, .int .i64 ((st.i + 1 : Nat) : Int), lv] true 0)).get h2.next = some (.cells t.cells true 0) := by rw [set_get_ne' _ _ (by omega)]; exact hg3
  have f04 := (k3.pfr pb).trans fgo
  refine Wc_mid (fun s' => s'.d = some [] ∧ Kept h3 s'.h ∧ s'.e 0 = .pointer (some ⟨pb, 0, none⟩) ∧ (andS (wantS ts ⟨#[40]⟩ st) fun _ st => andS (exprS num ts f st) fun e st => andS (wantS ts ⟨#[41]⟩ st) fun _ st => some (.ok e st)) = some r) ?_ ?_
  ·refine Wc_seq (Wc_ops (Wo_run (fun _ => by simp only [go_sem, seval, hg3, Tok.cells]; rfl) ?_))
   show Wc T _ _ _
   refine Wc_block ?_
   refine Wc_case (by first | rfl | assumption) (fun k4 => ?_) (fun k4 => ?_)
   ·-- a number
    rw [if_pos k4] at hs
    refine Wc_seq (Wc_ops (Wo_pre 7 (fun _ => by simp only [go_sem, seval, hg, hw]; rfl) ?_))
    refine Wo_op (iop_store_at (k := 1) (v := .int .i64 ((st.i + 1 : Nat) : Int)) (by first | rfl | assumption) (by simp only [ev, upd, dstUpd, reduceIte, Nat.reduceEqDiff]; rfl) hg (by simp)) (Wo_nil ?_)
    show Wc T _ _ _
    rw [hset]
    generalize h3.set pb (.cells [tv, .int .i64 ((st.i + 1 : Nat) : Int), lv] true 0) = h4 at pgo fgo hg4 f04 ⊢
    obtain ⟨n, st', hn, hr⟩ := mkS_some hs
    refine Wc_seq (Wc_draw ?_)
    refine Wd_P rfl (v := ptr pb 0) (h' := h4) (by rfl) ?_
    refine Wd_P rfl (v := ptr h2.next 4) (h' := h4) (by rfl) ?_
    refine Wd_R rfl (v := .int .i64 t.num) (h' := h4) (by simp only [iop, ev, upd, dstUpd, reduceIte, Nat.reduceEqDiff, ptr, Heap.cell, hg4]; rfl) (fun q hq => by cases hq) ?_
    refine Wd_call (hnum t htm _ _ ⟨fun q _ => .inr (sameAt_refl _ _), ?_⟩)
    refine Wd_P rfl (v := ptr h2.next 2) (h' := h4) (by rfl) ?_
    refine Wd_R rfl (v := .int .i64 t.frm) (h' := h4) (by simp only [iop, ev, upd, dstUpd, reduceIte, Nat.reduceEqDiff, ptr, Heap.cell, hg4]; rfl) (fun q hq => by
     rw [List.mem_singleton] at hq
     subst hq
     exact .inr (sameAt_refl _ _)) ?_
    refine Wd_call ((node_ok F (kv := .slice none 0 0) pgo nil_kids hn).mono ?_)
    rintro o h5 ⟨f5, p5, rfl⟩
    refine ⟨fun q hq => .inl ?_, ?_⟩
    ·simp only [List.mem_cons, List.not_mem_nil, or_false] at hq
     rcases hq with rfl | rfl
     ·show (5 : Nat) ∈ [3, 2, 1, 5, 4, 0]; decide
     ·show (2 : Nat) ∈ [3, 2, 1, 5, 4, 0]; decide
    refine Wd_P rfl (v := .int .i64 n) (h' := h5) (by rfl) (Wd_nil ?_)
    show Wc T _ _ _
    subst hr
    exact Wc_ret ⟨rfl, [.int .i64 n], by simp only [resAll, resV, upd, dstUpd, reduceIte, Nat.reduceEqDiff], f04.trans f5, rfl, p5⟩
   rw [if_neg k4] at hs
   refine Wc_case (by first | rfl | assumption) (fun k1 => ?_) (fun k1 => ?_)
   ·-- a name, or a call
    rw [if_pos k1] at hs
    refine Wc_seq (Wc_ops (Wo_pre 7 (fun _ => by simp only [go_sem, seval, hg, hw]; rfl) ?_))
    refine Wo_op (iop_store_at (k := 1) (v := .int .i64 ((st.i + 1 : Nat) : Int)) (by first | rfl | assumption) (by simp only [ev, upd, dstUpd, reduceIte, Nat.reduceEqDiff]; rfl) hg (by simp)) (Wo_nil ?_)
    show Wc T _ _ _
    rw [hset]
    generalize h3.set pb (.cells [tv, .int .i64 ((st.i + 1 : Nat) : Int), lv] true 0) = h4 at pgo fgo hg4 f04 ⊢
    cases hk : takeS ts ⟨#[40]⟩ { st with i := st.i + 1 } with
    | none => rw [hk] at hs; cases hs
    | some q =>
     obtain ⟨b, st3⟩ := q
     rw [hk] at hs
     refine Wc_seq (Wc_seq (Wc_ops (Wo_pre 1 (fun _ => by simp only [go_sem, seval]; rfl) ?_)))
     refine Wo_call ((take_ok F pgo hk).mono ?_)
     rintro o h5 ⟨f5, p5, rfl⟩
     show Wo T _ _ _
     have f05 := f04.trans f5
     have hX5 : ∀ b, X b → b < h5.next := fun b hb => Nat.lt_of_lt_of_le (hX b hb) f05.next
     have hg5 : h5.get h2.next = some (.cells t.cells true 0) := by
      rw [f5.get _ (by have := fgo.next; omega) (by omega) (fun cs e => by rw [hg4] at e; simp at e)]; exact hg4
     refine (Wo_run (fun _ => by simp only [go_sem, seval]; rfl) ?_)
     show Wc T _ _ _
     cases b with
     | false =>
      simp only at hs
      refine Wc_cond true (by first | rfl | assumption) (fun _ => ?_) nofun
      refine Wc_seq (Wc_ops (Wo_pre 5 (fun _ => by simp only [go_sem, seval, hg5, Tok.cells]; rfl) ?_))
      refine Wo_node F p5 f05 nil_kids hs rfl fun n st' h6 hr f6 p6 => ?_
      refine (Wo_run (fun _ => by simp only [go_sem, seval]; rfl) ?_)
      subst hr
      exact Wc_ret ⟨rfl, [.int .i64 n], by simp only [resAll, resV, upd, dstUpd, reduceIte, Nat.reduceEqDiff], f6, rfl, p6⟩
     | true =>
      simp only at hs
      refine Wc_cond false (by first | rfl | assumption) nofun (fun _ => Wc_skip ?_)
      show Wc T _ _ _
      refine Wc_seq (Wc_ops (Wo_pre 1 (fun _ => by simp only [go_sem, seval]; rfl) ?_))
      rcases andS_some hs with ⟨a, er, h1', hr⟩ | ⟨kids, st4, h1', hs⟩
      ·refine Wo_call ((list_ok F hLi p5 hX5 hexpr h1').mono ?_)
       rintro o h6 ⟨f6, rfl⟩
       subst hr
       exact ⟨rfl, f05.trans f6, rfl⟩
      refine Wo_call ((list_ok F hLi p5 hX5 hexpr h1').mono ?_)
      rintro o h6 ⟨f6, kv, rfl, o6, p6⟩
      show Wo T _ _ _
      have f06 := f05.trans f6
      have hg6 : h6.get h2.next = some (.cells t.cells true 0) := by
       rw [f6.get _ (by have := fgo.next; have := f5.next; omega) (by omega) (fun cs e => by rw [hg5] at e; simp at e)]; exact hg5
      refine (Wo_run (fun _ => by simp only [go_sem, seval]; rfl) ?_)
      show Wc T _ _ _
      refine Wc_seq (Wc_ops (Wo_pre 6 (fun _ => by simp only [go_sem, seval, hg6, Tok.cells]; rfl) ?_))
      refine Wo_node F (p6.weaken fun b hb => .inl hb) f06 (o6.kids (h0 := h) hX5) hs rfl fun n st' h7 hr f7 p7 => ?_
      refine (Wo_run (fun _ => by simp only [go_sem, seval]; rfl) ?_)
      subst hr
      exact Wc_ret ⟨rfl, [.int .i64 n], by simp only [resAll, resV, upd, dstUpd, reduceIte, Nat.reduceEqDiff], f7, rfl, p7⟩
   rw [if_neg k1] at hs
   refine Wc_case (by first | rfl | assumption) (fun k2' => ?_) (fun k2' => Wc_skip ?_)
   ·-- a word
    rw [if_pos k2'] at hs
    refine Wc_seq (Wc_draw ?_)
    refine Wd_call ((words_ok W.words).mono ?_)
    rintro o h4 ⟨k4', m, hm, rfl, hmg⟩
    refine ⟨fun q hq => by (cases hq), ?_⟩
    have hg4' : h4.get h2.next = some (.cells t.cells true 0) := by rw [k4'.get _ hlt3]; exact hg3
    refine Wd_P rfl (v := ptr h2.next 1) (h' := h4) (by rfl) ?_
    refine Wd_R rfl (v := .string t.text) (h' := h4) (by simp only [iop, ev, upd, dstUpd, reduceIte, Nat.reduceEqDiff, ptr, Heap.cell, hg4']; rfl) (fun q hq => by
     rw [List.mem_singleton] at hq
     subst hq
     exact .inr (sameAt_below k4' hlt3)) ?_
    have hwd := word_at F W hexpr t.text
    have p4 := p3.keep k4'
    have f04' : PFr pb h h4 := (k3.pfr pb).trans (k4'.pfr pb)
    cases hws : wordS ts (exprS num ts f) t.text with
    | none =>
     rw [hws] at hs hwd
     simp only at hs hwd
     refine Wd_R rfl (v := .nilFunc) (h' := h4) (by simp only [iop, ev, upd, dstUpd, reduceIte, Nat.reduceEqDiff, hmg, keyOf, fit1, if_true, hwd, Bool.false_eq_true]) (fun q hq => by
      rw [List.mem_singleton] at hq
      subst hq
      exact .inl (by show (0 : Nat) ∈ [2, 1, 0]; decide)) ?_
     refine Wd_P rfl (v := .nilFunc) (h' := h4) (by rfl) (Wd_nil ?_)
     show Wc T _ _ _
     refine Wc_seq (Wc_ops (Wo_run (fun _ => by simp only [go_sem, seval, nilV, bne]; rfl) ?_))
     show Wc T _ _ _
     refine Wc_cond false (by first | rfl | assumption) nofun (fun _ => Wc_skip ?_)
     exact ⟨rfl, k4', (by first | rfl | assumption), hs⟩
    | some g =>
     rw [hws] at hs hwd
     simp only at hs hwd
     obtain ⟨fid, hfid, hok⟩ := hwd
     refine Wd_R rfl (v := fnV fid) (h' := h4) (by simp only [iop, ev, upd, dstUpd, reduceIte, Nat.reduceEqDiff, hmg, keyOf, fit1, if_true, hfid, Bool.false_eq_true]) (fun q hq => by
      rw [List.mem_singleton] at hq
      subst hq
      exact .inl (by show (0 : Nat) ∈ [2, 1, 0]; decide)) ?_
     refine Wd_P rfl (v := fnV fid) (h' := h4) (by rfl) (Wd_nil ?_)
     show Wc T _ _ _
     refine Wc_seq (Wc_ops (Wo_run (fun _ => by simp only [go_sem, seval, nilV, fnV, bne]; rfl) ?_))
     show Wc T _ _ _
     refine Wc_cond true (by first | rfl | assumption) (fun _ => ?_) nofun
     obtain ⟨tv', lv', nds', hgq, _⟩ := p4.rep
     have hset' : ([tv', Value.int .i64 st.i, lv'].set 1 (.int .i64 ((st.i + 1 : Nat) : Int))) = [tv', .int .i64 ((st.i + 1 : Nat) : Int), lv'] := rfl
     obtain ⟨pgo', fgo'⟩ := p4.go (i := st.i + 1) hgq
     have hg5 : (h4.set pb (.cells [tv', .int .i64 ((st.i + 1 : Nat) : Int), lv'] true 0)).get h2.next = some (.cells t.cells true 0) := by rw [set_get_ne' _ _ (by omega)]; exact hg4'
     refine Wc_seq (Wc_ops (Wo_pre 7 (fun _ => by simp only [go_sem, seval, hgq, hw]; rfl) ?_))
     refine Wo_op (iop_store_at (k := 1) (v := .int .i64 ((st.i + 1 : Nat) : Int)) (by first | rfl | assumption) (by simp only [ev, upd, dstUpd, reduceIte, Nat.reduceEqDiff]; rfl) hgq (by simp)) (Wo_nil ?_)
     show Wc T _ _ _
     rw [hset']
     generalize h4.set pb (.cells [tv', .int .i64 ((st.i + 1 : Nat) : Int), lv'] true 0) = h5 at pgo' fgo' hg5 ⊢
     have f05 := f04'.trans fgo'
     have hX5 : ∀ b, X b → b < h5.next := fun b hb => Nat.lt_of_lt_of_le (hX b hb) f05.next
     refine Wc_seq (Wc_ops (Wo_pre 4 (fun _ => by simp only [go_sem, seval, hg5, Tok.cells]; rfl) ?_))
     refine Wo_callv (c := .fn fid) (vs := [ptr pb 0, .int .i64 t.frm]) (by simp only [go_sem, seval, target, fnV] <;> first | rfl | assumption | (symm; assumption)) ((hok X _ h5 _ r pgo' hX5 hs).mono ?_)
     cases r with
     | err a er => rintro o h6 ⟨f6, rfl⟩; exact ⟨rfl, f05.trans f6, rfl⟩
     | ok n st' =>
      rintro o h6 ⟨f6, rfl, p6⟩
      show Wo T _ _ _
      refine (Wo_run (fun _ => by simp only [go_sem, seval]; rfl) ?_)
      exact Wc_ret ⟨rfl, [.int .i64 n], by simp only [resAll, resV, upd, dstUpd, reduceIte, Nat.reduceEqDiff], f05.trans f6, rfl, p6⟩
   ·rw [if_neg k2'] at hs
    exact ⟨rfl, .refl _, (by first | rfl | assumption), hs⟩
  rintro ⟨e', h', d⟩ ⟨hd, k3', e0, hs⟩
  simp only at hd k3' e0
  rw [hd]
  have p' := p3.keep k3'
  have f0' : PFr pb h h' := (k3.trans k3').pfr pb
  have hX' : ∀ b, X b → b < h'.next := fun b hb => Nat.lt_of_lt_of_le (hX b hb) f0'.next
  refine Wc_seq (Wc_ops (Wo_pre 1 (fun _ => by simp only [go_sem, seval, e0]; rfl) ?_))
  rcases andS_some hs with ⟨a, er, h1', hr⟩ | ⟨u, st4, h1', hs⟩
  ·refine Wo_call ((want_ok F p' h1').mono ?_)
   rintro o h6 ⟨f6, rfl⟩
   subst hr
   exact ⟨rfl, f0'.trans f6, rfl⟩
  refine Wo_call ((want_ok F p' h1').mono ?_)
  rintro o h6 ⟨f6, rfl, p6⟩
  show Wo T _ _ _
  refine Wo_nil ?_
  show Wc T _ _ _
  have f06 := f0'.trans f6
  have hX6 : ∀ b, X b → b < h6.next := fun b hb => Nat.lt_of_lt_of_le (hX b hb) f06.next
  refine Wc_seq (Wc_ops (Wo_pre 1 (fun _ => by simp only [go_sem, seval, e0]; rfl) ?_))
  rcases andS_some hs with ⟨a, er, h1', hr⟩ | ⟨e, st5, h1', hs⟩
  ·refine Wo_call ((hexpr X _ h6 _ p6 hX6 h1').mono ?_)
   rintro o h7 ⟨f7, rfl⟩
   subst hr
   exact ⟨rfl, f06.trans f7, rfl⟩
  refine Wo_call ((hexpr X _ h6 _ p6 hX6 h1').mono ?_)
  rintro o h7 ⟨f7, rfl, p7⟩
  show Wo T _ _ _
  refine (Wo_run (fun _ => by simp only [go_sem, seval]; rfl) ?_)
  show Wc T _ _ _
  have f07 := f06.trans f7
  refine Wc_seq (Wc_ops (Wo_pre 1 (fun _ => by simp only [go_sem, seval, e0]; rfl) ?_))
  rcases andS_some hs with ⟨a, er, h1', hr⟩ | ⟨u2, st6, h1', hs⟩
  ·refine Wo_call ((want_ok F p7 h1').mono ?_)
   rintro o h8 ⟨f8, rfl⟩
   subst hr
   exact ⟨rfl, f07.trans f8, rfl⟩
  refine Wo_call ((want_ok F p7 h1').mono ?_)
  rintro o h8 ⟨f8, rfl, p8⟩
  show Wo T _ _ _
  refine Wo_nil ?_
  show Wc T _ _ _
  refine Wc_seq (Wc_ops (Wo_run (fun _ => by simp only [go_sem, seval]; rfl) ?_))
  cases hs
  exact Wc_ret ⟨rfl, [.int .i64 e], by simp only [resAll, resV, upd, dstUpd, reduceIte, Nat.reduceEqDiff], f07.trans f8, rfl, p8⟩
end Go.Idl
end

section
namespace Go.Idl
variable {T : Tbl} {X : Nat → Prop}
structure ExpFns (T : Tbl) : Prop where
 p1 : Par1 T
 words : WordFns T
 list : T.fn 35 = some C35
 first : T.fn 75 = some C75
 back : T.fn 65 = some C65
 sign : T.fn 85 = some C85
 chain : T.fn 76 = some C76
 levels : T.fn 84 = some C84
 expr : T.fn 66 = some C66
structure ExpOk (T : Tbl) (pb : Nat) (ts : List Tok) (num : Int → ByteArray) (f : Nat) : Prop where
 first : OneOk T pb ts 75 (firstS num ts f)
 back : OneOk T pb ts 65 (backS num ts f)
 sign : OneOk T pb ts 85 (signS num ts f)
 chain : ChainOk T pb ts (chainS num ts f)
 expr : OneOk T pb ts 66 (exprS num ts f)
theorem exp_all (F : ExpFns T) {num : Int → ByteArray} {pb : Nat} {ts : List Tok} (hnum : ∀ t ∈ ts, ∀ (h : Heap) (K : Out → Heap → Prop), K (.ret (.string (num t.num))) h → Wk T (.fn 82) [.int .i64 t.num, .int .i64 10] h K) : ∀ f g, g ≤ f → ExpOk T pb ts num g := by
 intro f
 induction f with
 | zero =>
  intro g hg
  obtain rfl : g = 0 := by omega
  refine ⟨?_, ?_, ?_, ?_, ?_⟩
  ·intro X st h r p hX hs
   rw [firstS] at hs; cases hs
  ·intro X st h r p hX hs
   rw [backS] at hs; cases hs
  ·intro X st h r p hX hs
   rw [signS] at hs; cases hs
  ·intro X st h l r p hX hl hs
   rw [chainS] at hs; cases hs
  ·intro X st h r p hX hs
   rw [exprS] at hs; cases hs
 | succ f ih =>
  intro g hg
  rcases Nat.lt_or_eq_of_le hg with hg | rfl
  ·exact ih g (by omega)
  ·have e := ih f (Nat.le_refl _)
   exact ⟨first_step F.p1 F.words F.list F.first hnum e.expr, back_step F.p1 F.back e.first (fun g hg => (ih g hg).expr), sign_step F.p1 F.sign e.back e.sign, chain_step F.p1 F.levels F.chain e.sign (fun g hg => (ih g hg).chain), expr_step F.p1 F.expr e.chain⟩
end Go.Idl
end

section
namespace Go.Idl
variable {T : Tbl} {X : Nat → Prop}
def closedS (ts : List Tok) (ex : PSt → Option (PR Nat)) (kind pos : Int) (st : PSt) : Option (PR Nat) :=
 andS (ex st) fun e st => andS (wantS ts ⟨#[59]⟩ st) fun _ st => mkS kind ⟨#[]⟩ pos [(e : Int)] st
def letS (ts : List Tok) (ex : PSt → Option (PR Nat)) (st : PSt) : Option (PR Nat) :=
 andS (nameS ts st) fun t st => andS (wantS ts ⟨#[61]⟩ st) fun _ st => andS (ex st) fun e st => andS (wantS ts ⟨#[59]⟩ st) fun _ st => mkS 5 t.text t.frm [(e : Int)] st
def mergeS (ts : List Tok) (f : Nat) (pos : Int) (st : PSt) : Option (PR Nat) :=
 andS (wantS ts ⟨#[40]⟩ st) fun _ st => andS (listS ts ⟨#[41]⟩ (namedS ts) f st) fun kids st => andS (wantS ts ⟨#[59]⟩ st) fun _ st => mkS 13 ⟨#[]⟩ pos kids st
theorem closed_ok (F : Par1 T) (hT : T.fn 81 = some C81) {pb : Nat} {ts : List Tok} {ex : PSt → Option (PR Nat)} (hex : OneOk T pb ts 66 ex) {h : Heap} {st : PSt} {kind pos : Int} {r : PR Nat} (p : Par pb ts X h st) (hX : ∀ b, X b → b < h.next) (hs : closedS ts ex kind pos st = some r) :
 Wk T (.fn 81) [ptr pb 0, .int .i64 kind, .int .i64 pos] h (fun o h' => PPost pb ts X h (fun n : Nat => .ret (.int .i64 n)) r o h') := by
 refine Wk_fn2 hT (by simp [C81]) ?_
 simp only [C81]
 refine Wc_seq (Wc_ops (Wo_run (fun _ => by simp only [go_sem, seval]; rfl) ?_))
 show Wc T _ _ _
 refine Wc_seq (Wc_ops (Wo_pre 1 (fun _ => by simp only [go_sem, seval]; rfl) ?_))
 rcases andS_some hs with ⟨a, er, h1, rfl⟩ | ⟨e, st2, h1, hs⟩
 ·refine Wo_call ((hex X st h _ p hX h1).mono ?_)
  rintro o h3 ⟨f3, rfl⟩
  exact ⟨rfl, f3, rfl⟩
 refine Wo_call ((hex X st h _ p hX h1).mono ?_)
 rintro o h3 ⟨f3, rfl, p3⟩
 show Wo T _ _ _
 refine (Wo_run (fun _ => by simp only [go_sem, seval]; rfl) ?_)
 show Wc T _ _ _
 refine Wc_seq (Wc_ops (Wo_pre 1 (fun _ => by simp only [go_sem, seval]; rfl) ?_))
 rcases andS_some hs with ⟨a, er, h1, rfl⟩ | ⟨u2, st3, h1, hs⟩
 ·refine Wo_call ((want_ok F p3 h1).mono ?_)
  rintro o h4 ⟨f4, rfl⟩
  exact ⟨rfl, f3.trans f4, rfl⟩
 refine Wo_call ((want_ok F p3 h1).mono ?_)
 rintro o h4 ⟨f4, rfl, p4⟩
 show Wo T _ _ _
 refine Wo_nil ?_
 show Wc T _ _ _
 have f04 := f3.trans f4
 have hX4 : ∀ b, X b → b < h4.next := fun b hb => Nat.lt_of_lt_of_le (hX b hb) f04.next
 refine Wc_seq (Wc_ops (Wo_pre 4 (fun _ => by simp only [go_sem, seval]; rfl) ?_))
 refine Wo_new (v := .slice (some ⟨h4.next, 0, none⟩) 1 1) (B := .cells (ints64 [(e : Int)]) true 1) (by rfl) fun h5 n5 => ?_
 refine Wo_node F (p4.keep n5.kept) (f04.trans (n5.kept.pfr pb)) (lit_kids (kids := [(e : Int)]) (c := 1) hX4 n5) hs rfl fun n st' h6 hr f6 p6 => ?_
 refine (Wo_run (fun _ => by simp only [go_sem, seval]; rfl) ?_)
 subst hr
 exact Wc_ret ⟨rfl, [.int .i64 n], by simp only [resAll, resV, upd, dstUpd, reduceIte, Nat.reduceEqDiff], f6, rfl, p6⟩
theorem let_ok (F : Par1 T) (hT : T.fn 68 = some C68) {pb : Nat} {ts : List Tok} {ex : PSt → Option (PR Nat)} (hex : OneOk T pb ts 66 ex) : WordOk T pb ts 68 (fun _ => letS ts ex) := by
 intro X st h pos r p hX hs
 refine Wk_fn2 hT (by simp [C68]) ?_
 simp only [C68]
 refine Wc_seq (Wc_ops (Wo_run (fun _ => by simp only [go_sem, seval]; rfl) ?_))
 show Wc T _ _ _
 refine Wc_seq (Wc_ops (Wo_pre 1 (fun _ => by simp only [go_sem, seval]; rfl) ?_))
 rcases andS_some hs with ⟨a, er, h1, rfl⟩ | ⟨t, st1, h1, hs⟩
 ·refine Wo_call ((name_ok F p h1).mono ?_)
  rintro o h2 ⟨f2, rfl⟩
  exact ⟨rfl, f2, rfl⟩
 refine Wo_call ((name_ok F p h1).mono ?_)
 rintro o h2 ⟨f2, rfl, p2⟩
 show Wo T _ _ _
 refine Wo_op (v := ptr h2.next 0) (h' := h2.new (.cells z5 true 0)) rfl ?_
 refine Wo_store_new (cs := t.cells) (h := h2) (by first | rfl | assumption) (by first | rfl | assumption) rfl rfl fun h3 n3 => Wo_nil ?_
 show Wc T _ _ _
 have p3 := p2.keep n3.kept
 have f03 := f2.trans (n3.kept.pfr pb)
 have hg3 := n3.get
 have hlt3 : h2.next < h3.next := by rw [n3.next]; exact Nat.lt_succ_self _
 have hpb2 := p2.lt
 have no4 : ∀ cs, h3.get h2.next ≠ some (.cells cs true 4) := fun cs e => by rw [hg3] at e; simp at e
 refine Wc_seq (Wc_ops (Wo_pre 1 (fun _ => by simp only [go_sem, seval]; rfl) ?_))
 rcases andS_some hs with ⟨a, er, h1, rfl⟩ | ⟨u, st2, h1, hs⟩
 ·refine Wo_call ((want_ok F p3 h1).mono ?_)
  rintro o h4 ⟨f4, rfl⟩
  exact ⟨rfl, f03.trans f4, rfl⟩
 refine Wo_call ((want_ok F p3 h1).mono ?_)
 rintro o h4 ⟨f4, rfl, p4⟩
 show Wo T _ _ _
 refine Wo_nil ?_
 show Wc T _ _ _
 have f04 := f03.trans f4
 have hX4 : ∀ b, X b → b < h4.next := fun b hb => Nat.lt_of_lt_of_le (hX b hb) f04.next
 refine Wc_seq (Wc_ops (Wo_pre 1 (fun _ => by simp only [go_sem, seval]; rfl) ?_))
 rcases andS_some hs with ⟨a, er, h1, rfl⟩ | ⟨e, st3, h1, hs⟩
 ·refine Wo_call ((hex X _ h4 _ p4 hX4 h1).mono ?_)
  rintro o h5 ⟨f5, rfl⟩
  exact ⟨rfl, f04.trans f5, rfl⟩
 refine Wo_call ((hex X _ h4 _ p4 hX4 h1).mono ?_)
 rintro o h5 ⟨f5, rfl, p5⟩
 show Wo T _ _ _
 refine (Wo_run (fun _ => by simp only [go_sem, seval]; rfl) ?_)
 show Wc T _ _ _
 have f05 := f04.trans f5
 refine Wc_seq (Wc_ops (Wo_pre 1 (fun _ => by simp only [go_sem, seval]; rfl) ?_))
 rcases andS_some hs with ⟨a, er, h1, rfl⟩ | ⟨u2, st4, h1, hs⟩
 ·refine Wo_call ((want_ok F p5 h1).mono ?_)
  rintro o h6 ⟨f6, rfl⟩
  exact ⟨rfl, f05.trans f6, rfl⟩
 refine Wo_call ((want_ok F p5 h1).mono ?_)
 rintro o h6 ⟨f6, rfl, p6⟩
 show Wo T _ _ _
 refine Wo_nil ?_
 show Wc T _ _ _
 have f06 := f05.trans f6
 have f36 := (f4.trans f5).trans f6
 have hX6 : ∀ b, X b → b < h6.next := fun b hb => Nat.lt_of_lt_of_le (hX b hb) f06.next
 have hg6 : h6.get h2.next = some (.cells t.cells true 0) := by rw [f36.get _ hlt3 (by omega) no4]; exact hg3
 refine Wc_seq (Wc_ops (Wo_pre 6 (fun _ => by simp only [go_sem, seval, hg6, Tok.cells]; rfl) ?_))
 refine Wo_new (v := .slice (some ⟨h6.next, 0, none⟩) 1 1) (B := .cells (ints64 [(e : Int)]) true 1) (by rfl) fun h7 n7 => ?_
 refine Wo_node F (p6.keep n7.kept) (f06.trans (n7.kept.pfr pb)) (lit_kids (kids := [(e : Int)]) (c := 1) hX6 n7) hs rfl fun n st' h8 hr f8 p8 => ?_
 refine (Wo_run (fun _ => by simp only [go_sem, seval]; rfl) ?_)
 subst hr
 exact Wc_ret ⟨rfl, [.int .i64 n], by simp only [resAll, resV, upd, dstUpd, reduceIte, Nat.reduceEqDiff], f8, rfl, p8⟩
theorem merge_ok (F : Par1 T) (hL : T.fn 35 = some C35) (hN : T.fn 36 = some C36) (hT : T.fn 74 = some C74) {pb : Nat} {ts : List Tok} {f : Nat} : WordOk T pb ts 74 (mergeS ts f) := by
 intro X st h pos r p hX hs
 refine Wk_fn2 hT (by simp [C74]) ?_
 simp only [C74]
 refine Wc_seq (Wc_ops (Wo_run (fun _ => by simp only [go_sem, seval]; rfl) ?_))
 show Wc T _ _ _
 refine Wc_seq (Wc_ops (Wo_pre 1 (fun _ => by simp only [go_sem, seval]; rfl) ?_))
 rcases andS_some hs with ⟨a, er, h1, rfl⟩ | ⟨u, st1, h1, hs⟩
 ·refine Wo_call ((want_ok F p h1).mono ?_)
  rintro o h2 ⟨f2, rfl⟩
  exact ⟨rfl, f2, rfl⟩
 refine Wo_call ((want_ok F p h1).mono ?_)
 rintro o h2 ⟨f2, rfl, p2⟩
 show Wo T _ _ _
 refine Wo_nil ?_
 show Wc T _ _ _
 have hX2 : ∀ b, X b → b < h2.next := fun b hb => Nat.lt_of_lt_of_le (hX b hb) f2.next
 refine Wc_seq (Wc_ops (Wo_pre 1 (fun _ => by simp only [go_sem, seval]; rfl) ?_))
 rcases andS_some hs with ⟨a, er, h1, rfl⟩ | ⟨kids, st2, h1, hs⟩
 ·refine Wo_call ((list_ok F hL p2 hX2 (named_ok F hN) h1).mono ?_)
  rintro o h3 ⟨f3, rfl⟩
  exact ⟨rfl, f2.trans f3, rfl⟩
 refine Wo_call ((list_ok F hL p2 hX2 (named_ok F hN) h1).mono ?_)
 rintro o h3 ⟨f3, kv, rfl, o3, p3⟩
 show Wo T _ _ _
 refine (Wo_run (fun _ => by simp only [go_sem, seval]; rfl) ?_)
 show Wc T _ _ _
 have f03 := f2.trans f3
 refine Wc_seq (Wc_ops (Wo_pre 1 (fun _ => by simp only [go_sem, seval]; rfl) ?_))
 rcases andS_some hs with ⟨a, er, h1, rfl⟩ | ⟨u2, st3, h1, hs⟩
 ·refine Wo_call ((want_ok F p3 h1).mono ?_)
  rintro o h4 ⟨f4, rfl⟩
  exact ⟨rfl, f03.trans f4, rfl⟩
 refine Wo_call ((want_ok F p3 h1).mono ?_)
 rintro o h4 ⟨f4, rfl, p4⟩
 show Wo T _ _ _
 refine Wo_nil ?_
 show Wc T _ _ _
 have o4 := o3.pfr p3 f4
 refine Wc_seq (Wc_ops (Wo_pre 3 (fun _ => by simp only [go_sem, seval]; rfl) ?_))
 refine Wo_node F (p4.weaken fun b hb => .inl hb) (f03.trans f4) (o4.kids (h0 := h) hX2) hs rfl fun n st' h7 hr f7 p7 => ?_
 refine (Wo_run (fun _ => by simp only [go_sem, seval]; rfl) ?_)
 subst hr
 exact Wc_ret ⟨rfl, [.int .i64 n], by simp only [resAll, resV, upd, dstUpd, reduceIte, Nat.reduceEqDiff], f7, rfl, p7⟩
end Go.Idl
end

section
namespace Go.Idl
variable {T : Tbl} {X : Nat → Prop}
theorem ret_ok (F : Par1 T) (hI : T.fn 81 = some C81) (hT : T.fn 71 = some C71) {pb : Nat} {ts : List Tok} {ex : PSt → Option (PR Nat)} (hex : OneOk T pb ts 66 ex) : WordOk T pb ts 71 (closedS ts ex 9) := by
 intro X st h pos r p hX hs
 refine Wk_fn2 hT (by simp [C71]) ?_
 simp only [C71]
 refine Wc_seq (Wc_ops (Wo_run (fun _ => by simp only [go_sem, seval]; rfl) ?_))
 show Wc T _ _ _
 refine Wc_seq (Wc_ops (Wo_pre 2 (fun _ => by simp only [go_sem, seval]; rfl) ?_))
 refine Wo_call ((closed_ok F hI hex p hX hs).mono ?_)
 cases r with
 | err a er => rintro o h2 ⟨f2, rfl⟩; exact ⟨rfl, f2, rfl⟩
 | ok n st' =>
  rintro o h2 ⟨f2, rfl, p2⟩
  show Wo T _ _ _
  refine (Wo_run (fun _ => by simp only [go_sem, seval]; rfl) ?_)
  exact Wc_ret ⟨rfl, [.int .i64 n], by simp only [resAll, resV, upd, dstUpd, reduceIte, Nat.reduceEqDiff], f2, rfl, p2⟩
theorem out_ok (F : Par1 T) (hI : T.fn 81 = some C81) (hT : T.fn 72 = some C72) {pb : Nat} {ts : List Tok} {ex : PSt → Option (PR Nat)} (hex : OneOk T pb ts 66 ex) : WordOk T pb ts 72 (closedS ts ex 10) := by
 intro X st h pos r p hX hs
 refine Wk_fn2 hT (by simp [C72]) ?_
 simp only [C72]
 refine Wc_seq (Wc_ops (Wo_run (fun _ => by simp only [go_sem, seval]; rfl) ?_))
 show Wc T _ _ _
 refine Wc_seq (Wc_ops (Wo_pre 2 (fun _ => by simp only [go_sem, seval]; rfl) ?_))
 refine Wo_call ((closed_ok F hI hex p hX hs).mono ?_)
 cases r with
 | err a er => rintro o h2 ⟨f2, rfl⟩; exact ⟨rfl, f2, rfl⟩
 | ok n st' =>
  rintro o h2 ⟨f2, rfl, p2⟩
  show Wo T _ _ _
  refine (Wo_run (fun _ => by simp only [go_sem, seval]; rfl) ?_)
  exact Wc_ret ⟨rfl, [.int .i64 n], by simp only [resAll, resV, upd, dstUpd, reduceIte, Nat.reduceEqDiff], f2, rfl, p2⟩
theorem stop_ok (F : Par1 T) (hI : T.fn 81 = some C81) (hT : T.fn 73 = some C73) {pb : Nat} {ts : List Tok} {ex : PSt → Option (PR Nat)} (hex : OneOk T pb ts 66 ex) : WordOk T pb ts 73 (closedS ts ex 11) := by
 intro X st h pos r p hX hs
 refine Wk_fn2 hT (by simp [C73]) ?_
 simp only [C73]
 refine Wc_seq (Wc_ops (Wo_run (fun _ => by simp only [go_sem, seval]; rfl) ?_))
 show Wc T _ _ _
 refine Wc_seq (Wc_ops (Wo_pre 2 (fun _ => by simp only [go_sem, seval]; rfl) ?_))
 refine Wo_call ((closed_ok F hI hex p hX hs).mono ?_)
 cases r with
 | err a er => rintro o h2 ⟨f2, rfl⟩; exact ⟨rfl, f2, rfl⟩
 | ok n st' =>
  rintro o h2 ⟨f2, rfl, p2⟩
  show Wo T _ _ _
  refine (Wo_run (fun _ => by simp only [go_sem, seval]; rfl) ?_)
  exact Wc_ret ⟨rfl, [.int .i64 n], by simp only [resAll, resV, upd, dstUpd, reduceIte, Nat.reduceEqDiff], f2, rfl, p2⟩
def loopS (ex bl : PSt → Option (PR Nat)) (pos : Int) (st : PSt) : Option (PR Nat) := andS (ex st) fun e st => andS (bl st) fun b st => mkS 8 ⟨#[]⟩ pos [(e : Int), (b : Int)] st
def choiceS (ts : List Tok) (ex bl : PSt → Option (PR Nat)) (pos : Int) (st : PSt) : Option (PR Nat) := andS (ex st) fun e st => andS (bl st) fun b st => match takeS ts ⟨#[101, 108, 115, 101]⟩ st with
 | none => none
 | some (true, st) => andS (bl st) fun c st => mkS 7 ⟨#[]⟩ pos [(e : Int), (b : Int), (c : Int)] st
 | some (false, st) => andS (mkS 14 ⟨#[]⟩ 0 [] st) fun c st => mkS 7 ⟨#[]⟩ pos [(e : Int), (b : Int), (c : Int)] st
theorem loop_ok (F : Par1 T) (hT : T.fn 70 = some C70) {pb : Nat} {ts : List Tok} {ex bl : PSt → Option (PR Nat)} (hex : OneOk T pb ts 66 ex) (hbl : OneOk T pb ts 37 bl) : WordOk T pb ts 70 (loopS ex bl) := by
 intro X st h pos r p hX hs
 refine Wk_fn2 hT (by simp [C70]) ?_
 simp only [C70]
 refine Wc_seq (Wc_ops (Wo_run (fun _ => by simp only [go_sem, seval]; rfl) ?_))
 show Wc T _ _ _
 refine Wc_seq (Wc_ops (Wo_pre 1 (fun _ => by simp only [go_sem, seval]; rfl) ?_))
 rcases andS_some hs with ⟨a, er, h1, rfl⟩ | ⟨e, st1, h1, hs⟩
 ·refine Wo_call ((hex X _ h _ p hX h1).mono ?_)
  rintro o h2 ⟨f2, rfl⟩
  exact ⟨rfl, f2, rfl⟩
 refine Wo_call ((hex X _ h _ p hX h1).mono ?_)
 rintro o h2 ⟨f2, rfl, p2⟩
 show Wo T _ _ _
 refine (Wo_run (fun _ => by simp only [go_sem, seval]; rfl) ?_)
 show Wc T _ _ _
 have hX2 : ∀ b, X b → b < h2.next := fun b hb => Nat.lt_of_lt_of_le (hX b hb) f2.next
 refine Wc_seq (Wc_ops (Wo_pre 4 (fun _ => by simp only [go_sem, seval]; rfl) ?_))
 rcases andS_some hs with ⟨a, er, h1, rfl⟩ | ⟨b, st2, h1, hs⟩
 ·refine Wo_call ((hbl X _ h2 _ p2 hX2 h1).mono ?_)
  rintro o h3 ⟨f3, rfl⟩
  exact ⟨rfl, f2.trans f3, rfl⟩
 refine Wo_call ((hbl X _ h2 _ p2 hX2 h1).mono ?_)
 rintro o h3 ⟨f3, rfl, p3⟩
 show Wo T _ _ _
 have f03 := f2.trans f3
 have hX3 : ∀ b, X b → b < h3.next := fun b hb => Nat.lt_of_lt_of_le (hX b hb) f03.next
 refine Wo_new (v := .slice (some ⟨h3.next, 0, none⟩) 2 2) (B := .cells (ints64 [(e : Int), (b : Int)]) true 1) (by rfl) fun h7 n7 => ?_
 refine Wo_node F (p3.keep n7.kept) (f03.trans (n7.kept.pfr pb)) (lit_kids (kids := [(e : Int), (b : Int)]) (c := 2) hX3 n7) hs rfl fun n st' h8 hr f8 p8 => ?_
 refine (Wo_run (fun _ => by simp only [go_sem, seval]; rfl) ?_)
 subst hr
 exact Wc_ret ⟨rfl, [.int .i64 n], by simp only [resAll, resV, upd, dstUpd, reduceIte, Nat.reduceEqDiff], f8, rfl, p8⟩
theorem choice_ok (F : Par1 T) (hT : T.fn 69 = some C69) {pb : Nat} {ts : List Tok} {ex bl : PSt → Option (PR Nat)} (hex : OneOk T pb ts 66 ex) (hbl : OneOk T pb ts 37 bl) : WordOk T pb ts 69 (choiceS ts ex bl) := by
 intro X st h pos r p hX hs
 refine Wk_fn2 hT (by simp [C69]) ?_
 simp only [C69]
 refine Wc_seq (Wc_ops (Wo_run (fun _ => by simp only [go_sem, seval]; rfl) ?_))
 show Wc T _ _ _
 refine Wc_seq (Wc_ops (Wo_pre 1 (fun _ => by simp only [go_sem, seval]; rfl) ?_))
 rcases andS_some hs with ⟨a, er, h1, rfl⟩ | ⟨e, st1, h1, hs⟩
 ·refine Wo_call ((hex X _ h _ p hX h1).mono ?_)
  rintro o h2 ⟨f2, rfl⟩
  exact ⟨rfl, f2, rfl⟩
 refine Wo_call ((hex X _ h _ p hX h1).mono ?_)
 rintro o h2 ⟨f2, rfl, p2⟩
 show Wo T _ _ _
 refine (Wo_run (fun _ => by simp only [go_sem, seval]; rfl) ?_)
 show Wc T _ _ _
 have hX2 : ∀ b, X b → b < h2.next := fun b hb => Nat.lt_of_lt_of_le (hX b hb) f2.next
 refine Wc_seq (Wc_ops (Wo_pre 1 (fun _ => by simp only [go_sem, seval]; rfl) ?_))
 rcases andS_some hs with ⟨a, er, h1, rfl⟩ | ⟨b, st2, h1, hs⟩
 ·refine Wo_call ((hbl X _ h2 _ p2 hX2 h1).mono ?_)
  rintro o h3 ⟨f3, rfl⟩
  exact ⟨rfl, f2.trans f3, rfl⟩
 refine Wo_call ((hbl X _ h2 _ p2 hX2 h1).mono ?_)
 rintro o h3 ⟨f3, rfl, p3⟩
 show Wo T _ _ _
 refine (Wo_run (fun _ => by simp only [go_sem, seval]; rfl) ?_)
 show Wc T _ _ _
 have f03 := f2.trans f3
 cases hk : takeS ts ⟨#[101, 108, 115, 101]⟩ st2 with
 | none => rw [hk] at hs; cases hs
 | some q =>
  obtain ⟨w, st3⟩ := q
  rw [hk] at hs
  refine Wc_seq (Wc_seq (Wc_ops (Wo_pre 1 (fun _ => by simp only [go_sem, seval]; rfl) ?_)))
  refine Wo_call ((take_ok F p3 hk).mono ?_)
  rintro o h4 ⟨f4, p4, rfl⟩
  show Wo T _ _ _
  refine Wo_nil ?_
  show Wc T _ _ _
  have f04 := f03.trans f4
  have hX4 : ∀ b, X b → b < h4.next := fun b hb => Nat.lt_of_lt_of_le (hX b hb) f04.next
  cases w with
  | true =>
   simp only at hs
   refine Wc_cond true (by first | rfl | assumption) (fun _ => ?_) nofun
   refine Wc_seq (Wc_ops (Wo_pre 5 (fun _ => by simp only [go_sem, seval]; rfl) ?_))
   rcases andS_some hs with ⟨a, er, h1, rfl⟩ | ⟨c, st4, h1, hs⟩
   ·refine Wo_call ((hbl X _ h4 _ p4 hX4 h1).mono ?_)
    rintro o h5 ⟨f5, rfl⟩
    exact ⟨rfl, f04.trans f5, rfl⟩
   refine Wo_call ((hbl X _ h4 _ p4 hX4 h1).mono ?_)
   rintro o h5 ⟨f5, rfl, p5⟩
   show Wo T _ _ _
   have f05 := f04.trans f5
   have hX5 : ∀ b, X b → b < h5.next := fun b hb => Nat.lt_of_lt_of_le (hX b hb) f05.next
   refine Wo_new (v := .slice (some ⟨h5.next, 0, none⟩) 3 3) (B := .cells (ints64 [(e : Int), (b : Int), (c : Int)]) true 1) (by rfl) fun h7 n7 => ?_
   refine Wo_node F (p5.keep n7.kept) (f05.trans (n7.kept.pfr pb)) (lit_kids (kids := [(e : Int), (b : Int), (c : Int)]) (c := 3) hX5 n7) hs rfl fun n st' h8 hr f8 p8 => ?_
   refine (Wo_run (fun _ => by simp only [go_sem, seval]; rfl) ?_)
   subst hr
   exact Wc_ret ⟨rfl, [.int .i64 n], by simp only [resAll, resV, upd, dstUpd, reduceIte, Nat.reduceEqDiff], f8, rfl, p8⟩
  | false =>
   simp only at hs
   refine Wc_cond false (by first | rfl | assumption) nofun (fun _ => Wc_skip ?_)
   show Wc T _ _ _
   rcases andS_some hs with ⟨a, er, h2', _⟩ | ⟨c, st4, h1, hs⟩
   ·obtain ⟨_, _, _, h3'⟩ := mkS_some h2'
    cases h3'
   refine Wc_seq (Wc_ops (Wo_pre 5 (fun _ => by simp only [go_sem, seval]; rfl) ?_))
   refine Wo_node F p4 f04 nil_kids h1 rfl fun c' st4' h5 hr f05 p5 => ?_
   cases hr
   have hX5 : ∀ b, X b → b < h5.next := fun b hb => Nat.lt_of_lt_of_le (hX b hb) f05.next
   refine Wo_new (v := .slice (some ⟨h5.next, 0, none⟩) 3 3) (B := .cells (ints64 [(e : Int), (b : Int), (c : Int)]) true 1) (by rfl) fun h7 n7 => ?_
   refine Wo_node F (p5.keep n7.kept) (f05.trans (n7.kept.pfr pb)) (lit_kids (kids := [(e : Int), (b : Int), (c : Int)]) (c := 3) hX5 n7) hs rfl fun n st' h8 hr f8 p8 => ?_
   refine (Wo_run (fun _ => by simp only [go_sem, seval]; rfl) ?_)
   subst hr
   exact Wc_ret ⟨rfl, [.int .i64 n], by simp only [resAll, resV, upd, dstUpd, reduceIte, Nat.reduceEqDiff], f8, rfl, p8⟩
end Go.Idl
end

section
namespace Go.Idl
variable {T : Tbl} {X : Nat → Prop}
def stmtM : List (Value × Value) := [(.string ⟨#[108, 101, 116]⟩, fnV 68), (.string ⟨#[105, 102]⟩, fnV 69), (.string ⟨#[119, 104, 105, 108, 101]⟩, fnV 70), (.string ⟨#[114, 101, 116, 117, 114, 110]⟩, fnV 71), (.string ⟨#[111, 117, 116]⟩, fnV 72), (.string ⟨#[115, 116, 111, 112]⟩, fnV 73), (.string ⟨#[109, 101, 114, 103, 101]⟩, fnV 74)]
theorem stmtM_fold : stmtM.foldl mapInG [] = stmtM := by kernel_rfl
theorem stmts_ok (hT : T.fn 64 = some C64) {h : Heap} : Wk T (.fn 64) [] h (fun o h' => Kept h h' ∧ ∃ m, m < h'.next ∧ o = .ret (.map (some m)) ∧ h'.get m = some (.map (.one .str) stmtM)) := by
 refine Wk_fn hT (by simp [C64]) ?_
 simp only [C64]
 refine Wc_seq (Wc_ops (Wo_run (fun _ => by simp only [go_sem, seval]; rfl) ?_))
 show Wc T _ _ _
 refine Wc_seq (Wc_ops (Wo_new (v := .map (some h.next)) (B := .map (.one .str) []) rfl fun h1 n1 => ?_))
 refine Wo_mapsG (m := h.next) (by simp only [upd, dstUpd, reduceIte, Nat.reduceEqDiff]) stmtM (by simp [stmtM, keyOf, fit1]) n1.get (rest := [⟨(some 2), .op (.mov (.t 1)), none⟩, ⟨(some 0), .op (.mov (.t 2)), none⟩]) fun h' k1 k2 k3 => ?_
 rw [stmtM_fold] at k3
 refine (Wo_run (fun _ => by simp only [go_sem, seval]; rfl) ?_)
 refine Wc_ret ⟨.inr rfl, rfl, [.map (some h.next)], by simp only [resAll, resV, upd, dstUpd, reduceIte, Nat.reduceEqDiff], n1.kept.of_but k1 (Nat.le_refl _), h.next, ?_, rfl, k3⟩
 show h.next < h'.next
 rw [k2, n1.next]; exact Nat.lt_succ_self _
structure StmtFns (T : Tbl) : Prop where
 klet : T.fn 68 = some C68
 kchoice : T.fn 69 = some C69
 kloop : T.fn 70 = some C70
 kret : T.fn 71 = some C71
 kout : T.fn 72 = some C72
 kstop : T.fn 73 = some C73
 kmerge : T.fn 74 = some C74
 closed : T.fn 81 = some C81
 list : T.fn 35 = some C35
 named : T.fn 36 = some C36
 stmts : T.fn 64 = some C64
def swordS (ts : List Tok) (ex bl : PSt → Option (PR Nat)) (f : Nat) (w : ByteArray) : Option (Int → PSt → Option (PR Nat)) :=
 if w = ⟨#[108, 101, 116]⟩ then some (fun _ => letS ts ex) else
 if w = ⟨#[105, 102]⟩ then some (choiceS ts ex bl) else
 if w = ⟨#[119, 104, 105, 108, 101]⟩ then some (loopS ex bl) else
 if w = ⟨#[114, 101, 116, 117, 114, 110]⟩ then some (closedS ts ex 9) else
 if w = ⟨#[111, 117, 116]⟩ then some (closedS ts ex 10) else
 if w = ⟨#[115, 116, 111, 112]⟩ then some (closedS ts ex 11) else
 if w = ⟨#[109, 101, 114, 103, 101]⟩ then some (mergeS ts f) else none
theorem stmt_at (F : Par1 T) (W : StmtFns T) {pb : Nat} {ts : List Tok} {ex bl : PSt → Option (PR Nat)} {f : Nat} (hex : OneOk T pb ts 66 ex) (hbl : OneOk T pb ts 37 bl) (w : ByteArray) :
 match swordS ts ex bl f w with
 | some g => ∃ k, findK [.string w] stmtM = some (fnV k) ∧ WordOk T pb ts k g
 | none => findK [.string w] stmtM = none := by
 unfold swordS
 by_cases h0 : w = ⟨#[108, 101, 116]⟩
 ·rw [if_pos h0]; subst h0; exact ⟨_, by kernel_rfl, let_ok F W.klet hex⟩
 rw [if_neg h0]
 by_cases h1 : w = ⟨#[105, 102]⟩
 ·rw [if_pos h1]; subst h1; exact ⟨_, by kernel_rfl, choice_ok F W.kchoice hex hbl⟩
 rw [if_neg h1]
 by_cases h2 : w = ⟨#[119, 104, 105, 108, 101]⟩
 ·rw [if_pos h2]; subst h2; exact ⟨_, by kernel_rfl, loop_ok F W.kloop hex hbl⟩
 rw [if_neg h2]
 by_cases h3 : w = ⟨#[114, 101, 116, 117, 114, 110]⟩
 ·rw [if_pos h3]; subst h3; exact ⟨_, by kernel_rfl, ret_ok F W.closed W.kret hex⟩
 rw [if_neg h3]
 by_cases h4 : w = ⟨#[111, 117, 116]⟩
 ·rw [if_pos h4]; subst h4; exact ⟨_, by kernel_rfl, out_ok F W.closed W.kout hex⟩
 rw [if_neg h4]
 by_cases h5 : w = ⟨#[115, 116, 111, 112]⟩
 ·rw [if_pos h5]; subst h5; exact ⟨_, by kernel_rfl, stop_ok F W.closed W.kstop hex⟩
 rw [if_neg h5]
 by_cases h6 : w = ⟨#[109, 101, 114, 103, 101]⟩
 ·rw [if_pos h6]; subst h6; exact ⟨_, by kernel_rfl, merge_ok F W.list W.named W.kmerge⟩
 rw [if_neg h6]
 simp only [stmtM, findK, seqL, seq1, cellsV, Bool.and_true, decide_eq_true_eq, h0, h1, h2, h3, h4, h5, h6, if_false]
def placeK (k : Int) : Bool := k == 17 || k == 20 || k == 21 || k == 30
mutual
def stmtS (num : Int → ByteArray) (ts : List Tok) : Nat → PSt → Option (PR Nat)
 | 0, _ => none
 | f + 1, st => match ts[st.i]? with
  | none => none
  | some t => match (if t.kind = 2 then swordS ts (exprS num ts f) (blockS num ts f) f t.text else none) with
   | some g => g t.frm { st with i := st.i + 1 }
   | none => andS (backS num ts f st) fun e st => match ts[st.i]?, st.l[e]? with
    | some t, some x =>
     if x.kind = 22 then match takeS ts ⟨#[59]⟩ st with
      | none => none
      | some (true, st) => mkS 12 ⟨#[]⟩ x.pos [(e : Int)] st
      | some (false, st) => some (.err t.frm 60)
     else if placeK x.kind then andS (wantS ts ⟨#[61]⟩ st) fun _ st => andS (exprS num ts f st) fun g st => andS (wantS ts ⟨#[59]⟩ st) fun _ st => mkS 6 ⟨#[]⟩ t.frm [(e : Int), (g : Int)] st
     else some (.err t.frm 60)
    | _, _ => none
def manyS (num : Int → ByteArray) (ts : List Tok) : Nat → List Int → PSt → Option (PR (List Int))
 | 0, _, _ => none
 | f + 1, acc, st => if 1000000 < acc.length then none else match ts[st.i]? with
  | none => none
  | some t => if isB t [⟨#[125]⟩] then some (.ok acc st) else andS (stmtS num ts f st) fun k st => manyS num ts f (acc ++ [(k : Int)]) st
def blockS (num : Int → ByteArray) (ts : List Tok) : Nat → PSt → Option (PR Nat)
 | 0, _ => none
 | f + 1, st => match ts[st.i]? with
  | none => none
  | some t => andS (wantS ts ⟨#[123]⟩ st) fun _ st => andS (manyS num ts f [] st) fun kids st => andS (wantS ts ⟨#[125]⟩ st) fun _ st => mkS 4 ⟨#[]⟩ t.frm kids st
end
end Go.Idl
end

section
namespace Go.Idl
variable {T : Tbl} {X : Nat → Prop}
theorem block_step (F : Par1 T) (hT : T.fn 37 = some C37) {num : Int → ByteArray} {pb : Nat} {ts : List Tok} {f : Nat} (hstmt : ∀ g, g ≤ f → OneOk T pb ts 57 (stmtS num ts g)) : OneOk T pb ts 37 (blockS num ts (f + 1)) := by
 intro X st h r p hX hs
 rw [blockS] at hs
 cases ht : ts[st.i]? with
 | none => rw [ht] at hs; cases hs
 | some t =>
  rw [ht] at hs
  simp only at hs
  refine Wk_fn2 hT (by simp [C37]) ?_
  simp only [C37]
  refine Wc_seq (Wc_ops (Wo_run (fun _ => by simp only [go_sem, seval]; rfl) ?_))
  show Wc T _ _ _
  refine Wc_seq (Wc_ops (Wo_pre 1 (fun _ => by simp only [go_sem, seval]; rfl) ?_))
  refine Wo_call (Wk_kept (now_ok F p ht) fun h2 k2 => ?_)
  refine Wo_op (v := .int .i64 t.frm) (h' := h2) rfl ?_
  refine (Wo_run (fun _ => by simp only [go_sem, seval]; rfl) ?_)
  show Wc T _ _ _
  have p2 := p.keep k2
  refine Wc_seq (Wc_ops (Wo_pre 1 (fun _ => by simp only [go_sem, seval]; rfl) ?_))
  rcases andS_some hs with ⟨a, er, h1, rfl⟩ | ⟨u, st1, h1, hs⟩
  ·refine Wo_call ((want_ok F p2 h1).mono ?_)
   rintro o h3 ⟨f3, rfl⟩
   exact ⟨rfl, (k2.pfr pb).trans f3, rfl⟩
  refine Wo_call ((want_ok F p2 h1).mono ?_)
  rintro o h3 ⟨f3, rfl, p3⟩
  show Wo T _ _ _
  refine Wo_nil ?_
  show Wc T _ _ _
  refine Wc_seq (Wc_ops (Wo_run (fun _ => by simp only [go_sem, seval]; rfl) ?_))
  show Wc T _ _ _
  have f03 := (k2.pfr pb).trans f3
  have loop : ∀ (g : Nat), g ≤ f → ∀ (ev' : Env) (h5 : Heap) (acc : List Int) (st2 : PSt) (q : PR (List Int)), manyS num ts g acc st2 = some q → (∀ a er, q = .err a er → r = .err a er) → ev' 0 = .pointer (some ⟨pb, 0, none⟩) → ev' 3 = .int .i64 t.frm → PFr pb h h5 → ownI h.next h5 (ev' 4) acc → Par pb ts (XO X (ev' 4)) h5 st2 →
   Wc T (.loop C37L0) ⟨ev', h5, some []⟩ (Tb 0 fun x s' => match x with
    | .normal => s'.d = some [] ∧ s'.e 0 = .pointer (some ⟨pb, 0, none⟩) ∧ s'.e 3 = .int .i64 t.frm ∧ ∃ kids st', q = .ok kids st' ∧ PFr pb h s'.h ∧ ownI h.next s'.h (s'.e 4) kids ∧ Par pb ts (XO X (s'.e 4)) s'.h st'
    | .pan v => s'.d = some [] ∧ PPost pb ts X h (fun n : Nat => .ret (.int .i64 n)) r (.pan v) s'.h
    | _ => False) := by
   intro g
   induction g with
   | zero => intro _ ev' h5 acc st2 q hm; rw [manyS] at hm; cases hm
   | succ g ih =>
    intro hgf ev' h5 acc st2 q hm hq e0 e3 f5 o5 p5
    rw [manyS] at hm
    by_cases hacc : 1000000 < acc.length
    ·rw [if_pos hacc] at hm; cases hm
    rw [if_neg hacc] at hm
    cases ht2 : ts[st2.i]? with
    | none => rw [ht2] at hm; cases hm
    | some t2 =>
     rw [ht2] at hm
     simp only at hm
     refine Wc_unroll (Wc_seq (Wc_seq (Wc_ops (Wo_pre 1 (fun _ => by simp only [go_sem, seval, e0]; rfl) ?_))))
     refine Wo_new (v := .slice (some ⟨h5.next, 0, none⟩) 1 1) (B := .cells [.string ⟨#[125]⟩] true 1) (by rfl) fun h6 n6 => ?_
     refine Wo_call (Wk_kept (is_ok F (p5.keep n6.kept) ht2 (pstr ⟨#[125]⟩ n6) (by simp)) fun h7 k7 => ?_)
     have k57 := n6.kept.trans k7
     have p7 := p5.keep k57
     have f07 := f5.trans (k57.pfr pb)
     have o7 := o5.pfr p5 (k57.pfr pb)
     cases hb : isB t2 [⟨#[125]⟩]
     case true =>
      rw [hb, if_pos rfl] at hm
      cases hm
      refine (Wo_run (fun _ => by simp only [go_sem, seval, hb]; rfl) ?_)
      show Wc T _ _ _
      refine Wc_cond false (by first | rfl | assumption) nofun (fun _ => Wc_exit ?_)
      exact ⟨rfl, (by simp only [go_sem, seval, e0] <;> first | rfl | assumption | (symm; assumption)), (by simp only [go_sem, seval, e3] <;> first | rfl | assumption | (symm; assumption)), acc, st2, rfl, f07, by simp only [upd, dstUpd, reduceIte, Nat.reduceEqDiff]; exact o7, by simp only [upd, dstUpd, reduceIte, Nat.reduceEqDiff]; exact p7⟩
     rw [hb] at hm
     simp only [Bool.false_eq_true, if_false] at hm
     refine (Wo_run (fun _ => by simp only [go_sem, seval, hb]; rfl) ?_)
     show Wc T _ _ _
     refine Wc_cond true (by first | rfl | assumption) (fun _ => Wc_skip ?_) nofun
     show Wc T _ _ _
     have hX7 := XO_lt (fun b hb => Nat.lt_of_lt_of_le (hX b hb) f07.next) o7
     refine Wc_block (Wc_ops (Wo_pre 2 (fun _ => by simp only [go_sem, seval, e0]; rfl) ?_))
     rcases andS_some hm with ⟨a, er, h1', hr⟩ | ⟨k, st3, h1', hm⟩
     ·refine Wo_call ((hstmt g (by omega) _ _ h7 _ p7 hX7 h1').mono ?_)
      rintro o h8 ⟨f8, rfl⟩
      rw [hq a er hr]
      exact ⟨rfl, f07.trans f8, rfl⟩
     refine Wo_call ((hstmt g (by omega) _ _ h7 _ p7 hX7 h1').mono ?_)
     rintro o h8 ⟨f8, rfl, p8⟩
     show Wo T _ _ _
     have f08 := f07.trans f8
     have o8 := o7.pfr p7 f8
     refine Wo_new (v := .slice (some ⟨h8.next, 0, none⟩) 1 1) (B := .cells [.int .i64 (k : Int)] true 1) (by rfl) fun h9 n9 => ?_
     obtain ⟨v', h10, ha, o10, p10, f10⟩ := list_add (k : Int) p8 o8 f08 (Nat.le_refl _) f08.next (by omega) n9
     refine Wo_op (v := v') (h' := h10) (by simp only [iop, ev, upd, dstUpd, reduceIte, Nat.reduceEqDiff]; exact ha) ?_
     refine (Wo_run (fun _ => by simp only [go_sem, seval]; rfl) ?_)
     exact ih (by omega) _ h10 (acc ++ [(k : Int)]) st3 q hm hq (by simp only [go_sem, seval, e0] <;> first | rfl | assumption | (symm; assumption)) (by simp only [go_sem, seval, e3] <;> first | rfl | assumption | (symm; assumption)) f10 (by simp only [upd, dstUpd, reduceIte, Nat.reduceEqDiff]; exact o10) (by simp only [upd, dstUpd, reduceIte, Nat.reduceEqDiff]; exact p10)
  rcases andS_some hs with ⟨a, er, h1, hr⟩ | ⟨kids, st2, h1, hs⟩
  ·refine Wc_seq (Wc_block ((loop f (Nat.le_refl _) _ h3 [] st1 (.err a er) h1 (fun a' er' e => by cases e; exact hr) (by first | rfl | assumption) (by first | rfl | assumption) f03 (.inl ⟨rfl, (by first | rfl | assumption)⟩) (by simp only [upd, dstUpd, reduceIte, Nat.reduceEqDiff]; exact p3.nil)).mono ?_))
   intro x s' hx
   cases x with
   | normal => obtain ⟨_, _, _, _, _, e, _⟩ := hx; cases e
   | brk i =>
    simp only [Tb] at hx ⊢
    split at hx
    ·obtain ⟨_, _, _, _, _, e, _⟩ := hx; cases e
    ·exact hx.elim
   | ret => exact hx.elim
   | pan v => exact hx
  refine Wc_seq (Wc_block ((loop f (Nat.le_refl _) _ h3 [] st1 (.ok kids st2) h1 (fun a' er' e => by cases e) (by first | rfl | assumption) (by first | rfl | assumption) f03 (.inl ⟨rfl, (by first | rfl | assumption)⟩) (by simp only [upd, dstUpd, reduceIte, Nat.reduceEqDiff]; exact p3.nil)).mono ?_))
  have rest : ∀ s' : St, (s'.d = some [] ∧ s'.e 0 = .pointer (some ⟨pb, 0, none⟩) ∧ s'.e 3 = .int .i64 t.frm ∧ ∃ kids' st', (PR.ok kids st2 : PR (List Int)) = .ok kids' st' ∧ PFr pb h s'.h ∧ ownI h.next s'.h (s'.e 4) kids' ∧ Par pb ts (XO X (s'.e 4)) s'.h st') → Wc T (.seq (.ops [⟨(some 19), .op (.mov (.t 0)), none⟩, ⟨(some 20), .call 34 [(.t 19), (.c (.string ⟨#[125]⟩))], none⟩])
   (.seq (.ops [⟨(some 21), .op (.mov (.t 0)), none⟩, ⟨(some 22), .op (.mov (.t 3)), none⟩, ⟨(some 23), .op (.mov (.t 4)), none⟩, ⟨(some 24), .call 20 [(.t 21), (.c (.int .i64 4)), (.c (.string ⟨#[]⟩)), (.t 22), (.t 23)], none⟩, ⟨(some 2), .op (.mov (.t 24)), none⟩]) .ret)) s' (Fin2 C37 fun o h' => PPost pb ts X h (fun n : Nat => .ret (.int .i64 n)) r o h') := by
   rintro ⟨e', h', d'⟩ ⟨hd, e0, e3, kids', st', hr, f6, o6, p6⟩
   cases hr
   simp only at hd e0 e3 f6 o6 p6
   rw [hd]
   generalize hv4 : e' 4 = kv at o6 p6
   refine Wc_seq (Wc_ops (Wo_pre 1 (fun _ => by simp only [go_sem, seval, e0]; rfl) ?_))
   rcases andS_some hs with ⟨a, er, h1, rfl⟩ | ⟨u2, st3, h1, hs⟩
   ·refine Wo_call ((want_ok F p6 h1).mono ?_)
    rintro o h7 ⟨f7, rfl⟩
    exact ⟨rfl, f6.trans f7, rfl⟩
   refine Wo_call ((want_ok F p6 h1).mono ?_)
   rintro o h7 ⟨f7, rfl, p7⟩
   show Wo T _ _ _
   refine Wo_nil ?_
   show Wc T _ _ _
   refine Wc_seq (Wc_ops (Wo_pre 3 (fun _ => by simp only [go_sem, seval, e0, e3, hv4]; rfl) ?_))
   refine Wo_node F (p7.weaken fun b hb => .inl hb) (f6.trans f7) ((o6.pfr p6 f7).kids (h0 := h) hX) hs (by first | rfl | assumption) fun n st'' h8 hr8 f8 p8 => ?_
   refine (Wo_run (fun _ => by simp only [go_sem, seval]; rfl) ?_)
   subst hr8
   exact Wc_ret ⟨rfl, [.int .i64 n], by simp only [C37, resAll, resV, upd, dstUpd, reduceIte, Nat.reduceEqDiff], f8, rfl, p8⟩
  intro x s' hx
  cases x with
  | normal => exact rest s' hx
  | brk i =>
   simp only [Tb] at hx ⊢
   split at hx
   ·rename_i hi
    rw [if_pos hi]
    exact rest s' hx
   ·exact hx.elim
  | ret => exact hx.elim
  | pan v => exact hx
end Go.Idl
end

section
namespace Go.Idl
variable {T : Tbl} {X : Nat → Prop}
theorem Par.node {pb : Nat} {ts : List Tok} {h : Heap} {st : PSt} (p : Par pb ts X h st) {e : Nat} {x : PN} (hx : st.l[e]? = some x) : ∃ tv b n c cs, h.get pb = some (.cells [tv, .int .i64 st.i, .slice (some ⟨b, 0, none⟩) n c] true 0) ∧ e < n ∧ h.get b = some (.cells cs true 4) ∧ cs[e * 4]? = some (.int .i64 x.kind) ∧ cs[e * 4 + 3]? = some (.int .i64 x.pos) := by
 obtain ⟨tv, lv, nds, h1, h2, h3, h4, h5⟩ := p.rep
 rw [← h5, List.getElem?_map] at hx
 obtain ⟨nd, hnd, rfl⟩ := Option.map_eq_some_iff.1 hx
 obtain ⟨b, c, rfl, _, _, hg, hc⟩ := h3.load nd_len hnd
 have hr := row_at nd_len hnd
 have get : ∀ k, k < 4 → (nds.flatMap Nd.cells)[e * 4 + k]? = nd.cells[k]? := fun k hk => by
  rw [← hr, List.getElem?_take, if_pos hk, List.getElem?_drop]
 exact ⟨tv, b, _, c, _, h1, (List.getElem?_eq_some_iff.1 hnd).1, hg, get 0 (by omega), get 3 (by omega)⟩
theorem stmt_step (F : Par1 T) (W : StmtFns T) (hT : T.fn 57 = some C57) {num : Int → ByteArray} {pb : Nat} {ts : List Tok} {f : Nat} (hex : OneOk T pb ts 66 (exprS num ts f)) (hback : OneOk T pb ts 65 (backS num ts f)) (hbl : OneOk T pb ts 37 (blockS num ts f)) : OneOk T pb ts 57 (stmtS num ts (f + 1)) := by
 intro X st h r p hX hs
 rw [stmtS] at hs
 have hfew := p.few
 cases ht : ts[st.i]? with
 | none => rw [ht] at hs; cases hs
 | some t =>
  rw [ht] at hs
  simp only at hs
  have hi := (List.getElem?_eq_some_iff.1 ht).1
  refine Wk_fn2 hT (by simp [C57]) ?_
  simp only [C57]
  refine Wc_seq (Wc_ops (Wo_run (fun _ => by simp only [go_sem, seval]; rfl) ?_))
  show Wc T _ _ _
  refine Wc_seq (Wc_ops (Wo_pre 1 (fun _ => by simp only [go_sem, seval]; rfl) ?_))
  refine Wo_call (Wk_kept (now_ok F p ht) fun h2 k2 => ?_)
  refine Wo_op (v := ptr h2.next 0) (h' := h2.new (.cells z5 true 0)) rfl ?_
  refine Wo_store_new (cs := t.cells) (h := h2) (by first | rfl | assumption) (by first | rfl | assumption) rfl rfl fun h3 n3 => Wo_nil ?_
  show Wc T _ _ _
  have k3 := k2.trans n3.kept
  have p3 := p.keep k3
  have hg3 := n3.get
  have hlt3 : h2.next < h3.next := by rw [n3.next]; exact Nat.lt_succ_self _
  have hpb2 : pb < h2.next := by have := p.lt; have := k2.next; omega
  have hw : IntKind.i64.wrap (((st.i : Nat) : Int) + 1) = ((st.i + 1 : Nat) : Int) := by rw [wrap64] <;> omega
  refine Wc_mid (fun s' => s'.d = some [] ∧ Kept h3 s'.h ∧ s'.e 0 = .pointer (some ⟨pb, 0, none⟩) ∧ (if t.kind = 2 then swordS ts (exprS num ts f) (blockS num ts f) f t.text else none) = none) ?_ ?_
  ·refine Wc_seq (Wc_draw ?_)
   refine Wd_call ((stmts_ok W.stmts).mono ?_)
   rintro o h4 ⟨k4', m, hm, rfl, hmg⟩
   refine ⟨fun q hq => by (cases hq), ?_⟩
   have hg4' : h4.get h2.next = some (.cells t.cells true 0) := by rw [k4'.get _ hlt3]; exact hg3
   refine Wd_P rfl (v := ptr h2.next 1) (h' := h4) (by rfl) ?_
   refine Wd_R rfl (v := .string t.text) (h' := h4) (by simp only [iop, ev, upd, dstUpd, reduceIte, Nat.reduceEqDiff, ptr, Heap.cell, hg4']; rfl) (fun q hq => by
    rw [List.mem_singleton] at hq
    subst hq
    exact .inr (sameAt_below k4' hlt3)) ?_
   have hwd := stmt_at F W (f := f) hex hbl t.text
   have p4 := p3.keep k4'
   have f04' : PFr pb h h4 := (k3.pfr pb).trans (k4'.pfr pb)
   cases hws : swordS ts (exprS num ts f) (blockS num ts f) f t.text with
   | none =>
    rw [hws] at hwd
    simp only at hwd
    refine Wd_R rfl (v := .nilFunc) (h' := h4) (by simp only [iop, ev, upd, dstUpd, reduceIte, Nat.reduceEqDiff, hmg, keyOf, fit1, if_true, hwd, Bool.false_eq_true]) (fun q hq => by
     rw [List.mem_singleton] at hq
     subst hq
     exact .inl (by show (0 : Nat) ∈ [2, 1, 0]; decide)) ?_
    refine Wd_P rfl (v := .nilFunc) (h' := h4) (by rfl) (Wd_nil ?_)
    show Wc T _ _ _
    have fin : ∀ e : Env, e 0 = .pointer (some ⟨pb, 0, none⟩) → some ([] : List Dfr) = some [] ∧ Kept h3 h4 ∧ e 0 = .pointer (some ⟨pb, 0, none⟩) ∧ (if t.kind = 2 then (none : Option (Int → PSt → Option (PR Nat))) else none) = none := fun e he => ⟨rfl, k4', he, by split <;> rfl⟩
    cases k2b : (t.kind == 2)
    ·refine Wc_seq (Wc_ops (Wo_run (fun _ => by simp only [go_sem, seval, hg4', Tok.cells, k2b]; rfl) ?_))
     show Wc T _ _ _
     refine Wc_cond false (by first | rfl | assumption) nofun (fun _ => Wc_skip ?_)
     exact fin _ (by first | rfl | assumption)
    ·refine Wc_seq (Wc_ops (Wo_run (fun _ => by simp only [go_sem, seval, hg4', Tok.cells, k2b, nilV, bne]; rfl) ?_))
     show Wc T _ _ _
     refine Wc_cond false (by first | rfl | assumption) nofun (fun _ => Wc_skip ?_)
     exact fin _ (by first | rfl | assumption)
   | some g =>
    rw [hws] at hs hwd
    simp only at hwd
    obtain ⟨fid, hfid, hok⟩ := hwd
    refine Wd_R rfl (v := fnV fid) (h' := h4) (by simp only [iop, ev, upd, dstUpd, reduceIte, Nat.reduceEqDiff, hmg, keyOf, fit1, if_true, hfid, Bool.false_eq_true]) (fun q hq => by
     rw [List.mem_singleton] at hq
     subst hq
     exact .inl (by show (0 : Nat) ∈ [2, 1, 0]; decide)) ?_
    refine Wd_P rfl (v := fnV fid) (h' := h4) (by rfl) (Wd_nil ?_)
    show Wc T _ _ _
    by_cases k2' : t.kind = 2
    case neg =>
     have k2b : (t.kind == 2) = false := beq_eq_false_iff_ne.2 k2'
     refine Wc_seq (Wc_ops (Wo_run (fun _ => by simp only [go_sem, seval, hg4', Tok.cells, k2b]; rfl) ?_))
     show Wc T _ _ _
     refine Wc_cond false (by first | rfl | assumption) nofun (fun _ => Wc_skip ?_)
     exact ⟨rfl, k4', (by first | rfl | assumption), by rw [if_neg k2']⟩
    have k2b : (t.kind == 2) = true := beq_iff_eq.2 k2'
    rw [if_pos k2'] at hs
    simp only at hs
    refine Wc_seq (Wc_ops (Wo_run (fun _ => by simp only [go_sem, seval, hg4', Tok.cells, k2b, nilV, fnV, bne]; rfl) ?_))
    show Wc T _ _ _
    refine Wc_cond true (by first | rfl | assumption) (fun _ => ?_) nofun
    obtain ⟨tv', lv', nds', hgq, _⟩ := p4.rep
    have hset' : ([tv', Value.int .i64 st.i, lv'].set 1 (.int .i64 ((st.i + 1 : Nat) : Int))) = [tv', .int .i64 ((st.i + 1 : Nat) : Int), lv'] := rfl
    obtain ⟨pgo', fgo'⟩ := p4.go (i := st.i + 1) hgq
    have hg5 : (h4.set pb (.cells [tv', .int .i64 ((st.i + 1 : Nat) : Int), lv'] true 0)).get h2.next = some (.cells t.cells true 0) := by rw [set_get_ne' _ _ (by omega)]; exact hg4'
    refine Wc_seq (Wc_ops (Wo_pre 7 (fun _ => by simp only [go_sem, seval, hgq, hw]; rfl) ?_))
    refine Wo_op (iop_store_at (k := 1) (v := .int .i64 ((st.i + 1 : Nat) : Int)) (by first | rfl | assumption) (by simp only [ev, upd, dstUpd, reduceIte, Nat.reduceEqDiff]; rfl) hgq (by simp)) (Wo_nil ?_)
    show Wc T _ _ _
    rw [hset']
    generalize h4.set pb (.cells [tv', .int .i64 ((st.i + 1 : Nat) : Int), lv'] true 0) = h5 at pgo' fgo' hg5 ⊢
    have f05 := f04'.trans fgo'
    have hX5 : ∀ b, X b → b < h5.next := fun b hb => Nat.lt_of_lt_of_le (hX b hb) f05.next
    refine Wc_seq (Wc_ops (Wo_pre 4 (fun _ => by simp only [go_sem, seval, hg5, Tok.cells]; rfl) ?_))
    refine Wo_callv (c := .fn fid) (vs := [ptr pb 0, .int .i64 t.frm]) (by simp only [go_sem, seval, target, fnV] <;> first | rfl | assumption | (symm; assumption)) ((hok X _ h5 _ r pgo' hX5 hs).mono ?_)
    cases r with
    | err a er => rintro o h6 ⟨f6, rfl⟩; exact ⟨rfl, f05.trans f6, rfl⟩
    | ok n st' =>
     rintro o h6 ⟨f6, rfl, p6⟩
     show Wo T _ _ _
     refine (Wo_run (fun _ => by simp only [go_sem, seval]; rfl) ?_)
     exact Wc_ret ⟨rfl, [.int .i64 n], by simp only [resAll, resV, upd, dstUpd, reduceIte, Nat.reduceEqDiff], f05.trans f6, rfl, p6⟩
  rintro ⟨e', h', d⟩ ⟨hd, k3', e0, hnone⟩
  simp only at hd k3' e0
  rw [hd]
  rw [hnone] at hs
  simp only at hs
  have p' := p3.keep k3'
  have f0' : PFr pb h h' := (k3.trans k3').pfr pb
  have hX' : ∀ b, X b → b < h'.next := fun b hb => Nat.lt_of_lt_of_le (hX b hb) f0'.next
  refine Wc_seq (Wc_ops (Wo_pre 1 (fun _ => by simp only [go_sem, seval, e0]; rfl) ?_))
  rcases andS_some hs with ⟨a, er, h1', hr⟩ | ⟨e, st2, h1', hs⟩
  ·refine Wo_call ((hback X _ h' _ p' hX' h1').mono ?_)
   rintro o h6 ⟨f6, rfl⟩
   subst hr
   exact ⟨rfl, f0'.trans f6, rfl⟩
  refine Wo_call ((hback X _ h' _ p' hX' h1').mono ?_)
  rintro o h6 ⟨f6, rfl, p6⟩
  show Wo T _ _ _
  refine (Wo_run (fun _ => by simp only [go_sem, seval]; rfl) ?_)
  show Wc T _ _ _
  have f06 := f0'.trans f6
  cases ht2 : ts[st2.i]? with
  | none => rw [ht2] at hs; cases hs
  | some t2 =>
   cases hx : st2.l[e]? with
   | none => rw [ht2, hx] at hs; cases hs
   | some x =>
    rw [ht2, hx] at hs
    simp only at hs
    refine Wc_seq (Wc_ops (Wo_pre 1 (fun _ => by simp only [go_sem, seval, e0]; rfl) ?_))
    refine Wo_call (Wk_kept (now_ok F p6 ht2) fun h7 k7 => ?_)
    refine Wo_op (v := .int .i64 t2.frm) (h' := h7) rfl ?_
    refine (Wo_run (fun _ => by simp only [go_sem, seval]; rfl) ?_)
    show Wc T _ _ _
    have p7 := p6.keep k7
    have f07 := f06.trans (k7.pfr pb)
    have hX7 : ∀ b, X b → b < h7.next := fun b hb => Nat.lt_of_lt_of_le (hX b hb) f07.next
    obtain ⟨tv, bb, n, c, cs, hgp, hen, hgb, hck, hcp⟩ := p7.node hx
    refine Wc_mid (fun s' => s'.d = some [] ∧ PFr pb h s'.h ∧ Par pb ts X s'.h st2 ∧ s'.e 0 = .pointer (some ⟨pb, 0, none⟩) ∧ s'.e 5 = .int .i64 ((e : Nat) : Int) ∧ s'.e 6 = .int .i64 t2.frm ∧ (andS (wantS ts ⟨#[61]⟩ st2) fun _ st => andS (exprS num ts f st) fun g st => andS (wantS ts ⟨#[59]⟩ st) fun _ st => mkS 6 ⟨#[]⟩ t2.frm [(e : Int), (g : Int)] st) = some r) ?_ ?_
    ·have hck' : cs[e * 4 + 0]? = some (.int .i64 x.kind) := hck
     refine Wc_seq (Wc_ops (Wo_run (fun _ => by simp only [go_sem, seval, e0, hgp, idx_ok hen, hgb, hck]; rfl) ?_))
     show Wc T _ _ _
     refine Wc_block ?_
     by_cases k22 : x.kind = 22
     ·have kb : (x.kind == 22) = true := beq_iff_eq.2 k22
      rw [if_pos k22] at hs
      cases hk : takeS ts ⟨#[59]⟩ st2 with
      | none => rw [hk] at hs; cases hs
      | some q =>
       obtain ⟨w, st3⟩ := q
       rw [hk] at hs
       refine Wc_seq (Wc_ops (Wo_pre 4 (fun _ => by simp only [go_sem, seval, e0, kb]; rfl) ?_))
       refine Wo_take (by simp only [upd, dstUpd, reduceIte, Nat.reduceEqDiff, gval_bool]; rfl) (Wo_call ((take_ok F p7 hk).mono ?_))
       rintro o h8 ⟨f8, p8, rfl⟩
       show Wo T _ _ _
       have f08 := f07.trans f8
       have hX8 : ∀ b, X b → b < h8.next := fun b hb => Nat.lt_of_lt_of_le (hX b hb) f08.next
       refine (Wo_run (fun _ => by simp only [go_sem, seval]; rfl) ?_)
       show Wc T _ _ _
       cases w with
       | true =>
        simp only at hs
        have hst3 : st3.l = st2.l := by
         rw [takeS, ht2] at hk
         simp only [Option.map_some, Option.some.injEq] at hk
         split at hk <;> cases hk
         rfl
        obtain ⟨tv', bb', n', c', cs', hgp', hen', hgb', hck', hcp'⟩ := p8.node (by rw [hst3]; exact hx)
        refine Wc_cond true (by first | rfl | assumption) (fun _ => ?_) nofun
        refine Wc_seq (Wc_ops (Wo_pre 10 (fun _ => by simp only [go_sem, seval, e0, hgp', idx_ok hen', hgb', hcp']; rfl) ?_))
        refine Wo_new (v := .slice (some ⟨h8.next, 0, none⟩) 1 1) (B := .cells (ints64 [(e : Int)]) true 1) (by rfl) fun h9 n9 => ?_
        refine Wo_node F (p8.keep n9.kept) (f08.trans (n9.kept.pfr pb)) (lit_kids (kids := [(e : Int)]) (c := 1) hX8 n9) hs (by first | rfl | assumption) fun n st' h10 hr f10 p10 => ?_
        refine (Wo_run (fun _ => by simp only [go_sem, seval]; rfl) ?_)
        subst hr
        exact Wc_ret ⟨rfl, [.int .i64 n], by simp only [resAll, resV, upd, dstUpd, reduceIte, Nat.reduceEqDiff], f10, rfl, p10⟩
       | false =>
        simp only [Option.some.injEq] at hs
        have hst3 : st3 = st2 := by
         rw [takeS, ht2] at hk
         simp only [Option.map_some, Option.some.injEq] at hk
         split at hk <;> cases hk
         rfl
        subst hst3
        refine Wc_cond false (by first | rfl | assumption) nofun (fun _ => ?_)
        have b1 : (x.kind != 17) = true := by rw [k22]; rfl
        have b2 : (x.kind != 20) = true := by rw [k22]; rfl
        have b3 : (x.kind != 21) = true := by rw [k22]; rfl
        have b4 : (x.kind != 30) = true := by rw [k22]; rfl
        refine Wc_seq (Wc_ops (Wo_run (fun _ => by simp only [go_sem, seval, b1, b2, b3, b4]; rfl) ?_))
        show Wc T _ _ _
        refine Wc_cond true (by first | rfl | assumption) (fun _ => ?_) nofun
        refine Wc_ops (Wo_pre 1 (fun _ => by simp only [go_sem, seval, e0]; rfl) ?_)
        refine Wo_call ((fail_ok F p8 ht2).mono ?_)
        rintro o h9 ⟨k9, rfl⟩
        show To _ _ _
        subst hs
        exact ⟨rfl, f08.trans (k9.pfr pb), rfl⟩
     have kb : (x.kind == 22) = false := beq_eq_false_iff_ne.2 k22
     rw [if_neg k22] at hs
     refine Wc_seq (Wc_ops (Wo_run (fun _ => by simp only [go_sem, seval, kb]; rfl) ?_))
     show Wc T _ _ _
     refine Wc_cond false (by first | rfl | assumption) nofun (fun _ => ?_)
     refine Wc_mid (fun s' => s'.d = some [] ∧ s'.h = h7 ∧ s'.e 0 = .pointer (some ⟨pb, 0, none⟩) ∧ s'.e 5 = .int .i64 ((e : Nat) : Int) ∧ s'.e 6 = .int .i64 t2.frm ∧ s'.e 66 = .bool (!placeK x.kind)) ?_ ?_
     ·cases b1 : (x.kind == 17) <;> cases b2 : (x.kind == 20) <;> cases b3 : (x.kind == 21) <;> cases b4 : (x.kind == 30) <;> (refine Wc_ops (Wo_run (fun _ => by simp only [go_sem, seval, bne, b1, b2, b3, b4]; rfl) ?_); exact ⟨rfl, rfl, (by simp only [go_sem, seval, e0] <;> first | rfl | assumption | (symm; assumption)), (by first | rfl | assumption), (by first | rfl | assumption), by simp only [upd, dstUpd, reduceIte, Nat.reduceEqDiff, placeK, b1, b2, b3, b4]; rfl⟩)
     rintro ⟨e', h8, d⟩ ⟨hd, hh, e0, e5, e6, e66⟩
     simp only at hd hh e0 e5 e6 e66
     rw [hd, hh]
     cases hp : placeK x.kind
     ·rw [hp] at hs e66
      simp only [Bool.false_eq_true, if_false, Option.some.injEq] at hs
      refine Wc_cond true e66 (fun _ => ?_) nofun
      refine Wc_ops (Wo_pre 1 (fun _ => by simp only [go_sem, seval, e0]; rfl) ?_)
      refine Wo_call ((fail_ok F p7 ht2).mono ?_)
      rintro o h9 ⟨k9, rfl⟩
      show To _ _ _
      subst hs
      exact ⟨rfl, f07.trans (k9.pfr pb), rfl⟩
     ·rw [hp] at hs e66
      rw [if_pos rfl] at hs
      refine Wc_cond false e66 nofun (fun _ => Wc_skip ?_)
      exact ⟨rfl, f07, p7, e0, e5, e6, hs⟩
    rintro ⟨e', h8, d⟩ ⟨hd, f08, p8, e0, e5, e6, hs⟩
    simp only at hd f08 p8 e0 e5 e6
    rw [hd]
    refine Wc_seq (Wc_ops (Wo_pre 1 (fun _ => by simp only [go_sem, seval, e0]; rfl) ?_))
    rcases andS_some hs with ⟨a, er, h1', hr⟩ | ⟨u, st4, h1', hs⟩
    ·refine Wo_call ((want_ok F p8 h1').mono ?_)
     rintro o h9 ⟨f9, rfl⟩
     subst hr
     exact ⟨rfl, f08.trans f9, rfl⟩
    refine Wo_call ((want_ok F p8 h1').mono ?_)
    rintro o h9 ⟨f9, rfl, p9⟩
    show Wo T _ _ _
    refine Wo_nil ?_
    show Wc T _ _ _
    have f09 := f08.trans f9
    have hX9 : ∀ b, X b → b < h9.next := fun b hb => Nat.lt_of_lt_of_le (hX b hb) f09.next
    refine Wc_seq (Wc_ops (Wo_pre 1 (fun _ => by simp only [go_sem, seval, e0]; rfl) ?_))
    rcases andS_some hs with ⟨a, er, h1', hr⟩ | ⟨g, st5, h1', hs⟩
    ·refine Wo_call ((hex X _ h9 _ p9 hX9 h1').mono ?_)
     rintro o h10 ⟨f10, rfl⟩
     subst hr
     exact ⟨rfl, f09.trans f10, rfl⟩
    refine Wo_call ((hex X _ h9 _ p9 hX9 h1').mono ?_)
    rintro o h10 ⟨f10, rfl, p10⟩
    show Wo T _ _ _
    refine (Wo_run (fun _ => by simp only [go_sem, seval]; rfl) ?_)
    show Wc T _ _ _
    have f010 := f09.trans f10
    refine Wc_seq (Wc_ops (Wo_pre 1 (fun _ => by simp only [go_sem, seval, e0]; rfl) ?_))
    rcases andS_some hs with ⟨a, er, h1', hr⟩ | ⟨u, st6, h1', hs⟩
    ·refine Wo_call ((want_ok F p10 h1').mono ?_)
     rintro o h11 ⟨f11, rfl⟩
     subst hr
     exact ⟨rfl, f010.trans f11, rfl⟩
    refine Wo_call ((want_ok F p10 h1').mono ?_)
    rintro o h11 ⟨f11, rfl, p11⟩
    show Wo T _ _ _
    refine Wo_nil ?_
    show Wc T _ _ _
    have f011 := f010.trans f11
    have hX11 : ∀ b, X b → b < h11.next := fun b hb => Nat.lt_of_lt_of_le (hX b hb) f011.next
    refine Wc_seq (Wc_ops (Wo_pre 4 (fun _ => by simp only [go_sem, seval, e0, e5, e6]; rfl) ?_))
    refine Wo_new (v := .slice (some ⟨h11.next, 0, none⟩) 2 2) (B := .cells (ints64 [(e : Int), (g : Int)]) true 1) (by simp only [iop, evps, List.map_cons, List.map_nil, ev, upd, dstUpd, reduceIte, Nat.reduceEqDiff]; rfl) fun h12 n12 => ?_
    refine Wo_node F (p11.keep n12.kept) (f011.trans (n12.kept.pfr pb)) (lit_kids (kids := [(e : Int), (g : Int)]) (c := 2) hX11 n12) hs (by simp only [go_sem, seval, List.map_cons, List.map_nil, ev] <;> first | rfl | assumption | (symm; assumption)) fun n st' h13 hr f13 p13 => ?_
    refine (Wo_run (fun _ => by simp only [go_sem, seval]; rfl) ?_)
    subst hr
    exact Wc_ret ⟨rfl, [.int .i64 n], by simp only [resAll, resV, upd, dstUpd, reduceIte, Nat.reduceEqDiff], f13, rfl, p13⟩
end Go.Idl
end

section
namespace Go.Idl
variable {T : Tbl} {X : Nat → Prop}
structure StFns (T : Tbl) : Prop where
 ex : ExpFns T
 words : StmtFns T
 stmt : T.fn 57 = some C57
 block : T.fn 37 = some C37
theorem stmt_all (F : StFns T) {num : Int → ByteArray} {pb : Nat} {ts : List Tok} (hnum : ∀ t ∈ ts, ∀ (h : Heap) (K : Out → Heap → Prop), K (.ret (.string (num t.num))) h → Wk T (.fn 82) [.int .i64 t.num, .int .i64 10] h K) : ∀ f g, g ≤ f → OneOk T pb ts 57 (stmtS num ts g) ∧ OneOk T pb ts 37 (blockS num ts g) := by
 intro f
 induction f with
 | zero =>
  intro g hg
  obtain rfl : g = 0 := by omega
  refine ⟨?_, ?_⟩
  ·intro X st h r p hX hs
   rw [stmtS] at hs; cases hs
  ·intro X st h r p hX hs
   rw [blockS] at hs; cases hs
 | succ f ih =>
  intro g hg
  rcases Nat.lt_or_eq_of_le hg with hg | rfl
  ·exact ih g (by omega)
  ·have e := exp_all F.ex (pb := pb) hnum f f (Nat.le_refl _)
   exact ⟨stmt_step F.ex.p1 F.words F.stmt e.expr e.back (ih f (Nat.le_refl _)).2, block_step F.ex.p1 F.block fun g hg => (ih g hg).1⟩
end Go.Idl
end

section
namespace Go.Idl
variable {T : Tbl} {X : Nat → Prop}
def recS (ts : List Tok) (f : Nat) (st : PSt) : Option (PR Nat) := andS (nameS ts st) fun t st => andS (wantS ts ⟨#[123]⟩ st) fun _ st => andS (listS ts ⟨#[125]⟩ (namedS ts) f st) fun kids st => mkS 2 t.text t.frm kids st
def fnS (ts : List Tok) (bl : PSt → Option (PR Nat)) (f : Nat) (st : PSt) : Option (PR Nat) := andS (wantS ts ⟨#[102, 110]⟩ st) fun _ st => andS (nameS ts st) fun t st => andS (wantS ts ⟨#[40]⟩ st) fun _ st => andS (listS ts ⟨#[41]⟩ (namedS ts) f st) fun kids st => if 1000000 < kids.length then none else andS (bl st) fun b st => mkS 3 t.text t.frm (kids ++ [(b : Int)]) st
def declS (ts : List Tok) (bl : PSt → Option (PR Nat)) (f : Nat) (st : PSt) : Option (PR Nat) := match takeS ts ⟨#[114, 101, 99]⟩ st with
 | none => none
 | some (true, st) => recS ts f st
 | some (false, st) => fnS ts bl f st
theorem decl_ok (F : Par1 T) (hL : T.fn 35 = some C35) (hN : T.fn 36 = some C36) (hT : T.fn 19 = some C19) {pb : Nat} {ts : List Tok} {bl : PSt → Option (PR Nat)} (hbl : OneOk T pb ts 37 bl) {f : Nat} : OneOk T pb ts 19 (declS ts bl f) := by
 intro X st h r p hX hs
 rw [declS] at hs
 refine Wk_fn2 hT (by simp [C19]) ?_
 simp only [C19]
 refine Wc_seq (Wc_ops (Wo_run (fun _ => by simp only [go_sem, seval]; rfl) ?_))
 show Wc T _ _ _
 cases hk : takeS ts ⟨#[114, 101, 99]⟩ st with
 | none => rw [hk] at hs; cases hs
 | some q =>
  obtain ⟨w, st1⟩ := q
  rw [hk] at hs
  refine Wc_seq (Wc_seq (Wc_ops (Wo_pre 1 (fun _ => by simp only [go_sem, seval]; rfl) ?_)))
  refine Wo_call ((take_ok F p hk).mono ?_)
  rintro o h1 ⟨f1, p1, rfl⟩
  show Wo T _ _ _
  refine Wo_nil ?_
  show Wc T _ _ _
  cases w with
  | true =>
   simp only [recS] at hs
   refine Wc_cond true (by first | rfl | assumption) (fun _ => ?_) nofun
   refine Wc_seq (Wc_ops (Wo_pre 1 (fun _ => by simp only [go_sem, seval]; rfl) ?_))
   rcases andS_some hs with ⟨a, er, h1', rfl⟩ | ⟨t, st2, h1', hs⟩
   ·refine Wo_call ((name_ok F p1 h1').mono ?_)
    rintro o h2 ⟨f2, rfl⟩
    exact ⟨rfl, f1.trans f2, rfl⟩
   refine Wo_call ((name_ok F p1 h1').mono ?_)
   rintro o h2 ⟨f2, rfl, p2⟩
   show Wo T _ _ _
   refine Wo_op (v := ptr h2.next 0) (h' := h2.new (.cells z5 true 0)) rfl ?_
   refine Wo_store_new (cs := t.cells) (h := h2) (by first | rfl | assumption) (by first | rfl | assumption) rfl rfl fun h3 n3 => Wo_nil ?_
   show Wc T _ _ _
   have p3 := p2.keep n3.kept
   have f03 := (f1.trans f2).trans (n3.kept.pfr pb)
   have hg3 := n3.get
   have hlt3 : h2.next < h3.next := by rw [n3.next]; exact Nat.lt_succ_self _
   have hpb2 := p2.lt
   have no4 : ∀ cs, h3.get h2.next ≠ some (.cells cs true 4) := fun cs e => by rw [hg3] at e; simp at e
   refine Wc_seq (Wc_ops (Wo_pre 1 (fun _ => by simp only [go_sem, seval]; rfl) ?_))
   rcases andS_some hs with ⟨a, er, h1', rfl⟩ | ⟨u, st3, h1', hs⟩
   ·refine Wo_call ((want_ok F p3 h1').mono ?_)
    rintro o h4 ⟨f4, rfl⟩
    exact ⟨rfl, f03.trans f4, rfl⟩
   refine Wo_call ((want_ok F p3 h1').mono ?_)
   rintro o h4 ⟨f4, rfl, p4⟩
   show Wo T _ _ _
   refine Wo_nil ?_
   show Wc T _ _ _
   have f04 := f03.trans f4
   have hX4 : ∀ b, X b → b < h4.next := fun b hb => Nat.lt_of_lt_of_le (hX b hb) f04.next
   refine Wc_seq (Wc_ops (Wo_pre 1 (fun _ => by simp only [go_sem, seval]; rfl) ?_))
   rcases andS_some hs with ⟨a, er, h1', rfl⟩ | ⟨kids, st4, h1', hs⟩
   ·refine Wo_call ((list_ok F hL p4 hX4 (named_ok F hN) h1').mono ?_)
    rintro o h5 ⟨f5, rfl⟩
    exact ⟨rfl, f04.trans f5, rfl⟩
   refine Wo_call ((list_ok F hL p4 hX4 (named_ok F hN) h1').mono ?_)
   rintro o h5 ⟨f5, kv, rfl, o5, p5⟩
   show Wo T _ _ _
   refine (Wo_run (fun _ => by simp only [go_sem, seval]; rfl) ?_)
   show Wc T _ _ _
   have hg5 : h5.get h2.next = some (.cells t.cells true 0) := by rw [(f4.trans f5).get _ hlt3 (by omega) no4]; exact hg3
   refine Wc_seq (Wc_ops (Wo_pre 6 (fun _ => by simp only [go_sem, seval, hg5, Tok.cells]; rfl) ?_))
   refine Wo_node F (p5.weaken fun b hb => .inl hb) (f04.trans f5) (o5.kids (h0 := h) hX4) hs rfl fun n st' h7 hr f7 p7 => ?_
   refine (Wo_run (fun _ => by simp only [go_sem, seval]; rfl) ?_)
   subst hr
   exact Wc_ret ⟨rfl, [.int .i64 n], by simp only [resAll, resV, upd, dstUpd, reduceIte, Nat.reduceEqDiff], f7, rfl, p7⟩
  | false =>
   simp only [fnS] at hs
   refine Wc_cond false (by first | rfl | assumption) nofun (fun _ => Wc_skip ?_)
   show Wc T _ _ _
   refine Wc_seq (Wc_ops (Wo_pre 1 (fun _ => by simp only [go_sem, seval]; rfl) ?_))
   rcases andS_some hs with ⟨a, er, h1', rfl⟩ | ⟨u, st2, h1', hs⟩
   ·refine Wo_call ((want_ok F p1 h1').mono ?_)
    rintro o h2 ⟨f2, rfl⟩
    exact ⟨rfl, f1.trans f2, rfl⟩
   refine Wo_call ((want_ok F p1 h1').mono ?_)
   rintro o h2 ⟨f2, rfl, p2⟩
   show Wo T _ _ _
   refine Wo_nil ?_
   show Wc T _ _ _
   have f02 := f1.trans f2
   refine Wc_seq (Wc_ops (Wo_pre 1 (fun _ => by simp only [go_sem, seval]; rfl) ?_))
   rcases andS_some hs with ⟨a, er, h1', rfl⟩ | ⟨t, st3, h1', hs⟩
   ·refine Wo_call ((name_ok F p2 h1').mono ?_)
    rintro o h3 ⟨f3, rfl⟩
    exact ⟨rfl, f02.trans f3, rfl⟩
   refine Wo_call ((name_ok F p2 h1').mono ?_)
   rintro o h3 ⟨f3, rfl, p3⟩
   show Wo T _ _ _
   refine Wo_op (v := ptr h3.next 0) (h' := h3.new (.cells z5 true 0)) rfl ?_
   refine Wo_store_new (cs := t.cells) (h := h3) (by first | rfl | assumption) (by first | rfl | assumption) rfl rfl fun h4 n4 => Wo_nil ?_
   show Wc T _ _ _
   have p4 := p3.keep n4.kept
   have f04 := (f02.trans f3).trans (n4.kept.pfr pb)
   have hg4 := n4.get
   have hlt4 : h3.next < h4.next := by rw [n4.next]; exact Nat.lt_succ_self _
   have hpb3 := p3.lt
   have no4 : ∀ cs, h4.get h3.next ≠ some (.cells cs true 4) := fun cs e => by rw [hg4] at e; simp at e
   refine Wc_seq (Wc_ops (Wo_pre 1 (fun _ => by simp only [go_sem, seval]; rfl) ?_))
   rcases andS_some hs with ⟨a, er, h1', rfl⟩ | ⟨u, st4, h1', hs⟩
   ·refine Wo_call ((want_ok F p4 h1').mono ?_)
    rintro o h5 ⟨f5, rfl⟩
    exact ⟨rfl, f04.trans f5, rfl⟩
   refine Wo_call ((want_ok F p4 h1').mono ?_)
   rintro o h5 ⟨f5, rfl, p5⟩
   show Wo T _ _ _
   refine Wo_nil ?_
   show Wc T _ _ _
   have f05 := f04.trans f5
   have hX5 : ∀ b, X b → b < h5.next := fun b hb => Nat.lt_of_lt_of_le (hX b hb) f05.next
   refine Wc_seq (Wc_ops (Wo_pre 1 (fun _ => by simp only [go_sem, seval]; rfl) ?_))
   rcases andS_some hs with ⟨a, er, h1', rfl⟩ | ⟨kids, st5, h1', hs⟩
   ·refine Wo_call ((list_ok F hL p5 hX5 (named_ok F hN) h1').mono ?_)
    rintro o h6 ⟨f6, rfl⟩
    exact ⟨rfl, f05.trans f6, rfl⟩
   refine Wo_call ((list_ok F hL p5 hX5 (named_ok F hN) h1').mono ?_)
   rintro o h6 ⟨f6, kv, rfl, o6, p6⟩
   show Wo T _ _ _
   refine (Wo_run (fun _ => by simp only [go_sem, seval]; rfl) ?_)
   show Wc T _ _ _
   by_cases hkl : 1000000 < kids.length
   ·rw [if_pos hkl] at hs; cases hs
   rw [if_neg hkl] at hs
   have f06 := f05.trans f6
   have hX6 := XO_lt (fun b hb => Nat.lt_of_lt_of_le (hX b hb) f06.next) o6
   refine Wc_seq (Wc_ops (Wo_pre 2 (fun _ => by simp only [go_sem, seval]; rfl) ?_))
   rcases andS_some hs with ⟨a, er, h1', rfl⟩ | ⟨b, st6, h1', hs⟩
   ·refine Wo_call ((hbl _ _ h6 _ p6 hX6 h1').mono ?_)
    rintro o h7 ⟨f7, rfl⟩
    exact ⟨rfl, f06.trans f7, rfl⟩
   refine Wo_call ((hbl _ _ h6 _ p6 hX6 h1').mono ?_)
   rintro o h7 ⟨f7, rfl, p7⟩
   show Wo T _ _ _
   have o7 := o6.pfr p6 f7
   have f57 := f6.trans f7
   refine Wo_new (v := .slice (some ⟨h7.next, 0, none⟩) 1 1) (B := .cells [.int .i64 (b : Int)] true 1) (by rfl) fun h8 n8 => ?_
   obtain ⟨v', h9, ha, o9, p9, f9⟩ := list_add (b : Int) p7 o7 f57 (Nat.le_refl _) f57.next (by omega) n8
   refine Wo_op (v := v') (h' := h9) (by simp only [iop, ev, upd, dstUpd, reduceIte, Nat.reduceEqDiff]; exact ha) ?_
   refine (Wo_run (fun _ => by simp only [go_sem, seval]; rfl) ?_)
   show Wc T _ _ _
   have hg9 : h9.get h3.next = some (.cells t.cells true 0) := by rw [(f5.trans f9).get _ hlt4 (by omega) no4]; exact hg4
   refine Wc_seq (Wc_ops (Wo_pre 6 (fun _ => by simp only [go_sem, seval, hg9, Tok.cells]; rfl) ?_))
   refine Wo_node F (p9.weaken fun b hb => .inl hb) (f05.trans f9) (o9.kids (h0 := h) hX5) hs rfl fun n st' h10 hr f10 p10 => ?_
   refine (Wo_run (fun _ => by simp only [go_sem, seval]; rfl) ?_)
   subst hr
   exact Wc_ret ⟨rfl, [.int .i64 n], by simp only [resAll, resV, upd, dstUpd, reduceIte, Nat.reduceEqDiff], f10, rfl, p10⟩
end Go.Idl
end

section
namespace Go.Idl
variable {T : Tbl} {X : Nat → Prop}
def opnB (s : ByteArray) : Bool := decide (s = ⟨#[40]⟩) || decide (s = ⟨#[91]⟩) || decide (s = ⟨#[123]⟩)
def clsB (s : ByteArray) : Bool := decide (s = ⟨#[41]⟩) || decide (s = ⟨#[93]⟩) || decide (s = ⟨#[125]⟩)
def nestL : List Tok → Nat → Option Nat
 | [], _ => none
 | t :: r, o => if t.kind = 3 then (if opnB t.text then (if 150 < o + 1 then some t.frm else nestL r (o + 1)) else if clsB t.text then nestL r (o - 1) else nestL r o) else nestL r o
theorem nested_ok (hT : T.fn 17 = some C17) {h : Heap} {v : Value} {ts : List Tok} {n0 : Nat} (hv : ownL Tok.cells 5 n0 h v ts) (hts : ts.length < 4611686018427387904) :
 Wk T (.fn 17) [v] h (fun o h' => Kept h h' ∧ match nestL ts 0 with
  | none => o = .ret (tup [])
  | some a => o = .pan (.iface 44 (.agg #[.int .i64 a, .int .i64 51]))) := by
 obtain ⟨va, vc, hvl⟩ := hv.len
 refine Wk_fn2 hT (by simp [C17]) ?_
 simp only [C17]
 refine Wc_seq (Wc_ops (Wo_run (fun _ => by simp only [go_sem, seval]; rfl) ?_))
 show Wc T _ _ _
 refine Wc_seq (Wc_ops (Wo_run (fun _ => by simp only [go_sem, seval, hvl]; rfl) ?_))
 show Wc T _ _ _
 refine Wc_range ts.length (fun j e h' d => d = some [] ∧ Kept h h' ∧ ∃ o : Nat, o ≤ 150 ∧ e 2 = .int .i64 o ∧ nestL (ts.drop j) o = nestL ts 0) (by decide) (by first | rfl | assumption) (by first | rfl | assumption) (by omega) (by decide) ⟨rfl, .refl _, 0, by omega, (by first | rfl | assumption), rfl⟩ ?_ ?_
 ·rintro j e h' d hj ⟨rfl, hk, o, ho, e2, hn⟩ hfr h7 h6
  obtain ⟨t, ht⟩ : ∃ t, ts[j]? = some t := ⟨_, List.getElem?_eq_getElem hj⟩
  have hdr : ts.drop j = t :: ts.drop (j + 1) := by
   obtain ⟨hl, ht⟩ := List.getElem?_eq_some_iff.1 ht
   rw [List.drop_eq_getElem_cons hl, ht]
  rw [hdr, nestL] at hn
  obtain ⟨b, c, hvb, hb0, hb, hgb, hcell⟩ := (hv.kept hk).load tok_len ht
  have e5 : e 5 = v := ((hfr 5 (by decide)).trans (by first | rfl | assumption | (symm; assumption)))
  refine Wc_seq (Wc_ops (Wo_pre 3 (fun _ => by simp only [go_sem, seval, h7, e5, hvb, idx_ok hj, hcell]; rfl) ?_))
  refine Wo_store_new (cs := t.cells) (h := h') (by first | rfl | assumption) (by first | rfl | assumption) rfl rfl fun h2 n2 => Wo_nil ?_
  show Wc T _ _ _
  have k2 := hk.trans n2.kept
  have hg2 := n2.get
  by_cases k3 : t.kind = 3
  case neg =>
   have kb : (t.kind != 3) = true := by simp [k3]
   rw [if_neg k3] at hn
   refine Wc_seq (Wc_seq (Wc_ops (Wo_run (fun _ => by simp only [go_sem, seval, hg2, Tok.cells, kb]; rfl) ?_)))
   show Wc T _ _ _
   refine Wc_cond true (by first | rfl | assumption) (fun _ => Wc_exit ?_) nofun
   exact ⟨rfl, k2, o, ho, (by simp only [go_sem, seval, e2] <;> first | rfl | assumption | (symm; assumption)), hn⟩
  have kb : (t.kind != 3) = false := by simp [k3]
  rw [if_pos k3] at hn
  refine Wc_seq (Wc_seq (Wc_ops (Wo_run (fun _ => by simp only [go_sem, seval, hg2, Tok.cells, kb]; rfl) ?_)))
  show Wc T _ _ _
  refine Wc_cond false (by first | rfl | assumption) nofun (fun _ => Wc_skip ?_)
  show Wc T _ _ _
  refine Wc_seq (Wc_ops (Wo_run (fun _ => by simp only [go_sem, seval, hg2, Tok.cells]; rfl) ?_))
  show Wc T _ _ _
  refine Wc_block ?_
  have hw1 : IntKind.i64.wrap (((o : Nat) : Int) + 1) = ((o + 1 : Nat) : Int) := by rw [wrap64] <;> omega
  have hw2 : IntKind.i64.wrap (((o : Nat) : Int) - 1) = ((o : Nat) : Int) - 1 := wrap64 (by omega) (by omega)
  refine Wc_mid (fun s' => s'.d = some [] ∧ s'.h = h2 ∧ s'.e 2 = .int .i64 ((o : Nat) : Int) ∧ s'.e 4 = .pointer (some ⟨h'.next, 0, none⟩) ∧ s'.e 15 = .string t.text ∧ s'.e 16 = .bool (opnB t.text)) ?_ ?_
  ·cases a1 : decide (t.text = ⟨#[40]⟩)
   ·refine Wc_seq (Wc_ops (Wo_run (fun _ => by simp only [go_sem, seval, a1]; rfl) ?_))
    refine Wc_cond false (by first | rfl | assumption) nofun (fun _ => ?_)
    cases a2 : decide (t.text = ⟨#[91]⟩)
    ·refine Wc_seq (Wc_ops (Wo_run (fun _ => by simp only [go_sem, seval, a2]; rfl) ?_))
     refine Wc_cond false (by first | rfl | assumption) nofun (fun _ => ?_)
     refine Wc_ops (Wo_run (fun _ => by simp only [go_sem, seval]; rfl) ?_)
     exact ⟨rfl, rfl, (by simp only [go_sem, seval, e2] <;> first | rfl | assumption | (symm; assumption)), (by first | rfl | assumption), (by first | rfl | assumption), by simp only [upd, dstUpd, reduceIte, Nat.reduceEqDiff, opnB, a1, a2, Bool.false_or]⟩
    ·refine Wc_seq (Wc_ops (Wo_run (fun _ => by simp only [go_sem, seval, a2]; rfl) ?_))
     refine Wc_cond true (by first | rfl | assumption) (fun _ => Wc_skip ?_) nofun
     exact ⟨rfl, rfl, (by simp only [go_sem, seval, e2] <;> first | rfl | assumption | (symm; assumption)), (by first | rfl | assumption), (by first | rfl | assumption), by simp only [upd, dstUpd, reduceIte, Nat.reduceEqDiff, opnB, a1, a2]; rfl⟩
   ·refine Wc_seq (Wc_ops (Wo_run (fun _ => by simp only [go_sem, seval, a1]; rfl) ?_))
    refine Wc_cond true (by first | rfl | assumption) (fun _ => Wc_skip ?_) nofun
    exact ⟨rfl, rfl, (by simp only [go_sem, seval, e2] <;> first | rfl | assumption | (symm; assumption)), (by first | rfl | assumption), (by first | rfl | assumption), by simp only [upd, dstUpd, reduceIte, Nat.reduceEqDiff, opnB, a1]; rfl⟩
  rintro ⟨e', h3, d⟩ ⟨hd, hh, f2, f4, f15, f16⟩
  simp only at hd hh f2 f4 f15 f16
  rw [hd, hh]
  refine Wc_cond _ f16 (fun yo => ?_) (fun no => ?_)
  ·rw [if_pos yo] at hn
   refine Wc_seq (Wc_ops (Wo_run (fun _ => by simp only [go_sem, seval, f2, hw1]; rfl) ?_))
   show Wc T _ _ _
   by_cases hbig : 150 < o + 1
   ·rw [if_pos hbig] at hn
    have hb1 : (150 : Int) < ((o + 1 : Nat) : Int) := by omega
    refine Wc_seq (Wc_ops (Wo_run (fun _ => by simp only [go_sem, seval, hb1]; rfl) ?_))
    show Wc T _ _ _
    refine Wc_cond true (by first | rfl | assumption) (fun _ => ?_) nofun
    refine Wc_ops (Wo_pre 2 (fun _ => by simp only [go_sem, seval, f4, hg2, Tok.cells]; rfl) ?_)
    refine Wo_op (v := .agg #[.int .i64 t.frm, .int .i64 51]) (h' := h2) (by rfl) ?_
    refine Wo_op (v := .iface 44 (.agg #[.int .i64 t.frm, .int .i64 51])) (h' := h2) (by rfl) ?_
    refine Wo_panic (t := 44) (v := .agg #[.int .i64 t.frm, .int .i64 51]) (by first | rfl | assumption) ?_
    exact ⟨rfl, k2, by rw [← hn]⟩
   ·rw [if_neg hbig] at hn
    have hb1 : ¬ (150 : Int) < ((o + 1 : Nat) : Int) := by omega
    refine Wc_seq (Wc_ops (Wo_run (fun _ => by simp only [go_sem, seval, hb1]; rfl) ?_))
    show Wc T _ _ _
    refine Wc_cond false (by first | rfl | assumption) nofun (fun _ => Wc_skip ?_)
    exact ⟨rfl, k2, o + 1, by omega, (by first | rfl | assumption), hn⟩
  rw [no] at hn
  simp only [Bool.false_eq_true, if_false] at hn
  refine Wc_mid (fun s' => s'.d = some [] ∧ s'.h = h2 ∧ s'.e 2 = .int .i64 ((o : Nat) : Int) ∧ s'.e 28 = .bool (clsB t.text)) ?_ ?_
  ·cases a1 : decide (t.text = ⟨#[41]⟩)
   ·refine Wc_seq (Wc_ops (Wo_run (fun _ => by simp only [go_sem, seval, f15, a1]; rfl) ?_))
    refine Wc_cond false (by first | rfl | assumption) nofun (fun _ => ?_)
    cases a2 : decide (t.text = ⟨#[93]⟩)
    ·refine Wc_seq (Wc_ops (Wo_run (fun _ => by simp only [go_sem, seval, f15, a2]; rfl) ?_))
     refine Wc_cond false (by first | rfl | assumption) nofun (fun _ => ?_)
     refine Wc_ops (Wo_run (fun _ => by simp only [go_sem, seval, f15]; rfl) ?_)
     exact ⟨rfl, rfl, (by simp only [go_sem, seval, f2] <;> first | rfl | assumption | (symm; assumption)), by simp only [upd, dstUpd, reduceIte, Nat.reduceEqDiff, clsB, a1, a2, Bool.false_or]⟩
    ·refine Wc_seq (Wc_ops (Wo_run (fun _ => by simp only [go_sem, seval, f15, a2]; rfl) ?_))
     refine Wc_cond true (by first | rfl | assumption) (fun _ => Wc_skip ?_) nofun
     exact ⟨rfl, rfl, (by simp only [go_sem, seval, f2] <;> first | rfl | assumption | (symm; assumption)), by simp only [upd, dstUpd, reduceIte, Nat.reduceEqDiff, clsB, a1, a2]; rfl⟩
   ·refine Wc_seq (Wc_ops (Wo_run (fun _ => by simp only [go_sem, seval, f15, a1]; rfl) ?_))
    refine Wc_cond true (by first | rfl | assumption) (fun _ => Wc_skip ?_) nofun
    exact ⟨rfl, rfl, (by simp only [go_sem, seval, f2] <;> first | rfl | assumption | (symm; assumption)), by simp only [upd, dstUpd, reduceIte, Nat.reduceEqDiff, clsB, a1]; rfl⟩
  rintro ⟨e'', h4, d⟩ ⟨hd, hh, g2, g28⟩
  simp only at hd hh g2 g28
  rw [hd, hh]
  refine Wc_cond _ g28 (fun yc => ?_) (fun nc => Wc_skip ?_)
  ·rw [if_pos yc] at hn
   have hmax : (if (0 : Int) > ((o : Nat) : Int) - 1 then Value.int .i64 0 else .int .i64 (((o : Nat) : Int) - 1)) = .int .i64 ((o - 1 : Nat) : Int) := by
    split
    ·congr 1; omega
    ·congr 1; omega
   refine Wc_ops (Wo_pre 2 (fun _ => by simp only [go_sem, seval, g2, hw2]; rfl) ?_)
   refine Wo_op (v := .int .i64 ((o - 1 : Nat) : Int)) (h' := h2) (by
    simp only [iop, ev, upd, dstUpd, reduceIte, Nat.reduceEqDiff]
    rw [← hmax]
    split <;> rfl) ?_
   refine (Wo_run (fun _ => by simp only [go_sem, seval]; rfl) ?_)
   exact ⟨rfl, k2, o - 1, by omega, (by first | rfl | assumption), hn⟩
  ·rw [nc] at hn
   simp only [Bool.false_eq_true, if_false] at hn
   exact ⟨rfl, k2, o, ho, g2, hn⟩
 ·rintro e h' d ⟨rfl, hk, o, ho, e2, hn⟩ hfr h7
  rw [List.drop_length, nestL] at hn
  exact ⟨rfl, [], rfl, hk, by rw [← hn]⟩
end Go.Idl
end

section
namespace Go.Idl
variable {T : Tbl} {X : Nat → Prop}
def PN.nd (x : PN) : Nd := ⟨x.kind, x.text, x.kids, .slice none 0 0, x.pos⟩
inductive PO where
 | ok (l : List PN)
 | err (at' : Nat) (e : Int)
def declsS (num : Int → ByteArray) (ts : List Tok) (F : Nat) : Nat → List Int → PSt → Option (PR (List Int))
 | 0, _, _ => none
 | f + 1, acc, st => if 1000000 < acc.length then none else match ts[st.i]? with
  | none => none
  | some t => if t.kind = 0 then some (.ok acc st) else andS (declS ts (blockS num ts F) F st) fun k st => declsS num ts F f (acc ++ [(k : Int)]) st
def treeS (num : Int → ByteArray) (f : Nat) (ts : List Tok) : Option PO := match declsS num ts f f [] ⟨0, []⟩ with
 | none => none
 | some (.err a e) => some (.err a e)
 | some (.ok kids st) => match nodeS 1 ⟨#[]⟩ 0 kids st with
  | none => none
  | some (_, st) => if 50000 < st.l.length then some (.err 0 2) else if st.l.all (fun x => decide (x.kids.length ≤ 100000)) then (if 200 < deepOf (st.l.map PN.nd) then some (.err 0 51) else some (.ok st.l)) else none
def progS (num : Int → ByteArray) (f : Nat) (s : ByteArray) : Option PO :=
 if (scanS s).2.2 = 0 then match nestL (scanS s).1 0 with
  | some a => some (.err a 51)
  | none => treeS num f (scanS s).1
 else some (.err (scanS s).2.1 (scanS s).2.2)
theorem scanL_len : ∀ (f : Nat) (l : List UInt8) (a : Nat) (acc : List Tok), (scanL f l a acc).1.length ≤ acc.length + f
 | 0, _, _, acc => by simp [scanL]
 | f + 1, l, a, acc => by
  simp only [scanL]
  split
  ·split
   ·simp
   ·have := scanL_len f (l.drop ((nextL l a).2.2 - a)) (nextL l a).2.2 (acc ++ [(nextL l a).1])
    rw [List.length_append, List.length_singleton] at this
    omega
  ·simp
theorem scanS_len (s : ByteArray) : (scanS s).1.length ≤ 200001 := by
 rw [scanS]
 split
 ·simp
 ·have := scanL_len (s.size + 1) (bs s) 0 []
  simp only [List.length_nil] at this
  omega
theorem flatN_eq : ∀ l : List Nd, l.flatMap Nd.cells = flatN l
 | [] => rfl
 | x :: l => by rw [List.flatMap_cons, flatN_eq l]; rfl
theorem nodes_of_own {n0 : Nat} {h : Heap} {v : Value} {nds : List Nd} (h3 : ownL Nd.cells 4 n0 h v nds) (h4 : ∀ x ∈ nds, kidsAt X h x.kv x.kids) : nodesAt h v nds := by
 refine ⟨?_, fun x hx => ?_⟩
 ·rcases h3 with ⟨rfl, rfl⟩ | ⟨b, _, e2, e3, e4⟩
  ·exact .inl ⟨rfl, rfl⟩
  ·exact .inr ⟨b, _, e3, e2, .inr ⟨_, _, by rw [← flatN_eq]; exact e4⟩⟩
 ·rcases h4 x hx with ⟨e1, e2⟩ | ⟨b, c, e1, e2, e3, _⟩
  ·exact .inl ⟨e1, e2⟩
  ·exact .inr ⟨b, c, e1, e2, .inr ⟨_, _, e3⟩⟩
theorem PFr.kept {pb : Nat} {h0 h h' : Heap} (k : Kept h0 h) (f : PFr pb h h') (hp : h0.next ≤ pb) : Kept h0 h' := ⟨Nat.le_trans k.next f.next, fun b hb => by
 rw [f.get' b (Nat.lt_of_lt_of_le hb k.next) (by omega) (fun hl => by omega), k.get b hb]⟩
theorem depsN_kids {l m : List Nd} (h : l.map Nd.kids = m.map Nd.kids) : ∀ n, depsN l n = depsN m n
 | 0 => rfl
 | n + 1 => by
  have hk : kidsOf l n = kidsOf m n := by
   have := congrArg (·[n]?) h
   simp only [List.getElem?_map] at this
   simp only [kidsOf, this]
  simp only [depsN, depsN_kids h n, hk]
theorem deepOf_kids {l m : List Nd} (h : l.map Nd.kids = m.map Nd.kids) : deepOf l = deepOf m := by
 have hl : l.length = m.length := by simpa using congrArg List.length h
 rw [deepOf, deepOf, depsN_kids h, hl]
theorem deepOf_pn (l : List Nd) : deepOf ((l.map Nd.pn).map PN.nd) = deepOf l := deepOf_kids (by rw [List.map_map, List.map_map]; rfl)
structure ProgFns (T : Tbl) : Prop where
 st : StFns T
 decl : T.fn 19 = some C19
 nested : T.fn 17 = some C17
 program : T.fn 12 = some C12
 lex : LexFns T
 scan : T.fn 16 = some C16
 classes : ∀ (h : Heap) (K : Out → Heap → Prop), K (.ret clsV) h → Wk T (.fn 30) [] h K
 deep : T.fn 21 = some C21
def PPostO (h : Heap) : PO → Out → Heap → Prop
 | .ok l, o, h' => Kept h h' ∧ ∃ v nds, o = .ret v ∧ ownL Nd.cells 4 h.next h' v nds ∧ (∀ x ∈ nds, kidsAt (fun _ => False) h' x.kv x.kids) ∧ nds.map Nd.pn = l
 | .err a e, o, h' => Kept h h' ∧ o = .pan (.iface 44 (.agg #[.int .i64 a, .int .i64 e]))
theorem decls_loop (F : ProgFns T) {num : Int → ByteArray} {pb : Nat} {ts : List Tok} {h : Heap} {f : Nat} {r : PO} (hd : OneOk T pb ts 19 (declS ts (blockS num ts f) f)) (h0 : Heap) (k0 : Kept h0 h) (hpb : h0.next ≤ pb) :
 ∀ (g : Nat) (ev' : Env) (h5 : Heap) (acc : List Int) (st2 : PSt) (q : PR (List Int)), declsS num ts f g acc st2 = some q → (∀ a er, q = .err a er → r = .err a er) → ev' 6 = .pointer (some ⟨pb, 0, none⟩) → PFr pb h h5 → ownI h.next h5 (ev' 7) acc → Par pb ts (XO (fun _ => False) (ev' 7)) h5 st2 →
  Wc T (.loop C12L0) ⟨ev', h5, some []⟩ (Tb 0 fun x s' => match x with
   | .normal => s'.d = some [] ∧ s'.e 6 = .pointer (some ⟨pb, 0, none⟩) ∧ ∃ kids st', q = .ok kids st' ∧ PFr pb h s'.h ∧ ownI h.next s'.h (s'.e 7) kids ∧ Par pb ts (XO (fun _ => False) (s'.e 7)) s'.h st'
   | .pan v => s'.d = some [] ∧ PPostO h0 r (.pan v) s'.h
   | _ => False) := by
 intro g
 induction g with
 | zero => intro ev' h5 acc st2 q hm; rw [declsS] at hm; cases hm
 | succ g ih =>
  intro ev' h5 acc st2 q hm hq e6 f5 o5 p5
  rw [declsS] at hm
  by_cases hacc : 1000000 < acc.length
  ·rw [if_pos hacc] at hm; cases hm
  rw [if_neg hacc] at hm
  cases ht2 : ts[st2.i]? with
  | none => rw [ht2] at hm; cases hm
  | some t2 =>
   rw [ht2] at hm
   simp only at hm
   refine Wc_unroll (Wc_seq (Wc_seq (Wc_ops (Wo_pre 1 (fun _ => by simp only [go_sem, seval, e6]; rfl) ?_))))
   refine Wo_call (Wk_kept (now_ok F.st.ex.p1 p5 ht2) fun h6 k6 => ?_)
   refine Wo_op (v := .int .i64 t2.kind) (h' := h6) rfl ?_
   have p6 := p5.keep k6
   have f06 := f5.trans (k6.pfr pb)
   have o6 := o5.pfr p5 (k6.pfr pb)
   by_cases hk : t2.kind = 0
   ·rw [if_pos hk] at hm
    cases hm
    have kb : (t2.kind != 0) = false := by simp [hk]
    refine (Wo_run (fun _ => by simp only [go_sem, seval, kb]; rfl) ?_)
    show Wc T _ _ _
    refine Wc_cond false (by first | rfl | assumption) nofun (fun _ => Wc_exit ?_)
    exact ⟨rfl, (by simp only [go_sem, seval, e6] <;> first | rfl | assumption | (symm; assumption)), acc, st2, rfl, f06, by simp only [upd, dstUpd, reduceIte, Nat.reduceEqDiff]; exact o6, by simp only [upd, dstUpd, reduceIte, Nat.reduceEqDiff]; exact p6⟩
   rw [if_neg hk] at hm
   have kb : (t2.kind != 0) = true := by simp [hk]
   refine (Wo_run (fun _ => by simp only [go_sem, seval, kb]; rfl) ?_)
   show Wc T _ _ _
   refine Wc_cond true (by first | rfl | assumption) (fun _ => Wc_skip ?_) nofun
   show Wc T _ _ _
   have hX6 := XO_lt (X := fun _ => False) (fun b hb => hb.elim) o6
   refine Wc_block (Wc_ops (Wo_pre 2 (fun _ => by simp only [go_sem, seval, e6]; rfl) ?_))
   rcases andS_some hm with ⟨a, er, h1', hr⟩ | ⟨k, st3, h1', hm⟩
   ·refine Wo_call ((hd _ _ h6 _ p6 hX6 h1').mono ?_)
    rintro o h8 ⟨f8, rfl⟩
    rw [hq a er hr]
    exact ⟨rfl, (f06.trans f8).kept k0 hpb, rfl⟩
   refine Wo_call ((hd _ _ h6 _ p6 hX6 h1').mono ?_)
   rintro o h8 ⟨f8, rfl, p8⟩
   show Wo T _ _ _
   have f08 := f06.trans f8
   have o8 := o6.pfr p6 f8
   refine Wo_new (v := .slice (some ⟨h8.next, 0, none⟩) 1 1) (B := .cells [.int .i64 (k : Int)] true 1) (by rfl) fun h9 n9 => ?_
   obtain ⟨v', h10, ha, o10, p10, f10⟩ := list_add (k : Int) p8 o8 f08 (Nat.le_refl _) f08.next (by omega) n9
   refine Wo_op (v := v') (h' := h10) (by simp only [iop, ev, upd, dstUpd, reduceIte, Nat.reduceEqDiff]; exact ha) ?_
   refine (Wo_run (fun _ => by simp only [go_sem, seval]; rfl) ?_)
   exact ih _ h10 (acc ++ [(k : Int)]) st3 q hm hq (by simp only [go_sem, seval, e6] <;> first | rfl | assumption | (symm; assumption)) f10 (by simp only [upd, dstUpd, reduceIte, Nat.reduceEqDiff]; exact o10) (by simp only [upd, dstUpd, reduceIte, Nat.reduceEqDiff]; exact p10)
def C12E : IC :=
 (.seq (.ops [⟨(some 34), .op (.mov (.t 6)), none⟩,
  ⟨(some 35), .op (.mov (.t 7)), none⟩,
  ⟨(some 36), .call 20 [(.t 34), (.c (.int .i64 1)), (.c (.string ⟨#[]⟩)), (.c (.int .i64 0)), (.t 35)], none⟩])
 (.seq (.block 2
  (.seq (.ops [⟨(some 38), .op (.mov (.t 6)), none⟩,
   ⟨(some 39), .op (.nilck (.t 38)), none⟩,
   ⟨(some 40), .op (.faddr 2 (.t 39)), none⟩,
   ⟨(some 41), .op (.load none (.t 40)), none⟩,
   ⟨(some 42), .op (.len .sl (.t 41)), none⟩,
   ⟨(some 43), .op (.bin .gtr (.t 42) (.c (.int .i64 50000))), none⟩,
   ⟨(some 37), .op (.mov (.t 43)), none⟩])
  (.cond (.t 37)
   (.ops [⟨(some 44), .op (.build [(.int .i64 0), (.int .i64 0)] [(0, 1, (.c (.int .i64 0))), (1, 1, (.c (.int .i64 2)))]), none⟩,
    ⟨(some 45), .op (.iface 44 (.t 44)), none⟩,
    ⟨none, .panic (.t 45), none⟩])
   (.seq (.ops [⟨(some 47), .op (.mov (.t 6)), none⟩,
    ⟨(some 48), .op (.nilck (.t 47)), none⟩,
    ⟨(some 49), .op (.faddr 2 (.t 48)), none⟩,
    ⟨(some 50), .op (.load none (.t 49)), none⟩,
    ⟨(some 51), .call 21 [(.t 50)], none⟩,
    ⟨(some 52), .op (.bin .gtr (.t 51) (.c (.int .i64 200))), none⟩,
    ⟨(some 46), .op (.mov (.t 52)), none⟩])
   (.cond (.t 46)
    (.ops [⟨(some 53), .op (.build [(.int .i64 0), (.int .i64 0)] [(0, 1, (.c (.int .i64 0))), (1, 1, (.c (.int .i64 51)))]), none⟩,
     ⟨(some 54), .op (.iface 44 (.t 53)), none⟩,
     ⟨none, .panic (.t 54), none⟩])
    .skip)))))
 (.seq (.ops [⟨(some 55), .op (.mov (.t 6)), none⟩,
  ⟨(some 56), .op (.nilck (.t 55)), none⟩,
  ⟨(some 57), .op (.faddr 2 (.t 56)), none⟩,
  ⟨(some 58), .op (.load none (.t 57)), none⟩,
  ⟨(some 2), .op (.mov (.t 58)), none⟩])
 .ret)))
theorem program_ok (F : ProgFns T) {num : Int → ByteArray} {f : Nat} {s : ByteArray} {h : Heap} {r : PO} (hnum : ∀ t ∈ (scanS s).1, ∀ (h : Heap) (K : Out → Heap → Prop), K (.ret (.string (num t.num))) h → Wk T (.fn 82) [.int .i64 t.num, .int .i64 10] h K) (hsz : s.size < 4611686018427387904) (hs : progS num f s = some r) :
 Wk T (.fn 12) [.string s] h (PPostO h r) := by
 have hfew := scanS_len s
 refine Wk_fn2 F.program (by simp [C12]) ?_
 simp only [C12]
 refine Wc_seq (Wc_ops (Wo_run (fun _ => by simp only [go_sem, seval]; rfl) ?_))
 show Wc T _ _ _
 refine Wc_seq (Wc_ops (Wo_pre 1 (fun _ => by simp only [go_sem, seval]; rfl) ?_))
 refine Wo_call ((scan_ok F.lex F.scan F.classes hsz).mono ?_)
 rintro o h1 ⟨k1, v, rfl, ov⟩
 rw [progS] at hs
 generalize scanS s = R at hs ov hnum hfew ⊢
 obtain ⟨ts, pl, er⟩ := R
 simp only at hs ov hnum hfew ⊢
 show Wo T _ _ _
 refine (Wo_run (fun _ => by simp only [go_sem, seval]; rfl) ?_)
 show Wc T _ _ _
 by_cases he : er = 0
 case neg =>
  rw [if_neg he] at hs
  cases hs
  have kb : (er != 0) = true := by simp [he]
  refine Wc_seq (Wc_seq (Wc_ops (Wo_run (fun _ => by simp only [go_sem, seval, kb]; rfl) ?_)))
  show Wc T _ _ _
  refine Wc_cond true (by first | rfl | assumption) (fun _ => ?_) nofun
  refine Wc_ops (Wo_pre 2 (fun _ => by simp only [go_sem, seval]; rfl) ?_)
  refine Wo_op (v := .agg #[.int .i64 pl, .int .i64 er]) (h' := h1) (by rfl) ?_
  refine Wo_op (v := .iface 44 (.agg #[.int .i64 pl, .int .i64 er])) (h' := h1) (by rfl) ?_
  refine Wo_panic (t := 44) (v := .agg #[.int .i64 pl, .int .i64 er]) (by first | rfl | assumption) ?_
  exact ⟨rfl, k1, rfl⟩
 rw [if_pos he] at hs
 have kb : (er != 0) = false := by simp [he]
 refine Wc_seq (Wc_seq (Wc_ops (Wo_run (fun _ => by simp only [go_sem, seval, kb]; rfl) ?_)))
 show Wc T _ _ _
 refine Wc_cond false (by first | rfl | assumption) nofun (fun _ => Wc_skip ?_)
 show Wc T _ _ _
 refine Wc_seq (Wc_ops (Wo_pre 1 (fun _ => by simp only [go_sem, seval]; rfl) ?_))
 refine Wo_call ((nested_ok F.nested ov (by omega)).mono ?_)
 rintro o h2 ⟨k2, ho⟩
 cases hn : nestL ts 0 with
 | some a =>
  rw [hn] at hs ho
  simp only at hs ho
  subst ho
  cases hs
  exact ⟨rfl, k1.trans k2, rfl⟩
 | none =>
  rw [hn] at hs ho
  simp only at hs ho
  subst ho
  show Wo T _ _ _
  refine Wo_nil ?_
  show Wc T _ _ _
  have k12 := k1.trans k2
  have ov2 := ov.kept k2
  refine Wc_seq (Wc_ops (Wo_pre 1 (fun _ => by simp only [go_sem, seval]; rfl) ?_))
  refine Wo_op (v := .agg #[v, .int .i64 0, .slice none 0 0]) (h' := h2) ?_ ?_
  ·obtain ⟨va, vc, hvl⟩ := ov2.len
   rw [hvl]; rfl
  refine Wo_box (cs := [v, .int .i64 0, .slice none 0 0]) (by simp only [go_sem, seval, cellsOf] <;> first | rfl | assumption | (symm; assumption)) fun h3 n3 => ?_
  refine (Wo_run (fun _ => by simp only [go_sem, seval]; rfl) ?_)
  show Wc T _ _ _
  refine Wc_seq (Wc_ops (Wo_run (fun _ => by simp only [go_sem, seval]; rfl) ?_))
  show Wc T _ _ _
  have k3 := k12.trans n3.kept
  have p3 : Par h2.next ts (fun _ => False) h3 ⟨0, []⟩ := ⟨by rw [n3.next]; exact Nat.lt_succ_self _, by omega, v, .slice none 0 0, [], n3.get, (ov2.kept n3.kept).mono (Nat.zero_le _), .inl ⟨rfl, rfl⟩, fun x hx => (by cases hx), rfl⟩
  have hbl := (stmt_all F.st (pb := h2.next) hnum f f (Nat.le_refl _)).2
  have hd := decl_ok F.st.ex.p1 F.st.ex.list F.st.words.named F.decl hbl (f := f)
  rw [treeS] at hs
  cases hm : declsS num ts f f [] ⟨0, []⟩ with
  | none => rw [hm] at hs; cases hs
  | some q =>
   rw [hm] at hs
   refine Wc_seq (Wc_block ((decls_loop F (h := h3) (r := r) hd h k3 k12.next f _ h3 [] ⟨0, []⟩ q hm ?_ (by first | rfl | assumption) (.refl _ _) (.inl ⟨rfl, (by first | rfl | assumption)⟩) (by simp only [upd, dstUpd, reduceIte, Nat.reduceEqDiff]; exact p3.nil)).mono ?_))
   ·rintro a er rfl
    exact (Option.some.inj hs).symm
   have rest : ∀ s' : St, (s'.d = some [] ∧ s'.e 6 = .pointer (some ⟨h2.next, 0, none⟩) ∧ ∃ kids st', q = .ok kids st' ∧ PFr h2.next h3 s'.h ∧ ownI h3.next s'.h (s'.e 7) kids ∧ Par h2.next ts (XO (fun _ => False) (s'.e 7)) s'.h st') → Wc T C12E s' (Fin2 C12 (PPostO h r)) := by
    rintro ⟨e', h', d'⟩ ⟨hd, e6, kids, st', rfl, f6, o6, p6⟩
    simp only at hd e6 f6 o6 p6 hs
    rw [hd]
    generalize hv7 : e' 7 = kv at o6 p6
    cases hns : nodeS 1 ⟨#[]⟩ 0 kids st' with
    | none => rw [hns] at hs; cases hs
    | some q =>
     obtain ⟨n, st2⟩ := q
     rw [hns] at hs
     simp only at hs
     have hkids := o6.kids (h0 := h3) (X := fun _ => False) (fun b hb => hb.elim)
     rw [C12E]
     refine Wc_seq (Wc_ops (Wo_pre 2 (fun _ => by simp only [go_sem, seval, e6, hv7]; rfl) ?_))
     refine Wo_call ((node_ok F.st.ex.p1 (p6.weaken fun b hb => .inl hb) hkids hns).mono ?_)
     rintro o h4 ⟨f4, p4, rfl⟩
     show Wo T _ _ _
     refine Wo_nil ?_
     show Wc T _ _ _
     have k4 := (f6.trans f4).kept k3 k12.next
     obtain ⟨tv, lv, nds, hg, _, hown, hkd, hmap⟩ := p4.rep
     have hnd := nodes_of_own hown hkd
     obtain ⟨la, lc, hlv⟩ := hnd.len
     have hlen : nds.length = st2.l.length := by rw [← hmap, List.length_map]
     refine Wc_seq (Wc_block ?_)
     by_cases hbig : 50000 < st2.l.length
     ·rw [if_pos hbig] at hs
      cases hs
      have hb1 : (50000 : Int) < ((nds.length : Nat) : Int) := by omega
      refine Wc_seq (Wc_ops (Wo_run (fun _ => by simp only [go_sem, seval, e6, hg, hlv, hb1]; rfl) ?_))
      show Wc T _ _ _
      refine Wc_cond true (by first | rfl | assumption) (fun _ => ?_) nofun
      refine Wc_ops ?_
      refine Wo_op (v := .agg #[.int .i64 0, .int .i64 2]) (h' := h4) (by rfl) ?_
      refine Wo_op (v := .iface 44 (.agg #[.int .i64 0, .int .i64 2])) (h' := h4) (by rfl) ?_
      refine Wo_panic (t := 44) (v := .agg #[.int .i64 0, .int .i64 2]) (by first | rfl | assumption) ?_
      exact ⟨rfl, k4, rfl⟩
     rw [if_neg hbig] at hs
     have hb1 : ¬ (50000 : Int) < ((nds.length : Nat) : Int) := by omega
     refine Wc_seq (Wc_ops (Wo_run (fun _ => by simp only [go_sem, seval, e6, hg, hlv, hb1]; rfl) ?_))
     show Wc T _ _ _
     refine Wc_cond false (by first | rfl | assumption) nofun (fun _ => ?_)
     by_cases hall : st2.l.all (fun x => decide (x.kids.length ≤ 100000)) = true
     case neg => rw [if_neg hall] at hs; cases hs
     rw [if_pos hall] at hs
     have hK : ∀ x ∈ nds, x.kids.length ≤ 100000 := fun x hx => by
      have hm : Nd.pn x ∈ st2.l := by rw [← hmap]; exact List.mem_map_of_mem hx
      exact of_decide_eq_true (List.all_eq_true.1 hall _ hm)
     have hdeep : deepOf (st2.l.map PN.nd) = deepOf nds := by rw [← hmap]; exact deepOf_pn nds
     rw [hdeep] at hs
     refine Wc_seq (Wc_ops (Wo_pre 4 (fun _ => by simp only [go_sem, seval, e6, hg, hlv]; rfl) ?_))
     refine Wo_call (Wk_kept (deep13 F.deep (by rw [← hlv]; exact hnd) (by omega) hK) fun h5 k5 => ?_)
     have hg5 : h5.get h2.next = some (.cells [tv, .int .i64 st2.i, lv] true 0) := by rw [k5.get _ p4.lt]; exact hg
     have k05 := k4.trans k5
     by_cases hdp : 200 < deepOf nds
     ·rw [if_pos hdp] at hs
      cases hs
      have hb2 : (200 : Int) < ((deepOf nds : Nat) : Int) := by omega
      refine (Wo_run (fun _ => by simp only [go_sem, seval, hb2]; rfl) ?_)
      show Wc T _ _ _
      refine Wc_cond true (by first | rfl | assumption) (fun _ => ?_) nofun
      refine Wc_ops ?_
      refine Wo_op (v := .agg #[.int .i64 0, .int .i64 51]) (h' := h5) (by rfl) ?_
      refine Wo_op (v := .iface 44 (.agg #[.int .i64 0, .int .i64 51])) (h' := h5) (by rfl) ?_
      refine Wo_panic (t := 44) (v := .agg #[.int .i64 0, .int .i64 51]) (by first | rfl | assumption) ?_
      exact ⟨rfl, k05, rfl⟩
     rw [if_neg hdp] at hs
     cases hs
     have hb2 : ¬ (200 : Int) < ((deepOf nds : Nat) : Int) := by omega
     refine (Wo_run (fun _ => by simp only [go_sem, seval, hb2]; rfl) ?_)
     show Wc T _ _ _
     refine Wc_cond false (by first | rfl | assumption) nofun (fun _ => Wc_skip ?_)
     show Wc T _ _ _
     refine Wc_seq (Wc_ops (Wo_run (fun _ => by simp only [go_sem, seval, e6, hg5]; rfl) ?_))
     exact Wc_ret ⟨rfl, [lv], by simp only [C12, resAll, resV, upd, dstUpd, reduceIte, Nat.reduceEqDiff], k05, lv, nds, rfl, (hown.kept k5).mono k12.next, fun x hx => (hkd x hx).keep (k5.pfr h2.next) p4.no1, hmap⟩
   intro x s' hx
   cases x with
   | normal => exact rest s' hx
   | brk i =>
    simp only [Tb] at hx ⊢
    split at hx
    ·rename_i hi
     rw [if_pos hi]
     exact rest s' hx
    ·exact hx.elim
   | ret => exact hx.elim
   | pan v => exact hx
end Go.Idl
end

section
namespace Go.Idl
variable {T : Tbl}
def wrongV (n : Nat) (k : Int) : Value := .iface 44 (.agg #[.int .i64 n, .int .i64 k])
def nilC : Blk := .cells [.slice none 0 0] true 0
def iC (k : Int) : Blk := .cells [.int .i64 k] true 0
theorem deferP_none {args : List Value} {h : Heap} {Q : Ex → Option Value → St → Prop} (k : ∀ e, Q .normal none ⟨e, h, some []⟩) : WcD T C11.code none ⟨args0 args, h, some []⟩ Q := by
 simp only [C11]
 refine WcD_seq (WcD_rec rfl rfl ?_)
 show WcD T _ _ _ _
 refine WcD_seq (WcD_ops rfl (Wc_ops (Wo_run (fun _ => by simp only [go_sem, seval]; rfl) ?_)))
 show WcD T _ _ _ _
 refine WcD_cond false (by simp [ev, upd, dstUpd]) nofun (fun _ => WcD_skip (k _))
theorem deferP_some {h : Heap} {n : Nat} {k : Int} {a b c : Nat} {x y z : Value} {Q : Ex → Option Value → St → Prop} (ha : h.get a = some (.cells [x] true 0)) (hb : h.get b = some (.cells [y] true 0)) (hc : h.get c = some (.cells [z] true 0)) (hab : a ≠ b) (hac : a ≠ c) (hbc : b ≠ c) (la : a < h.next) (lb : b < h.next) (lc : c < h.next)
 (q : ∀ e h', (∀ d, d < h.next → d ≠ a → d ≠ b → d ≠ c → h'.get d = h.get d) → h.next ≤ h'.next → h'.get a = some nilC → h'.get b = some (iC n) → h'.get c = some (iC k) → Q .normal none ⟨e, h', some []⟩) :
 WcD T C11.code (some (wrongV n k)) ⟨args0 [ptr a 0, ptr b 0, ptr c 0], h, some []⟩ Q := by
 simp only [C11]
 refine WcD_seq (WcD_rec rfl rfl ?_)
 show WcD T _ _ _ _
 refine WcD_seq (WcD_ops rfl (Wc_ops (Wo_run (fun _ => by simp only [go_sem, seval, wrongV]; rfl) ?_)))
 show WcD T _ _ _ _
 refine WcD_cond true (by simp [ev, upd, dstUpd]) (fun _ => ?_) nofun
 refine WcD_seq (WcD_ops rfl (Wc_ops (Wo_pre 6 (fun _ => by simp only [go_sem, seval]; rfl) ?_)))
 refine Wo_op (iop_store (b := h.next) (esz := 0) (cs := [.int .i64 n, .int .i64 k]) (z := [.int .i64 0, .int .i64 0]) (by simp only [upd, dstUpd, reduceIte, Nat.reduceEqDiff, ptr]) (by simp only [upd, dstUpd, reduceIte, Nat.reduceEqDiff]) rfl (new_get' _ _) rfl) ?_
 have hg0 : ∀ d, d < h.next → ((h.new (.cells [.int .i64 0, .int .i64 0] true 0)).set h.next (.cells [.int .i64 n, .int .i64 k] true 0)).get d = h.get d := by
  intro d hd
  rw [set_get_ne' _ _ (by omega), new_get_ne' _ _ (by omega)]
 have hn0 : ((h.new (.cells [.int .i64 0, .int .i64 0] true 0)).set h.next (.cells [.int .i64 n, .int .i64 k] true 0)).next = h.next + 1 := rfl
 have hgm : ((h.new (.cells [.int .i64 0, .int .i64 0] true 0)).set h.next (.cells [.int .i64 n, .int .i64 k] true 0)).get h.next = some (.cells [.int .i64 n, .int .i64 k] true 0) := set_get' _ _ _
 generalize (h.new (.cells [.int .i64 0, .int .i64 0] true 0)).set h.next (.cells [.int .i64 n, .int .i64 k] true 0) = h1 at hg0 hn0 hgm ⊢
 refine (Wo_run (fun _ => by simp only [go_sem, seval]; rfl) ?_)
 show WcD T _ _ _ _
 refine WcD_seq (WcD_seq (WcD_ops rfl (Wc_ops (Wo_run (fun _ => by simp only [go_sem, seval]; rfl) ?_))))
 show WcD T _ _ _ _
 refine WcD_cond false (by simp [ev, upd, dstUpd]) nofun (fun _ => WcD_skip ?_)
 show WcD T _ _ _ _
 refine WcD_draw (Wc_draw ?_)
 refine Wd_P rfl (by simp only [iop, ev, upd, dstUpd, ptr, Nat.reduceEqDiff, reduceIte]; rfl) ?_
 refine Wd_R rfl (v := .int .i64 n) (h' := h1) (by simp only [iop, ev, upd, dstUpd, ptr, Nat.reduceEqDiff, reduceIte, Heap.cell, hgm]; rfl) (by intro p hp; cases hp) ?_
 refine Wd_P rfl (by simp only [iop, ev, upd, dstUpd, ptr, Nat.reduceEqDiff, reduceIte]; rfl) ?_
 refine Wd_R rfl (v := .int .i64 k) (h' := h1) (by simp only [iop, ev, upd, dstUpd, ptr, Nat.reduceEqDiff, reduceIte, Heap.cell, hgm]; rfl) (by intro p hp; cases hp) ?_
 have hL1 : ∀ e : Env, e 17 = ptr h.next 0 → locOp (.load none (.t 17)) e = .cells h.next 0 1 := fun e he => by simp only [locOp, ev, he, ptr]
 have hL2 : ∀ e : Env, e 19 = ptr h.next 1 → locOp (.load none (.t 19)) e = .cells h.next 1 1 := fun e he => by simp only [locOp, ev, he, ptr]
 rw [hL1 _ (by simp only [upd, dstUpd, reduceIte, Nat.reduceEqDiff, ptr]), hL2 _ (by simp only [upd, dstUpd, reduceIte, Nat.reduceEqDiff, ptr])]
 have side : ∀ (hh : Heap) (d i : Nat) (bk : Blk), d < h.next → ∀ p ∈ [(3, Loc.cells h.next 1 1), (1, Loc.cells h.next 0 1)], p.1 ∈ ([[], [0], [], [2], [], [4, 1, 0], [5, 4, 1, 0, 3, 2]] : List (List Nat)).getD i [] ∨ sameAt hh (hh.set d bk) p.2 := by
  intro hh d i bk hd p hp
  rcases List.mem_cons.1 hp with rfl | hp
  ·exact .inr (sameAt_cells (by omega))
  ·rw [List.mem_singleton] at hp; subst hp; exact .inr (sameAt_cells (by omega))
 refine Wd_E rfl (iop_store1 (b := a) (esz := 0) (v := .slice none 0 0) (x := x) (by simp only [upd, dstUpd, reduceIte, Nat.reduceEqDiff, args0]; rfl) (by simp only [upd, dstUpd, reduceIte, Nat.reduceEqDiff, ev, cellsOf]) (by rw [hg0 _ la]; exact ha)) (side _ _ 4 _ la) ?_
 refine Wd_E rfl (iop_store1 (b := b) (esz := 0) (v := .int .i64 n) (x := y) (by simp only [upd, dstUpd, reduceIte, Nat.reduceEqDiff, args0]; rfl) (by simp only [upd, dstUpd, reduceIte, Nat.reduceEqDiff, ev, cellsOf]) (by rw [set_get_ne' _ _ hab.symm, hg0 _ lb]; exact hb)) (side _ _ 5 _ lb) ?_
 refine Wd_E rfl (iop_store1 (b := c) (esz := 0) (v := .int .i64 k) (x := z) (by simp only [upd, dstUpd, reduceIte, Nat.reduceEqDiff, args0]; rfl) (by simp only [upd, dstUpd, reduceIte, Nat.reduceEqDiff, ev, cellsOf]) (by rw [set_get_ne' _ _ hbc.symm, set_get_ne' _ _ hac.symm, hg0 _ lc]; exact hc)) (side _ _ 6 _ lc) ?_
 refine Wd_nil ?_
 refine q _ _ (fun d hd d1 d2 d3 => ?_) ?_ ?_ ?_ ?_
 ·rw [set_get_ne' _ _ d3, set_get_ne' _ _ d2, set_get_ne' _ _ d1, hg0 _ hd]
 ·show h.next ≤ h1.next; omega
 ·rw [set_get_ne' _ _ hac, set_get_ne' _ _ hab, set_get']; rfl
 ·rw [set_get_ne' _ _ hbc, set_get']; rfl
 ·rw [set_get']; rfl
def ProgPost (h : Heap) : PO → Out → Heap → Prop
 | .ok l, o, h' => Kept h h' ∧ ∃ v nds, o = .ret (.tuple #[v, .int .i64 0, .int .i64 0]) ∧ ownL Nd.cells 4 h.next h' v nds ∧ (∀ x ∈ nds, kidsAt (fun _ => False) h' x.kv x.kids) ∧ nds.map Nd.pn = l
 | .err a e, o, h' => Kept h h' ∧ o = .ret (.tuple #[.slice none 0 0, .int .i64 a, .int .i64 e])
theorem Program_ok (F : ProgFns T) (hT : T.fn 9 = some C9) (hD : T.fn 11 = some C11) {num : Int → ByteArray} {f : Nat} {s : ByteArray} {h : Heap} {r : PO} (hnum : ∀ t ∈ (scanS s).1, ∀ (h : Heap) (K : Out → Heap → Prop), K (.ret (.string (num t.num))) h → Wk T (.fn 82) [.int .i64 t.num, .int .i64 10] h K) (hsz : s.size < 4611686018427387904) (hs : progS num f s = some r) :
 Wk T (.fn 9) [.string s] h (ProgPost h r) := by
 refine Wk_fnL hT (by simp [C9]) ?_
 simp only [C9]
 refine Wc_seq (Wc_ops (Wo_run (fun _ => by simp only [go_sem, seval]; rfl) ?_))
 show Wc T _ _ _
 have hk : Kept h (((h.new nilC).new (iC 0)).new (iC 0)) := ((((Kept.refl h).new _).new _).new _)
 have hn : (((h.new nilC).new (iC 0)).new (iC 0)).next = h.next + 3 := rfl
 have hg1 : (((h.new nilC).new (iC 0)).new (iC 0)).get h.next = some nilC := by
  rw [new_get_ne' _ _ (by simp only [new_next]; omega), new_get_ne' _ _ (by simp only [new_next]; omega)]; exact new_get' _ _
 have hg2 : (((h.new nilC).new (iC 0)).new (iC 0)).get (h.next + 1) = some (iC 0) := by
  rw [new_get_ne' _ _ (by simp only [new_next]; omega)]; exact new_get' _ _
 have hg3 : (((h.new nilC).new (iC 0)).new (iC 0)).get (h.next + 2) = some (iC 0) := new_get' _ _
 show Wc T _ ⟨_, (((h.new nilC).new (iC 0)).new (iC 0)), _⟩ _
 generalize hh1 : ((h.new nilC).new (iC 0)).new (iC 0) = h1 at hk hn hg1 hg2 hg3 ⊢
 refine Wc_seq (Wc_ops (Wo_op rfl (Wo_defer (f := 11) (vs := [ptr h.next 0, ptr (h.next + 1) 0, ptr (h.next + 2) 0]) (by simp only [ev, upd, dstUpd, reduceIte]; rfl) (Wo_nil ?_))))
 show Wc T _ _ _
 refine Wc_seq (Wc_ops (Wo_pre 1 (fun _ => by simp only [go_sem, seval]; rfl) ?_))
 refine Wo_call ((program_ok F hnum hsz hs).mono ?_)
 cases r with
 | err a er =>
  rintro o h3 ⟨k3, rfl⟩
  have o1 : h3.get h.next = some nilC := by rw [k3.get _ (by omega)]; exact hg1
  have o2 : h3.get (h.next + 1) = some (iC 0) := by rw [k3.get _ (by omega)]; exact hg2
  have o3 : h3.get (h.next + 2) = some (iC 0) := by rw [k3.get _ (by omega)]; exact hg3
  have n3 := k3.next
  show Lv T _ (some _) _ _
  refine Lv_one (g := 11) (args := [ptr h.next 0, ptr (h.next + 1) 0, ptr (h.next + 2) 0]) rfl hD (by simp [C11]) (deferP_some (n := a) (k := er) o1 o2 o3 (by omega) (by omega) (by omega) (by show _ < h3.next; omega) (by show _ < h3.next; omega) (by show _ < h3.next; omega) fun e h4 hsame hn4 q1 q2 q3 => ?_)
  refine ⟨.inl rfl, rfl, ⟨[], rfl⟩, [.slice none 0 0, .int .i64 a, .int .i64 er], ?_, ?_, rfl⟩
  ·simp only [resAllP, resVP, resV, upd, dstUpd, Nat.reduceEqDiff, reduceIte, ptr, Heap.cell, new_next, Nat.add_assoc, Nat.reduceAdd, q1, q2, q3, nilC, iC]
   rfl
  ·have k13 := hk.trans k3
   exact ⟨by show h.next ≤ h4.next; have := k13.next; have : h3.next ≤ h4.next := hn4; omega, fun b hb => by rw [hsame b (by show b < h3.next; omega) (by omega) (by omega) (by omega)]; exact k13.get b hb⟩
 | ok l =>
  rintro o h3 ⟨k3, v, nds, rfl, hnd, hkd, hmap⟩
  have o1 : h3.get h.next = some nilC := by rw [k3.get _ (by omega)]; exact hg1
  have o2 : h3.get (h.next + 1) = some (iC 0) := by rw [k3.get _ (by omega)]; exact hg2
  have o3 : h3.get (h.next + 2) = some (iC 0) := by rw [k3.get _ (by omega)]; exact hg3
  have n3 := k3.next
  obtain ⟨va, vc, hvl⟩ := hnd.len
  have hcell : cellsOf v = some [v] := by rw [hvl]; rfl
  show Wo T _ _ _
  refine Wo_op (iop_store1 (b := h.next) (esz := 0) (v := v) (x := .slice none 0 0) (by simp only [upd, dstUpd, reduceIte, Nat.reduceEqDiff]; rfl) (by simp only [upd, dstUpd, reduceIte, Nat.reduceEqDiff, ev]; exact hcell) o1) (Wo_op (iop_store1 (b := h.next + 1) (esz := 0) (v := .int .i64 0) (x := .int .i64 0) (by simp only [upd, dstUpd, reduceIte, Nat.reduceEqDiff]; rfl) rfl (by rw [set_get_ne' _ _ (by omega)]; exact o2)) (Wo_op (iop_store1 (b := h.next + 2) (esz := 0) (v := .int .i64 0) (x := .int .i64 0) (by simp only [upd, dstUpd, reduceIte, Nat.reduceEqDiff]; rfl) rfl (by rw [set_get_ne' _ _ (by omega), set_get_ne' _ _ (by omega)]; exact o3)) (Wo_nil ?_)))
  show Wc T _ _ _
  refine Wc_ret ?_
  show Lv T _ none ⟨_, (((h3.set h.next (.cells [v] true 0)).set (h.next + 1) (iC 0)).set (h.next + 2) (iC 0)), _⟩ _
  have q1 : (((h3.set h.next (.cells [v] true 0)).set (h.next + 1) (iC 0)).set (h.next + 2) (iC 0)).get h.next = some (.cells [v] true 0) := by rw [set_get_ne' _ _ (by omega), set_get_ne' _ _ (by omega), set_get']
  have q2 : (((h3.set h.next (.cells [v] true 0)).set (h.next + 1) (iC 0)).set (h.next + 2) (iC 0)).get (h.next + 1) = some (iC 0) := by rw [set_get_ne' _ _ (by omega), set_get']
  have q3 : (((h3.set h.next (.cells [v] true 0)).set (h.next + 1) (iC 0)).set (h.next + 2) (iC 0)).get (h.next + 2) = some (iC 0) := by rw [set_get']
  have hk4 : Kept h (((h3.set h.next (.cells [v] true 0)).set (h.next + 1) (iC 0)).set (h.next + 2) (iC 0)) := (((hk.trans k3).set (by omega) _).set (by omega) _).set (by omega) _
  have hoth : ∀ (w : Nat) (b : Nat) (cs : List Value), w ≠ 0 → h3.get b = some (.cells cs true w) → (((h3.set h.next (.cells [v] true 0)).set (h.next + 1) (iC 0)).set (h.next + 2) (iC 0)).get b = some (.cells cs true w) := fun w b cs hw hb => by
   have ne : ∀ c cs', h3.get c = some (.cells cs' true 0) → b ≠ c := fun c cs' hc e => by
    subst e; rw [hb] at hc; simp only [Option.some.injEq, Blk.cells.injEq] at hc; exact hw hc.2.2
   rw [set_get_ne' _ _ (ne _ _ o3), set_get_ne' _ _ (ne _ _ o2), set_get_ne' _ _ (ne _ _ o1)]; exact hb
  have hnx : (((h3.set h.next (.cells [v] true 0)).set (h.next + 1) (iC 0)).set (h.next + 2) (iC 0)).next = h3.next := rfl
  generalize ((h3.set h.next (.cells [v] true 0)).set (h.next + 1) (iC 0)).set (h.next + 2) (iC 0) = h4 at hk4 q1 q2 q3 hoth hnx ⊢
  have hnd4 : ownL Nd.cells 4 h.next h4 v nds := by
   rcases hnd with e | ⟨b, e1, e2, e3, e4⟩
   ·exact .inl e
   ·exact .inr ⟨b, by omega, by omega, e3, hoth 4 b _ (by decide) e4⟩
  have hkd4 : ∀ x ∈ nds, kidsAt (fun _ => False) h4 x.kv x.kids := fun x hx => by
   rcases hkd x hx with e | ⟨b, c, e1, e2, e3, e4⟩
   ·exact .inl e
   ·exact .inr ⟨b, c, e1, by omega, hoth 1 b _ (by decide) e3, e4⟩
  refine Lv_one (g := 11) (args := [ptr h.next 0, ptr (h.next + 1) 0, ptr (h.next + 2) 0]) rfl hD (by simp [C11]) (deferP_none fun e => ?_)
  refine ⟨.inl rfl, rfl, ⟨[], rfl⟩, [v, .int .i64 0, .int .i64 0], ?_, hk4, v, nds, rfl, hnd4, hkd4, hmap⟩
  simp only [resAll, resV, upd, dstUpd, Nat.reduceEqDiff, reduceIte, ptr, Heap.cell, new_next, Nat.add_assoc, Nat.reduceAdd, q1, q2, q3, iC]
  rfl
end Go.Idl
end

section
namespace Go.Idl
def namedB (k : Int) : Bool := decide (k = 2 ∨ k = 3 ∨ k = 5 ∨ k = 17 ∨ k = 22 ∨ k = 23 ∨ k = 18 ∨ k = 19)
def stands (s : ByteArray) (a : Nat) (t : ByteArray) : Prop := a + t.size ≤ s.size ∧ ((bs s).drop a).take t.size = bs t
structure NG (s : ByteArray) (ks : List Int) (x : PN) : Prop where
 pos : 0 ≤ x.pos ∧ x.pos ≤ s.size
 kind : 1 ≤ x.kind ∧ x.kind ≤ 30
 text : textB x.kind x.text = true
 shape : shapeB x.kind ks = true
 at' : namedB x.kind = true → stands s x.pos.toNat x.text
 few : x.text.size < 4611686018427387904
inductive Forest (s : ByteArray) : Nat → List PN → List Int → List Int → Prop
 | nil (o : Nat) : Forest s o [] [] []
 | snoc {o : Nat} {l m : List PN} {ks kn ks' kn' : List Int} {x : PN} (a : Forest s o l ks kn) (b : Forest s (o + l.length) m ks' kn') (hk : x.kids = ks') (h1 : x.kind ≠ 1) (g : NG s kn' x) :
  Forest s o (l ++ (m ++ [x])) (ks ++ [((o + l.length + m.length : Nat) : Int)]) (kn ++ [x.kind])
theorem Forest.append {s : ByteArray} {o p : Nat} {l m : List PN} {ks kn ks' kn' : List Int} (a : Forest s o l ks kn) (b : Forest s p m ks' kn') (hp : p = o + l.length) : Forest s o (l ++ m) (ks ++ ks') (kn ++ kn') := by
 induction b with
 | nil => simpa using a
 | @snoc q l2 m2 k2 n2 k3 n3 x c d hk h1 g ih1 ih2 =>
  subst hp
  have e := ih1 rfl
  have d' : Forest s (o + (l ++ l2).length) m2 k3 n3 := by rw [List.length_append, ← Nat.add_assoc]; exact d
  have r := Forest.snoc e d' hk h1 g
  rw [List.length_append, ← Nat.add_assoc] at r
  rw [← List.append_assoc, ← List.append_assoc ks, ← List.append_assoc kn]
  exact r
theorem Forest.one {s : ByteArray} {o : Nat} {m : List PN} {ks kn : List Int} {x : PN} (b : Forest s o m ks kn) (hk : x.kids = ks) (h1 : x.kind ≠ 1) (g : NG s kn x) : Forest s o (m ++ [x]) [((o + m.length : Nat) : Int)] [x.kind] := by
 have := Forest.snoc (.nil o) (l := []) (by simpa using b) hk h1 g
 simpa using this
theorem Forest.len {s : ByteArray} {o : Nat} {l : List PN} {ks kn : List Int} (a : Forest s o l ks kn) : ks.length = kn.length := by
 induction a with
 | nil => rfl
 | snoc a b hk h1 g ih1 ih2 => simp [ih1]
theorem Forest.range {s : ByteArray} {o : Nat} {l : List PN} {ks kn : List Int} (a : Forest s o l ks kn) : ∀ k ∈ ks, ∃ j : Nat, k = ((o + j : Nat) : Int) ∧ j < l.length := by
 induction a with
 | nil => intro k hk; cases hk
 | @snoc o l m ks kn ks' kn' x a b hk h1 g ih1 ih2 =>
  intro k hk'
  rcases List.mem_append.1 hk' with hk' | hk'
  ·obtain ⟨j, e1, e2⟩ := ih1 k hk'
   exact ⟨j, e1, by simp; omega⟩
  ·rw [List.mem_singleton] at hk'
   exact ⟨l.length + m.length, by rw [hk', Nat.add_assoc], by simp⟩
def kindP (L : List PN) (k : Int) : Int := (L[k.toNat]?.map (·.kind)).getD 0
theorem Forest.kinds {s : ByteArray} {o : Nat} {l L : List PN} {ks kn : List Int} (a : Forest s o l ks kn) (hL : ∀ j x, l[j]? = some x → L[o + j]? = some x) : ks.map (kindP L) = kn := by
 induction a with
 | nil => rfl
 | @snoc o l m ks kn ks' kn' x a b hk h1 g ih1 ih2 =>
  rw [List.map_append, ih1 fun j y hy => hL j y (by rw [List.getElem?_append_left (List.getElem?_eq_some_iff.1 hy).1]; exact hy)]
  congr 1
  have := hL (l.length + m.length) x (by rw [List.getElem?_append_right (by omega), Nat.add_sub_cancel_left, List.getElem?_append_right (by omega), Nat.sub_self]; rfl)
  simp only [List.map_cons, List.map_nil, kindP, Int.toNat_natCast]
  rw [Nat.add_assoc, this]
  rfl
theorem Forest.nodes {s : ByteArray} {o : Nat} {l L : List PN} {ks kn : List Int} (a : Forest s o l ks kn) (hL : ∀ j x, l[j]? = some x → L[o + j]? = some x) : ∀ j x, l[j]? = some x → NG s (x.kids.map (kindP L)) x ∧ (∀ k ∈ x.kids, 0 ≤ k ∧ k < ((o + j : Nat) : Int)) ∧ x.kind ≠ 1 := by
 induction a with
 | nil => intro j x hx; simp at hx
 | @snoc o l m ks kn ks' kn' x a b hk h1 g ih1 ih2 =>
  have hL1 : ∀ j y, l[j]? = some y → L[o + j]? = some y := fun j y hy => hL j y (by rw [List.getElem?_append_left (List.getElem?_eq_some_iff.1 hy).1]; exact hy)
  have hL2 : ∀ j y, m[j]? = some y → L[o + l.length + j]? = some y := fun j y hy => by
   rw [Nat.add_assoc]
   exact hL (l.length + j) y (by rw [List.getElem?_append_right (by omega), Nat.add_sub_cancel_left, List.getElem?_append_left (List.getElem?_eq_some_iff.1 hy).1]; exact hy)
  intro j y hy
  by_cases c1 : j < l.length
  ·rw [List.getElem?_append_left c1] at hy
   exact ih1 hL1 j y hy
  ·rw [List.getElem?_append_right (by omega)] at hy
   by_cases c2 : j - l.length < m.length
   ·rw [List.getElem?_append_left c2] at hy
    obtain ⟨e1, e2, e3⟩ := ih2 hL2 _ y hy
    exact ⟨e1, fun k hk => by have := e2 k hk; omega, e3⟩
   ·rw [List.getElem?_append_right (by omega)] at hy
    have hj := (List.getElem?_eq_some_iff.1 hy).1
    rw [List.length_singleton] at hj
    rw [show j - l.length - m.length = 0 by omega] at hy
    simp only [List.getElem?_cons_zero, Option.some.injEq] at hy
    subst hy
    refine ⟨?_, fun k hk' => ?_, h1⟩
    ·rw [hk, b.kinds hL2]; exact g
    ·rw [hk] at hk'
     obtain ⟨i, rfl, hi⟩ := b.range k hk'
     omega
theorem Forest.perm {s : ByteArray} {o : Nat} {l : List PN} {ks kn : List Int} (a : Forest s o l ks kn) : (l.flatMap (·.kids) ++ ks).Perm ((List.range' o l.length).map Int.ofNat) := by
 induction a with
 | nil => exact .refl _
 | @snoc o l m ks kn ks' kn' x a b hk h1 g ih1 ih2 =>
  have e : (List.range' o (l ++ (m ++ [x])).length).map Int.ofNat = (List.range' o l.length).map Int.ofNat ++ ((List.range' (o + l.length) m.length).map Int.ofNat ++ [((o + l.length + m.length : Nat) : Int)]) := by
   rw [List.length_append, List.length_append, List.length_singleton, List.range'_append_1 .. |>.symm, List.map_append, List.range'_append_1 .. |>.symm, List.map_append]
   rfl
  rw [e, List.flatMap_append, List.flatMap_append, List.flatMap_singleton, hk]
  refine List.Perm.trans ?_ (ih1.append (ih2.append_right _))
  generalize l.flatMap (·.kids) = A
  generalize m.flatMap (·.kids) = B
  simp only [List.append_assoc]
  refine List.Perm.append_left _ ?_
  rw [← List.append_assoc B, ← List.append_assoc B]
  exact List.perm_append_comm_assoc _ _ _
theorem kidsUp_all (l : List Nd) : kidsUp l l.length = (l.map Nd.pn).flatMap (·.kids) := by
 rw [kidsUp, List.take_length, List.flatMap_map]; rfl
theorem kindAt_pn (l : List Nd) (k : Int) : kindAt l k = kindP (l.map Nd.pn) k := by
 rw [kindAt, kindP, List.getElem?_map]
 cases l[k.toNat]? <;> rfl
theorem good_of_forest {s : ByteArray} {l : List PN} {kids kn : List Int} {nds : List Nd} (a : Forest s 0 l kids kn) (hkn : (kn.all fun k => k == 2 || k == 3) = true) (hm : nds.map Nd.pn = l ++ [⟨1, ⟨#[]⟩, kids, 0⟩]) (hlen : nds.length ≤ 50000) (hdeep : deepOf nds ≤ 200) :
 GoodT nds ∧ ∀ x ∈ nds, (0 ≤ x.pos ∧ x.pos ≤ s.size) ∧ (namedB x.kind = true → stands s x.pos.toNat x.text) ∧ x.text.size < 4611686018427387904 := by
 have hL : ∀ j x, l[j]? = some x → (l ++ [⟨1, ⟨#[]⟩, kids, 0⟩])[0 + j]? = some x := fun j x hx => by
  rw [Nat.zero_add, List.getElem?_append_left (List.getElem?_eq_some_iff.1 hx).1]; exact hx
 have hnl : nds.length = l.length + 1 := by have := congrArg List.length hm; simpa using this
 have get : ∀ n x, nds[n]? = some x → (l[n]? = some x.pn ∧ n < l.length) ∨ (n = l.length ∧ x.pn = ⟨1, ⟨#[]⟩, kids, 0⟩) := fun n x hx => by
  have : (nds.map Nd.pn)[n]? = some x.pn := by rw [List.getElem?_map, hx]; rfl
  rw [hm] at this
  by_cases c : n < l.length
  ·rw [List.getElem?_append_left c] at this; exact .inl ⟨this, c⟩
  ·have hn := (List.getElem?_eq_some_iff.1 this).1
   rw [List.length_append, List.length_singleton] at hn
   have e : n = l.length := by omega
   rw [List.getElem?_append_right (by omega), e, Nat.sub_self, List.getElem?_cons_zero, Option.some.injEq] at this
   exact .inr ⟨e, this.symm⟩
 have hka : ∀ ks : List Int, ks.map (kindAt nds) = ks.map (kindP (l ++ [⟨1, ⟨#[]⟩, kids, 0⟩])) := fun ks => List.map_congr_left fun k _ => by rw [kindAt_pn, hm]
 have hall := a.perm
 have hkids : kidsUp nds nds.length = l.flatMap (·.kids) ++ kids := by rw [kidsUp_all, hm, List.flatMap_append, List.flatMap_singleton]
 have hnodup : (kidsUp nds nds.length).Nodup := by
  rw [hkids]
  refine hall.symm.nodup ?_
  exact List.Pairwise.map _ (fun a b h e => h (Int.ofNat.inj e)) (List.nodup_range' (step := 1))
 refine ⟨⟨hlen, fun n x hx => ?_, hnodup, by omega, fun n x hx => ?_, fun n hn => ?_, hdeep⟩, fun x hx => ?_⟩
 ·rcases get n x hx with ⟨h1, h2⟩ | ⟨h1, h2⟩
  ·obtain ⟨g, r, _⟩ := a.nodes hL n _ h1
   exact ⟨fun k hk => by have := r k hk; omega, g.pos.1, g.kind, g.text, by rw [hka]; exact g.shape⟩
  ·have hk : x.kids = kids := congrArg PN.kids h2
   have hkd : x.kind = 1 := congrArg PN.kind h2
   have hp : x.pos = 0 := congrArg PN.pos h2
   have ht : x.text = ⟨#[]⟩ := congrArg PN.text h2
   refine ⟨fun k hk' => ?_, by omega, by omega, by rw [hkd, ht]; rfl, ?_⟩
   ·rw [hk] at hk'
    obtain ⟨j, rfl, hj⟩ := a.range k hk'
    omega
   ·rw [hkd, hka, hk, a.kinds hL]; exact hkn
 ·rcases get n x hx with ⟨h1, h2⟩ | ⟨h1, h2⟩
  ·have := (a.nodes hL n _ h1).2.2
   exact ⟨fun h => absurd h this, fun h => by omega⟩
  ·have hkd : x.kind = 1 := congrArg PN.kind h2
   exact ⟨fun _ => by omega, fun _ => hkd⟩
 ·rw [hkids]
  refine hall.symm.mem_iff.1 ?_
  exact List.mem_map.2 ⟨n, List.mem_range'_1.2 (by omega), rfl⟩
 ·obtain ⟨n, hn⟩ := List.getElem?_of_mem hx
  rcases get n x hn with ⟨h1, h2⟩ | ⟨h1, h2⟩
  ·obtain ⟨g, _, _⟩ := a.nodes hL n _ h1
   exact ⟨g.pos, g.at', g.few⟩
  ·have hkd : x.kind = 1 := congrArg PN.kind h2
   have hp : x.pos = 0 := congrArg PN.pos h2
   have ht : x.text = ⟨#[]⟩ := congrArg PN.text h2
   refine ⟨by omega, fun h => ?_, by rw [ht]; decide⟩
   rw [hkd] at h; cases h
end Go.Idl
end

section
namespace Go.Idl
structure TokOk (s : ByteArray) (t : Tok) : Prop where
 at' : stands s t.frm t.text
 name : t.kind = 1 → nameB t.text = true
 num : 0 ≤ t.num ∧ t.num ≤ 9223372036854775807
structure TsOk (s : ByteArray) (ts : List Tok) : Prop where
 len : 0 < ts.length ∧ ts.length ≤ 200001
 last : ∀ t, ts[ts.length - 1]? = some t → t.kind = 0
 tok : ∀ t ∈ ts, TokOk s t
 size : s.size < 4611686018427387904
structure St1 (ts : List Tok) (st : PSt) : Prop where
 i : st.i < ts.length
 l : st.l.length ≤ 2 * st.i
def Res {α : Type} (R : α → PSt → Prop) : Option (PR α) → Prop
 | none => False
 | some (.err _ e) => e ≠ 0
 | some (.ok a st) => R a st
theorem Res.mono {α : Type} {R Q : α → PSt → Prop} {x : Option (PR α)} (h : Res R x) (hq : ∀ a st, R a st → Q a st) : Res Q x := by
 cases x with
 | none => exact h
 | some r => cases r with
  | err _ _ => exact h
  | ok a st => exact hq a st h
theorem Res.and {α β : Type} {R : α → PSt → Prop} {Q : β → PSt → Prop} {x : Option (PR α)} {f : α → PSt → Option (PR β)} (h : Res R x) (hf : ∀ a st, R a st → Res Q (f a st)) : Res Q (andS x f) := by
 cases x with
 | none => exact h.elim
 | some r => cases r with
  | err _ _ => exact h
  | ok a st => exact hf a st h
variable {s : ByteArray} {ts : List Tok}
theorem TsOk.go (H : TsOk s ts) {i : Nat} {t : Tok} (ht : ts[i]? = some t) (hk : t.kind ≠ 0) : i + 1 < ts.length := by
 have hi := (List.getElem?_eq_some_iff.1 ht).1
 rcases Nat.lt_or_ge (i + 1) ts.length with h | h
 ·exact h
 ·have : i = ts.length - 1 := by omega
  rw [this] at ht
  exact absurd (H.last t ht) hk
theorem TsOk.get (H : TsOk s ts) {i : Nat} (hi : i < ts.length) : ∃ t, ts[i]? = some t ∧ TokOk s t := ⟨_, List.getElem?_eq_getElem hi, H.tok _ (List.getElem_mem hi)⟩
theorem isB_kind {t : Tok} {l : List ByteArray} (h : isB t l = true) : t.kind ≠ 0 ∧ hasL l t.text = true := by
 simp only [isB, Bool.and_eq_true, Bool.or_eq_true, beq_iff_eq] at h
 exact ⟨by omega, h.2⟩
structure Adv (ts : List Tok) (st st' : PSt) : Prop where
 i : st'.i < ts.length
 go : st.i < st'.i
 l : st'.l.length + 2 * st.i ≤ st.l.length + 2 * st'.i
theorem take_res (H : TsOk s ts) {st : PSt} (w : ByteArray) (hi : st.i < ts.length) : takeS ts w st = some (false, st) ∨ (takeS ts w st = some (true, { st with i := st.i + 1 }) ∧ st.i + 1 < ts.length) := by
 obtain ⟨t, ht, _⟩ := H.get hi
 rw [takeS, ht, Option.map_some]
 cases hb : isB t [w] with
 | false => exact .inl rfl
 | true => exact .inr ⟨rfl, H.go ht (isB_kind hb).1⟩
theorem want_res (H : TsOk s ts) {st : PSt} (w : ByteArray) (hi : st.i < ts.length) : Res (fun _ st' => st' = { st with i := st.i + 1 } ∧ st.i + 1 < ts.length) (wantS ts w st) := by
 obtain ⟨t, ht, _⟩ := H.get hi
 rw [wantS, ht, Option.map_some]
 cases hb : isB t [w] with
 | false => exact (by decide : (60 : Int) ≠ 0)
 | true => exact ⟨rfl, H.go ht (isB_kind hb).1⟩
theorem name_res (H : TsOk s ts) {st : PSt} (hi : st.i < ts.length) : Res (fun t st' => (st' = { st with i := st.i + 1 } ∧ st.i + 1 < ts.length) ∧ TokOk s t ∧ nameB t.text = true) (nameS ts st) := by
 obtain ⟨t, ht, hok⟩ := H.get hi
 rw [nameS, ht, Option.map_some]
 by_cases hk : t.kind = 1
 ·rw [if_pos hk]; exact ⟨⟨rfl, H.go ht (by omega)⟩, hok, hok.name hk⟩
 ·rw [if_neg hk]; exact (by decide : (60 : Int) ≠ 0)
def Ends (s : ByteArray) (l0 : List PN) (K : Int → Prop) (a : Nat) (st : PSt) : Prop := ∃ seg k, st.l = l0 ++ seg ∧ Forest s l0.length seg [(a : Int)] [k] ∧ K k
def EndsL (s : ByteArray) (l0 : List PN) (K : Int → Prop) (kids : List Int) (st : PSt) : Prop := ∃ seg kn, st.l = l0 ++ seg ∧ Forest s l0.length seg kids kn ∧ ∀ k ∈ kn, K k
theorem mk_res {st : PSt} {l0 seg : List PN} {kind pos : Int} {text : ByteArray} {kids kn : List Int} (hl : st.l = l0 ++ seg) (hf : Forest s l0.length seg kids kn) (g : NG s kn ⟨kind, text, kids, pos⟩) (h1 : kind ≠ 1) (hfew : st.l.length < 1000000000) :
 Res (fun a st' => st'.i = st.i ∧ st'.l.length = st.l.length + 1 ∧ Ends s l0 (fun k => k = kind) a st') (mkS kind text pos kids st) := by
 rw [mkS, nodeS, if_pos hfew, Option.map_some]
 refine ⟨rfl, by simp, seg ++ [⟨kind, text, kids, pos⟩], kind, by simp only [hl, List.append_assoc], ?_, rfl⟩
 have := hf.one rfl h1 g
 rw [hl, List.length_append]
 exact this
theorem Adv.trans {a b c : PSt} (x : Adv ts a b) (y : Adv ts b c) : Adv ts a c := ⟨y.i, Nat.lt_trans x.go y.go, by have := x.l; have := y.l; omega⟩
theorem Adv.st {a b : PSt} (x : Adv ts a b) (h : St1 ts a) : St1 ts b := ⟨x.i, by have := x.l; have := h.l; omega⟩
theorem Adv.one {a : PSt} (h : a.i + 1 < ts.length) : Adv ts a { a with i := a.i + 1 } := ⟨h, Nat.lt_succ_self _, by simp only; omega⟩
theorem St1.few {a : PSt} (h : St1 ts a) (H : TsOk s ts) : a.l.length < 400004 := by have := h.l; have := h.i; have := H.len.2; omega
def Fine (s : ByteArray) (ts : List Tok) (K : Int → Prop) (st : PSt) (r : Option (PR Nat)) : Prop := Res (fun a st' => Adv ts st st' ∧ Ends s st.l K a st') r
def FineL (s : ByteArray) (ts : List Tok) (K : Int → Prop) (st : PSt) (r : Option (PR (List Int))) : Prop := Res (fun kids st' => Adv ts st st' ∧ kids.length + st.i ≤ st'.i ∧ EndsL s st.l K kids st') r
def FineF (s : ByteArray) (ts : List Tok) (K : Int → Prop) (c f : Nat) (one : PSt → Option (PR Nat)) : Prop := ∀ st, St1 ts st → 12 * (ts.length - st.i) + c ≤ f → Fine s ts K st (one st)
theorem more_res (H : TsOk s ts) {K : Int → Prop} {one : PSt → Option (PR Nat)} {l0 : List PN} {i0 : Nat} (h1 : ∀ st, St1 ts st → i0 < st.i → Fine s ts K st (one st)) : ∀ (f : Nat) (acc : List Int) (st : PSt), St1 ts st → i0 < st.i → acc.length + i0 ≤ st.i → EndsL s l0 K acc st → ts.length - st.i < f →
 Res (fun kids st' => st'.i < ts.length ∧ st.i ≤ st'.i ∧ st'.l.length + 2 * st.i ≤ st.l.length + 2 * st'.i ∧ kids.length + i0 ≤ st'.i ∧ EndsL s l0 K kids st') (moreS ts one f acc st)
 | 0, acc, st, hs, hi, ha, he, hf => by omega
 | f + 1, acc, st, hs, hi, ha, he, hf => by
  have hlen := H.len.2
  have hsi := hs.i
  rw [moreS, if_neg (by omega)]
  rcases take_res H ⟨#[44]⟩ hs.i with e | ⟨e, e2⟩
  ·rw [e]; exact ⟨hs.i, Nat.le_refl _, Nat.le_refl _, ha, he⟩
  ·rw [e]
   have a1 : Adv ts st { st with i := st.i + 1 } := .one e2
   have hs2 := a1.st hs
   have hone := h1 _ hs2 (by show i0 < st.i + 1; omega)
   simp only
   cases ho : one { st with i := st.i + 1 } with
   | none => rw [ho] at hone; exact hone.elim
   | some r =>
    rw [ho] at hone
    cases r with
    | err a er => exact hone
    | ok k st2 =>
     obtain ⟨a2, seg2, k2, e1, f2, hk2⟩ := hone
     obtain ⟨seg, kn, e3, f3, hkn⟩ := he
     have a3 := a1.trans a2
     have g2 := a2.go
     have l3 := a3.l
     have i3 := a3.i
     simp only at g2 l3 e1 f2
     refine (more_res H h1 f (acc ++ [(k : Int)]) st2 (a3.st hs) (by omega) (by rw [List.length_append, List.length_singleton]; omega) ⟨seg ++ seg2, kn ++ [k2], by rw [e1, e3, List.append_assoc], f3.append f2 (by rw [e3, List.length_append]), fun k hk => ?_⟩ (by omega)).mono ?_
     ·rcases List.mem_append.1 hk with hk | hk
      ·exact hkn k hk
      ·rw [List.mem_singleton] at hk; subst hk; exact hk2
     ·rintro kids st' ⟨q1, q2, q3, q4, q5⟩
      exact ⟨q1, by omega, by omega, q4, q5⟩
theorem list_res (H : TsOk s ts) {K : Int → Prop} {one : PSt → Option (PR Nat)} {e : ByteArray} {f : Nat} {st : PSt} (hs : St1 ts st) (h1 : ∀ st', St1 ts st' → st.i ≤ st'.i → Fine s ts K st' (one st')) (hf : ts.length - st.i < f) : FineL s ts K st (listS ts e one f st) := by
 have inner : Res (fun kids st' => st'.i < ts.length ∧ st.i ≤ st'.i ∧ st'.l.length + 2 * st.i ≤ st.l.length + 2 * st'.i ∧ kids.length + st.i ≤ st'.i ∧ EndsL s st.l K kids st') (innerS ts e one f st) := by
  obtain ⟨t, ht, _⟩ := H.get hs.i
  rw [innerS, ht]
  simp only
  cases hb : isB t [e] with
  | true => exact ⟨hs.i, Nat.le_refl _, Nat.le_refl _, by simp, [], [], by simp, .nil _, by simp⟩
  | false =>
   have hone := h1 st hs (Nat.le_refl _)
   simp only [Bool.false_eq_true, if_false]
   cases ho : one st with
   | none => rw [ho] at hone; exact hone.elim
   | some r =>
    rw [ho] at hone
    cases r with
    | err a er => exact hone
    | ok k st2 =>
     obtain ⟨a2, seg2, k2, e1, f2, hk2⟩ := hone
     have g2 := a2.go
     have l2 := a2.l
     refine (more_res H (i0 := st.i) (fun st' hs' hi' => h1 st' hs' (by omega)) f [(k : Int)] st2 (a2.st hs) g2 (by simp; omega) ⟨seg2, [k2], e1, f2, by simpa using hk2⟩ (by omega)).mono ?_
     rintro kids st' ⟨q1, q2, q3, q4, q5⟩
     exact ⟨q1, by omega, by omega, q4, q5⟩
 rw [listS]
 cases hi : innerS ts e one f st with
 | none => rw [hi] at inner; exact inner.elim
 | some r =>
  rw [hi] at inner
  cases r with
  | err a er => exact inner
  | ok kids st' =>
   obtain ⟨q1, q2, q3, q4, q5⟩ := inner
   have hw := want_res H e q1
   simp only
   cases hws : wantS ts e st' with
   | none => rw [hws] at hw; exact hw.elim
   | some r =>
    rw [hws] at hw
    cases r with
    | err a er => exact hw
    | ok u st2 =>
     obtain ⟨rfl, h2⟩ := hw
     exact ⟨⟨h2, by simp only; omega, by simp only; omega⟩, by simp only; omega, q5⟩
theorem textB_name {k : Int} {x : ByteArray} (hk : mem7 k = true) (h : nameB x = true) : textB k x = true := by rw [textB, if_pos hk]; exact h
end Go.Idl
end

section
namespace Go.Idl
variable {s : ByteArray} {ts : List Tok} {num : Int → ByteArray}
def EK (k : Int) : Prop := exprB k = true
theorem ng {kind : Int} {text : ByteArray} {pos : Nat} {kids kn : List Int} (H : TsOk s ts) (hp : pos ≤ s.size) (hk : 1 ≤ kind ∧ kind ≤ 30) (ht : textB kind text = true) (hs : shapeB kind kn = true) (ha : (namedB kind = false ∧ text.size < 4611686018427387904) ∨ stands s pos text) : NG s kn ⟨kind, text, kids, (pos : Int)⟩ := by
 refine ⟨⟨Int.natCast_nonneg _, Int.ofNat_le.2 hp⟩, hk, ht, hs, fun h => ?_, ?_⟩
 ·rcases ha with ha | ha
  ·rw [ha.1] at h; cases h
  ·exact ha
 ·rcases ha with ha | ha
  ·exact ha.2
  ·have := ha.1; have := H.size; show text.size < _; omega
theorem TokOk.pos {t : Tok} (h : TokOk s t) : t.frm ≤ s.size := by have := h.at'.1; omega
theorem shape1 {k : Int} (kind : Int) (hk : EK k) (h : (kind == 5 || kind == 9 || kind == 10 || kind == 11 || kind == 18 || kind == 20 || kind == 24 || kind == 25 || kind == 27 || kind == 29) = true) : shapeB kind [k] = true := by
 simp only [Bool.or_eq_true, beq_iff_eq] at h
 have e : exprsB [k] 1 = true := by simp only [exprsB, List.all_cons, List.all_nil, show exprB k = true from hk]; rfl
 rcases h with ((((((((h | h) | h) | h) | h) | h) | h) | h) | h) | h <;> subst h <;> exact e
theorem exprs2 {k j : Int} (hk : EK k) (hj : EK j) : exprsB [k, j] 2 = true := by simp only [exprsB, List.all_cons, List.all_nil, show exprB k = true from hk, show exprB j = true from hj]; rfl
theorem Ends.one {l0 : List PN} {K : Int → Prop} {a : Nat} {st : PSt} (h : Ends s l0 K a st) : ∃ seg k, st.l = l0 ++ seg ∧ Forest s l0.length seg [(a : Int)] [k] ∧ K k := h
theorem Ends.two {l0 : List PN} {K J : Int → Prop} {a b : Nat} {st st' : PSt} (h : Ends s l0 K a st) (h' : Ends s st.l J b st') : ∃ seg k j, st'.l = l0 ++ seg ∧ Forest s l0.length seg [(a : Int), (b : Int)] [k, j] ∧ K k ∧ J j := by
 obtain ⟨seg, k, e1, f1, hk⟩ := h
 obtain ⟨seg2, j, e2, f2, hj⟩ := h'
 exact ⟨seg ++ seg2, k, j, by rw [e2, e1, List.append_assoc], f1.append f2 (by rw [e1, List.length_append]), hk, hj⟩
theorem Ends.mono {l0 : List PN} {K J : Int → Prop} {a : Nat} {st : PSt} (h : Ends s l0 K a st) (hj : ∀ k, K k → J k) : Ends s l0 J a st := by
 obtain ⟨seg, k, e1, f1, hk⟩ := h
 exact ⟨seg, k, e1, f1, hj k hk⟩
theorem leaf_res (H : TsOk s ts) {st : PSt} {kind : Int} {text : ByteArray} {pos : Nat} {K : Int → Prop} (hs : St1 ts st) (hi : st.i + 1 < ts.length) (g : NG s [] ⟨kind, text, [], (pos : Int)⟩) (h1 : kind ≠ 1) (hK : K kind) {i : Nat} (hi2 : st.i < i ∧ i < ts.length) : Fine s ts K st (mkS kind text pos [] { st with i := i }) := by
 have hf := hs.few H
 refine (mk_res (st := { st with i := i }) (l0 := st.l) (seg := []) (kn := []) (by simp) (.nil _) g h1 (by show st.l.length < _; omega)).mono ?_
 rintro a st' ⟨e1, e2, e3⟩
 simp only at e1 e2
 exact ⟨⟨by omega, by omega, by omega⟩, e3.mono fun k hk => by subst hk; exact hK⟩
theorem inside_res (H : TsOk s ts) {ex : PSt → Option (PR Nat)} {f : Nat} (hex : FineF s ts EK 9 f ex) {st : PSt} {kind : Int} {pos : Nat} (hs : St1 ts st) (hi : st.i + 1 < ts.length) (hf : 12 * (ts.length - (st.i + 1)) + 9 ≤ f) (hp : pos ≤ s.size) (h1 : 2 ≤ kind ∧ kind ≤ 30) (ht : textB kind ⟨#[]⟩ = true) (hsh : ∀ k, EK k → shapeB kind [k] = true) (hn : namedB kind = false) {K : Int → Prop} (hK : K kind) :
 Fine s ts K st (insideS ts ex kind pos { st with i := st.i + 1 }) := by
 have a0 : Adv ts st { st with i := st.i + 1 } := .one hi
 refine (want_res H _ a0.i).and ?_
 rintro _ _ ⟨rfl, h2⟩
 have a1 := a0.trans (.one (a := { st with i := st.i + 1 }) h2)
 refine (hex _ (a1.st hs) (by show 12 * (ts.length - (st.i + 1 + 1)) + 9 ≤ f; omega)).and ?_
 rintro e st2 ⟨a2, seg, k, e1, f1, hk⟩
 refine (want_res H _ a2.i).and ?_
 rintro _ _ ⟨rfl, h3⟩
 have a3 := (a1.trans a2).trans (.one h3)
 have hfew := (a3.st hs).few H
 refine (mk_res (st := { st2 with i := st2.i + 1 }) (l0 := st.l) (seg := seg) (kn := [k]) (kind := kind) (text := ⟨#[]⟩) (pos := (pos : Int)) e1 f1 (ng H hp ⟨by omega, h1.2⟩ ht (hsh k hk) (.inl ⟨hn, by decide⟩)) (by omega) (by omega)).mono ?_
 rintro a st' ⟨e2, e3, e4⟩
 have l2 := (a1.trans a2).l
 have g2 := (a1.trans a2).go
 simp only at e2 e3
 exact ⟨⟨by omega, by omega, by omega⟩, e4.mono fun k hk => by subst hk; exact hK⟩
theorem nothing_res (H : TsOk s ts) {st : PSt} {kind : Int} {pos : Nat} (hs : St1 ts st) (hi : st.i + 1 < ts.length) (g : NG s [] ⟨kind, ⟨#[]⟩, [], (pos : Int)⟩) (h1 : kind ≠ 1) {K : Int → Prop} (hK : K kind) : Fine s ts K st (nothingS ts kind pos { st with i := st.i + 1 }) := by
 refine (want_res H _ (show st.i + 1 < ts.length from hi)).and ?_
 rintro _ _ ⟨rfl, h2⟩
 refine (want_res H _ h2).and ?_
 rintro _ _ ⟨rfl, h3⟩
 simp only at h2 h3
 exact leaf_res (i := st.i + 1 + 1 + 1) H hs hi g h1 hK ⟨by omega, h3⟩
theorem word_res (H : TsOk s ts) {ex : PSt → Option (PR Nat)} {f : Nat} (hex : FineF s ts EK 9 f ex) {st : PSt} {pos : Nat} {w : ByteArray} {g : Int → PSt → Option (PR Nat)} (hs : St1 ts st) (hi : st.i + 1 < ts.length) (hf : 12 * (ts.length - (st.i + 1)) + 9 ≤ f) (hp : pos ≤ s.size) (hw : wordS ts ex w = some g) : Fine s ts EK st (g pos { st with i := st.i + 1 }) := by
 have hin : ∀ kind : Int, 2 ≤ kind ∧ kind ≤ 30 → textB kind ⟨#[]⟩ = true → (kind == 5 || kind == 9 || kind == 10 || kind == 11 || kind == 18 || kind == 20 || kind == 24 || kind == 25 || kind == 27 || kind == 29) = true → namedB kind = false → EK kind → Fine s ts EK st (insideS ts ex kind pos { st with i := st.i + 1 }) := fun kind h1 h2 h3 h4 h5 => inside_res H hex hs hi hf hp h1 h2 (fun k hk => shape1 kind hk h3) h4 h5
 rw [wordS] at hw
 by_cases h1 : w = ⟨#[110, 117, 108, 108]⟩
 ·rw [if_pos h1] at hw; cases hw
  exact leaf_res (K := EK) (kind := 16) (text := ⟨#[]⟩) H hs hi (ng H hp (by decide) rfl rfl (.inl ⟨rfl, by decide⟩)) (by decide) rfl ⟨Nat.lt_succ_self _, hi⟩
 rw [if_neg h1] at hw
 by_cases h2 : w = ⟨#[114, 111, 111, 116]⟩
 ·rw [if_pos h2] at hw; cases hw
  exact leaf_res (K := EK) (kind := 30) (text := ⟨#[]⟩) H hs hi (ng H hp (by decide) rfl rfl (.inl ⟨rfl, by decide⟩)) (by decide) rfl ⟨Nat.lt_succ_self _, hi⟩
 rw [if_neg h2] at hw
 by_cases h3 : w = ⟨#[110, 101, 119]⟩
 ·rw [if_pos h3] at hw; cases hw
  refine (name_res H (show st.i + 1 < ts.length from hi)).and ?_
  rintro t _ ⟨⟨rfl, h2⟩, htk, hnm⟩
  simp only at h2
  exact leaf_res (K := EK) (i := st.i + 1 + 1) (kind := 23) (text := t.text) H hs hi (ng H htk.pos (by decide) (textB_name rfl hnm) rfl (.inr htk.at')) (by decide) rfl ⟨by omega, h2⟩
 rw [if_neg h3] at hw
 by_cases h4 : w = ⟨#[97, 114, 114]⟩
 ·rw [if_pos h4] at hw; cases hw; exact hin 24 (by decide) rfl rfl rfl rfl
 rw [if_neg h4] at hw
 by_cases h5 : w = ⟨#[108, 101, 110]⟩
 ·rw [if_pos h5] at hw; cases hw; exact hin 25 (by decide) rfl rfl rfl rfl
 rw [if_neg h5] at hw
 by_cases h6 : w = ⟨#[105, 110]⟩
 ·rw [if_pos h6] at hw; cases hw
  exact nothing_res (K := EK) (kind := 26) H hs hi (ng H hp (by decide) rfl rfl (.inl ⟨rfl, by decide⟩)) (by decide) rfl
 rw [if_neg h6] at hw
 by_cases h7 : w = ⟨#[105, 109, 103]⟩
 ·rw [if_pos h7] at hw; cases hw; exact hin 27 (by decide) rfl rfl rfl rfl
 rw [if_neg h7] at hw
 by_cases h8 : w = ⟨#[115, 105, 122, 101]⟩
 ·rw [if_pos h8] at hw; cases hw
  exact nothing_res (K := EK) (kind := 28) H hs hi (ng H hp (by decide) rfl rfl (.inl ⟨rfl, by decide⟩)) (by decide) rfl
 rw [if_neg h8] at hw
 by_cases h9 : w = ⟨#[112, 114, 111, 109, 111, 116, 101]⟩
 ·rw [if_pos h9] at hw; cases hw; exact hin 29 (by decide) rfl rfl rfl rfl
 rw [if_neg h9] at hw
 cases hw
theorem has_op {l : Nat} {x : ByteArray} (h : hasL (lvlL.getD l []) x = true) : opB x = true := by
 obtain ⟨w, hw, hx⟩ := List.any_eq_true.1 h
 have hx := of_decide_eq_true hx
 subst hx
 refine opB_of ?_
 match l, hw with
 | 0, hw => simp [lvlL, opsL] at hw ⊢; rcases hw with h | h <;> simp [h]
 | 1, hw => simp [lvlL, opsL] at hw ⊢; simp [hw]
 | 2, hw => simp [lvlL, opsL] at hw ⊢; rcases hw with h | h <;> simp [h]
 | 3, hw => simp [lvlL, opsL] at hw ⊢; rcases hw with h | h <;> simp [h]
 | 4, hw => simp [lvlL, opsL] at hw ⊢; rcases hw with h | h | h <;> simp [h]
 | n + 5, hw => simp [lvlL] at hw
theorem has_cmp {x : ByteArray} (h : hasL cmpL x = true) : opB x = true := by
 obtain ⟨w, hw, hx⟩ := List.any_eq_true.1 h
 have hx := of_decide_eq_true hx
 subst hx
 refine opB_of ?_
 simp [cmpL, opsL] at hw ⊢
 rcases hw with h | h | h | h <;> simp [h]
theorem has_sgn {x : ByteArray} (h : hasL sgnL x = true) : sgnB x = true := by
 simp only [hasL, sgnL, List.any_cons, List.any_nil, Bool.or_false] at h
 rw [sgnB, Bool.or_assoc]; exact h
def Loose (s : ByteArray) (ts : List Tok) (l0 : List PN) (st : PSt) (a : Nat) (st' : PSt) : Prop := st'.i < ts.length ∧ st.i ≤ st'.i ∧ st'.l.length + 2 * st.i ≤ st.l.length + 2 * st'.i ∧ Ends s l0 EK a st'
theorem Loose.adv {l0 : List PN} {a b : PSt} {e : Nat} {c : PSt} (x : Adv ts a b) (h : Loose s ts l0 b e c) : Adv ts a c := ⟨h.1, by have := x.go; have := h.2.1; omega, by have := x.l; have := h.2.2.1; omega⟩
theorem Loose.after {l0 : List PN} {a b : PSt} {e : Nat} {c : PSt} (x : Adv ts a b) (h : Loose s ts l0 b e c) : Loose s ts l0 a e c := ⟨h.1, by have := x.go; have := h.2.1; omega, by have := x.l; have := h.2.2.1; omega, h.2.2.2⟩
structure ExpFine (s : ByteArray) (ts : List Tok) (num : Int → ByteArray) (f : Nat) : Prop where
 first : FineF s ts EK 0 f (firstS num ts f)
 backL : ∀ l0 e st, St1 ts st → Ends s l0 EK e st → 12 * (ts.length - st.i) ≤ f → Res (Loose s ts l0 st) (backL num ts f e st)
 back : FineF s ts EK 1 f (backS num ts f)
 sign : FineF s ts EK 2 f (signS num ts f)
 chainL : ∀ level l0 e st, St1 ts st → Ends s l0 EK e st → 12 * (ts.length - st.i) ≤ f → Res (Loose s ts l0 st) (chainL num ts f level e st)
 chain : ∀ level, level ≤ 5 → FineF s ts EK (8 - level) f (chainS num ts f level)
 expr : FineF s ts EK 9 f (exprS num ts f)
theorem first_fine (H : TsOk s ts) (hnum : ∀ n : Int, 0 ≤ n → n ≤ 9223372036854775807 → digB (num n) = true ∧ (num n).size < 4611686018427387904) {f : Nat} (ih : ExpFine s ts num f) : FineF s ts EK 0 (f + 1) (firstS num ts (f + 1)) := by
 intro st hs hf
 have hi := hs.i
 obtain ⟨t, ht, htk⟩ := H.get hi
 rw [firstS, ht]
 simp only
 by_cases k4 : t.kind = 4
 ·rw [if_pos k4]
  have hn := htk.num
  have hd := hnum _ hn.1 hn.2
  have h1 := H.go ht (by omega)
  exact leaf_res (K := EK) (kind := 15) (text := num t.num) H hs h1 (ng H htk.pos (by decide) hd.1 rfl (.inl ⟨rfl, hd.2⟩)) (by decide) rfl ⟨Nat.lt_succ_self _, h1⟩
 rw [if_neg k4]
 by_cases k1 : t.kind = 1
 ·rw [if_pos k1]
  have h1 := H.go ht (by omega)
  rcases take_res H ⟨#[40]⟩ (st := { st with i := st.i + 1 }) h1 with e | ⟨e, e2⟩
  ·rw [e]
   exact leaf_res (K := EK) (kind := 17) (text := t.text) H hs h1 (ng H htk.pos (by decide) (textB_name rfl (htk.name k1)) rfl (.inr htk.at')) (by decide) rfl ⟨Nat.lt_succ_self _, h1⟩
  ·rw [e]
   simp only at e2
   have a1 : Adv ts st { st with i := st.i + 1 + 1 } := ⟨e2, by simp only; omega, by simp only; omega⟩
   refine (list_res H (a1.st hs) (K := EK) (fun st' hs' hi' => ih.expr st' hs' (by simp only at hi'; omega)) (by simp only; omega)).and ?_
   rintro kids st' ⟨a2, hk, seg, kn, e1, f1, hkn⟩
   have hfew := (a2.st (a1.st hs)).few H
   have hshape : shapeB 22 kn = true := by
    show exprsB kn kn.length = true
    rw [exprsB, Bool.and_eq_true]
    exact ⟨List.all_eq_true.2 hkn, by simp⟩
   refine (mk_res (kind := 22) (text := t.text) (pos := ((t.frm : Nat) : Int)) (st := st') (l0 := st.l) (seg := seg) (kn := kn) e1 f1 (ng H htk.pos (by decide) (textB_name rfl (htk.name k1)) hshape (.inr htk.at')) (by decide) (by omega)).mono ?_
   rintro a st2 ⟨e2, e3, e4⟩
   have a3 := a1.trans a2
   have := a3.l; have := a3.go; have := a3.i; have := a2.go; have := a2.l
   simp only at *
   exact ⟨⟨by omega, by omega, by omega⟩, e4.mono fun k hk => by subst hk; rfl⟩
 rw [if_neg k1]
 cases hw : (if t.kind = 2 then wordS ts (exprS num ts f) t.text else none) with
 | some g =>
  by_cases k2 : t.kind = 2
  ·rw [if_pos k2] at hw
   have h1 := H.go ht (by omega)
   exact word_res H ih.expr hs h1 (by omega) htk.pos hw
  ·rw [if_neg k2] at hw; cases hw
 | none =>
  simp only
  refine (want_res H _ hi).and ?_
  rintro _ _ ⟨rfl, h1⟩
  have a1 : Adv ts st { st with i := st.i + 1 } := .one h1
  refine (ih.expr _ (a1.st hs) (by simp only; omega)).and ?_
  rintro e st2 ⟨a2, he⟩
  refine (want_res H _ a2.i).and ?_
  rintro _ _ ⟨rfl, h3⟩
  exact ⟨(a1.trans a2).trans (.one h3), he⟩
theorem backL_fine (H : TsOk s ts) {f : Nat} (ih : ExpFine s ts num f) (l0 : List PN) (e : Nat) (st : PSt) (hs : St1 ts st) (he : Ends s l0 EK e st) (hf : 12 * (ts.length - st.i) ≤ f + 1) : Res (Loose s ts l0 st) (backL num ts (f + 1) e st) := by
 have hi := hs.i
 obtain ⟨t, ht, htk⟩ := H.get hi
 rw [backL, ht]
 simp only
 rcases take_res H ⟨#[46]⟩ hi with e1 | ⟨e1, e2⟩
 ·rw [e1]
  simp only
  rcases take_res H ⟨#[91]⟩ hi with e3 | ⟨e3, e4⟩
  ·rw [e3]; exact ⟨hi, Nat.le_refl _, Nat.le_refl _, he⟩
  ·rw [e3]
   simp only
   have a1 : Adv ts st { st with i := st.i + 1 } := .one e4
   refine (ih.expr _ (a1.st hs) (by simp only; omega)).and ?_
   rintro i st2 ⟨a2, hi2⟩
   refine (want_res H _ a2.i).and ?_
   rintro _ _ ⟨rfl, h3⟩
   have a3 := (a1.trans a2).trans (.one h3)
   obtain ⟨seg, k, j, q1, q2, q3, q4⟩ := Ends.two he hi2
   have hfew := (a3.st hs).few H
   refine (mk_res (kind := 21) (text := ⟨#[]⟩) (pos := ((t.frm : Nat) : Int)) (st := { st2 with i := st2.i + 1 }) (l0 := l0) (seg := seg) (kn := [k, j]) q1 q2 (ng H htk.pos (by decide) rfl (exprs2 q3 q4) (.inl ⟨rfl, by decide⟩)) (by decide) (by omega)).and ?_
   rintro e' st' ⟨w1, w2, w3⟩
   have := (a1.trans a2).l; have := (a1.trans a2).go; have g2 := a2.go
   simp only at w1 w2 g2
   have a4 : Adv ts st st' := ⟨by omega, by omega, by omega⟩
   exact (ih.backL l0 e' st' (a4.st hs) (w3.mono fun k hk => by subst hk; rfl) (by omega)).mono fun a c h => h.after a4
 ·rw [e1]
  simp only
  have a1 : Adv ts st { st with i := st.i + 1 } := .one e2
  refine (name_res H (show st.i + 1 < ts.length from e2)).and ?_
  rintro n _ ⟨⟨rfl, h2⟩, hnk, hnm⟩
  simp only at h2
  obtain ⟨seg, k, q1, q2, q3⟩ := he
  have hfew := hs.few H
  refine (mk_res (kind := 20) (text := n.text) (pos := ((t.frm : Nat) : Int)) (st := { st with i := st.i + 1 + 1 }) (l0 := l0) (seg := seg) (kn := [k]) q1 q2 (ng H htk.pos (by decide) (textB_name rfl hnm) (shape1 20 q3 rfl) (.inl ⟨rfl, by have := hnk.at'.1; have := H.size; omega⟩)) (by decide) (by simp only; omega)).and ?_
  rintro e' st' ⟨w1, w2, w3⟩
  simp only at w1 w2
  have a4 : Adv ts st st' := ⟨by omega, by omega, by omega⟩
  exact (ih.backL l0 e' st' (a4.st hs) (w3.mono fun k hk => by subst hk; rfl) (by omega)).mono fun a c h => h.after a4
theorem chainL_fine (H : TsOk s ts) {f : Nat} (ih : ExpFine s ts num f) (level : Nat) (l0 : List PN) (e : Nat) (st : PSt) (hs : St1 ts st) (he : Ends s l0 EK e st) (hf : 12 * (ts.length - st.i) ≤ f + 1) : Res (Loose s ts l0 st) (chainL num ts (f + 1) level e st) := by
 have hi := hs.i
 obtain ⟨t, ht, htk⟩ := H.get hi
 rw [chainL, ht]
 simp only
 cases hb : isB t (lvlL.getD level []) with
 | false => exact ⟨hi, Nat.le_refl _, Nat.le_refl _, he⟩
 | true =>
  obtain ⟨b1, b2⟩ := isB_kind hb
  have h1 := H.go ht b1
  have hop := has_op b2
  have hlv : level < 5 := by
   rcases Nat.lt_or_ge level 5 with h | h
   ·exact h
   ·have : lvlL.getD level [] = [] := by rw [List.getD_eq_getElem?_getD, List.getElem?_eq_none (by simpa [lvlL] using h)]; rfl
    rw [this] at b2; cases b2
  simp only [if_true]
  have a1 : Adv ts st { st with i := st.i + 1 } := .one h1
  refine (ih.chain (level + 1) (by omega) _ (a1.st hs) (by simp only; omega)).and ?_
  rintro g st2 ⟨a2, hg⟩
  obtain ⟨seg, k, j, q1, q2, q3, q4⟩ := Ends.two he hg
  have hfew := (a2.st (a1.st hs)).few H
  refine (mk_res (kind := 19) (text := t.text) (pos := ((t.frm : Nat) : Int)) (st := st2) (l0 := l0) (seg := seg) (kn := [k, j]) q1 q2 (ng H htk.pos (by decide) hop (exprs2 q3 q4) (.inr htk.at')) (by decide) (by omega)).and ?_
  rintro e' st' ⟨w1, w2, w3⟩
  have := (a1.trans a2).l; have := (a1.trans a2).go; have g2 := a2.go; have := a2.i; have l2 := a2.l
  simp only at g2 l2
  have a4 : Adv ts st st' := ⟨by omega, by omega, by omega⟩
  exact (ih.chainL level l0 e' st' (a4.st hs) (w3.mono fun k hk => by subst hk; rfl) (by omega)).mono fun a c h => h.after a4
theorem exp_fine (H : TsOk s ts) (hnum : ∀ n : Int, 0 ≤ n → n ≤ 9223372036854775807 → digB (num n) = true ∧ (num n).size < 4611686018427387904) : ∀ f, ExpFine s ts num f
 | 0 => by
  have z : ∀ st, St1 ts st → ∀ c, ¬ 12 * (ts.length - st.i) + c ≤ 0 := fun st hs c h => by have := hs.i; omega
  exact ⟨fun st hs h => (z st hs _ h).elim, fun _ _ st hs _ h => (z st hs 0 h).elim, fun st hs h => (z st hs _ h).elim, fun st hs h => (z st hs _ h).elim, fun _ _ _ st hs _ h => (z st hs 0 h).elim, fun _ _ st hs h => (z st hs _ h).elim, fun st hs h => (z st hs _ h).elim⟩
 | f + 1 => by
  have ih := exp_fine H hnum f
  refine ⟨first_fine H hnum ih, backL_fine H ih, ?_, ?_, chainL_fine H ih, ?_, ?_⟩
  ·intro st hs hf
   rw [backS]
   refine (ih.first st hs (by omega)).and ?_
   rintro e st1 ⟨a1, he⟩
   have := a1.go
   exact (ih.backL st.l e st1 (a1.st hs) he (by omega)).mono fun a c h => ⟨h.adv a1, h.2.2.2⟩
  ·intro st hs hf
   obtain ⟨t, ht, htk⟩ := H.get hs.i
   rw [signS, ht]
   simp only
   cases hb : isB t sgnL with
   | false => exact ih.back st hs (by omega)
   | true =>
    obtain ⟨b1, b2⟩ := isB_kind hb
    have h1 := H.go ht b1
    simp only [if_true]
    have a1 : Adv ts st { st with i := st.i + 1 } := .one h1
    refine (ih.sign _ (a1.st hs) (by simp only; omega)).and ?_
    rintro g st2 ⟨a2, seg, k, q1, q2, q3⟩
    have hfew := (a2.st (a1.st hs)).few H
    refine (mk_res (kind := 18) (text := t.text) (pos := ((t.frm : Nat) : Int)) (st := st2) (l0 := st.l) (seg := seg) (kn := [k]) q1 q2 (ng H htk.pos (by decide) (has_sgn b2) (shape1 18 q3 rfl) (.inr htk.at')) (by decide) (by omega)).mono ?_
    rintro e' st' ⟨w1, w2, w3⟩
    have := (a1.trans a2).l; have := (a1.trans a2).go; have := a2.i; have g2 := a2.go; have l2 := a2.l
    simp only at g2 l2
    exact ⟨⟨by omega, by omega, by omega⟩, w3.mono fun k hk => by subst hk; rfl⟩
  ·intro level hlv st hs hf
   rw [chainS]
   by_cases h5 : level = 5
   ·rw [if_pos h5]
    exact ih.sign st hs (by omega)
   ·rw [if_neg h5]
    refine (ih.chain (level + 1) (by omega) st hs (by omega)).and ?_
    rintro e st1 ⟨a1, he⟩
    have := a1.go
    exact (ih.chainL level st.l e st1 (a1.st hs) he (by omega)).mono fun a c h => ⟨h.adv a1, h.2.2.2⟩
  ·intro st hs hf
   rw [exprS]
   refine (ih.chain 0 (by omega) st hs (by omega)).and ?_
   rintro e st1 ⟨a1, he⟩
   obtain ⟨t, ht, htk⟩ := H.get a1.i
   rw [ht]
   simp only
   cases hb : isB t cmpL with
   | false => exact ⟨a1, he⟩
   | true =>
    obtain ⟨b1, b2⟩ := isB_kind hb
    have h1 := H.go ht b1
    simp only [if_true]
    have g1 := a1.go
    have a2 := a1.trans (.one h1)
    refine (ih.chain 0 (by omega) _ (a2.st hs) (by simp only; omega)).and ?_
    rintro g st2 ⟨a3, hg⟩
    obtain ⟨seg, k, j, q1, q2, q3, q4⟩ := Ends.two he hg
    have hfew := (a3.st (a2.st hs)).few H
    refine (mk_res (kind := 19) (text := t.text) (pos := ((t.frm : Nat) : Int)) (st := st2) (l0 := st.l) (seg := seg) (kn := [k, j]) q1 q2 (ng H htk.pos (by decide) (has_cmp b2) (exprs2 q3 q4) (.inr htk.at')) (by decide) (by omega)).mono ?_
    rintro e' st' ⟨w1, w2, w3⟩
    have := (a2.trans a3).l; have := (a2.trans a3).go; have := a3.i; have g3 := a3.go; have l3 := a3.l; have l1 := a1.l
    simp only at g3 l3
    exact ⟨⟨by omega, by omega, by omega⟩, w3.mono fun k hk => by subst hk; rfl⟩
end Go.Idl
end

section
namespace Go.Idl
variable {s : ByteArray} {ts : List Tok} {num : Int → ByteArray}
def StK (k : Int) : Prop := stmtB k = true
theorem Ends.at {l0 : List PN} {K : Int → Prop} {a : Nat} {st : PSt} (h : Ends s l0 K a st) : ∃ x, st.l[a]? = some x ∧ K x.kind ∧ 0 ≤ x.pos ∧ x.pos ≤ s.size := by
 obtain ⟨seg, k, e1, f1, hk⟩ := h
 obtain ⟨j, ej, hj⟩ := f1.range (a : Int) (by simp)
 have ej : a = l0.length + j := by omega
 have hL : ∀ j x, seg[j]? = some x → st.l[l0.length + j]? = some x := fun j x hx => by
  rw [e1, List.getElem?_append_right (by omega), Nat.add_sub_cancel_left]; exact hx
 obtain ⟨x, hx⟩ : ∃ x, seg[j]? = some x := ⟨_, List.getElem?_eq_getElem hj⟩
 have hat := hL j x hx
 rw [← ej] at hat
 have hn := (f1.nodes hL j x hx).1.pos
 have hkk := f1.kinds hL
 simp only [List.map_cons, List.map_nil, List.cons.injEq, and_true, kindP, Int.toNat_natCast, hat, Option.map_some, Option.getD_some] at hkk
 exact ⟨x, hat, by rw [hkk]; exact hk, hn.1, hn.2⟩
theorem Ends.three {l0 : List PN} {K J I : Int → Prop} {a b c : Nat} {st st' st2 : PSt} (h : Ends s l0 K a st) (h' : Ends s st.l J b st') (h2 : Ends s st'.l I c st2) : ∃ seg k j i, st2.l = l0 ++ seg ∧ Forest s l0.length seg [(a : Int), (b : Int), (c : Int)] [k, j, i] ∧ K k ∧ J j ∧ I i := by
 obtain ⟨seg, k, j, e1, f1, hk, hj⟩ := Ends.two h h'
 obtain ⟨seg2, i, e2, f2, hi⟩ := h2
 exact ⟨seg ++ seg2, k, j, i, by rw [e2, e1, List.append_assoc], f1.append f2 (by rw [e1, List.length_append]), hk, hj, hi⟩
theorem named_res (H : TsOk s ts) {st : PSt} (hs : St1 ts st) : Fine s ts (fun k => k = 17) st (namedS ts st) := by
 refine (name_res H hs.i).and ?_
 rintro t _ ⟨⟨rfl, h2⟩, htk, hnm⟩
 exact leaf_res (K := fun k => k = 17) (i := st.i + 1) (kind := 17) (text := t.text) H hs h2 (ng H htk.pos (by decide) (textB_name rfl hnm) rfl (.inr htk.at')) (by decide) rfl ⟨by omega, h2⟩
theorem closed_res (H : TsOk s ts) {ex : PSt → Option (PR Nat)} {f : Nat} (hex : FineF s ts EK 9 f ex) {st : PSt} {kind : Int} {pos : Nat} (hs : St1 ts st) (hi : st.i + 1 < ts.length) (hf : 12 * (ts.length - (st.i + 1)) + 9 ≤ f) (hp : pos ≤ s.size) (hk : kind = 9 ∨ kind = 10 ∨ kind = 11) : Fine s ts StK st (closedS ts ex kind pos { st with i := st.i + 1 }) := by
 have a0 : Adv ts st { st with i := st.i + 1 } := .one hi
 refine (hex _ (a0.st hs) hf).and ?_
 rintro e st2 ⟨a2, seg, k, e1, f1, hk1⟩
 refine (want_res H _ a2.i).and ?_
 rintro _ _ ⟨rfl, h3⟩
 have a3 := (a0.trans a2).trans (.one h3)
 have hfew := (a3.st hs).few H
 have g1 : NG s [k] ⟨kind, ⟨#[]⟩, [(e : Int)], (pos : Int)⟩ := by
  rcases hk with rfl | rfl | rfl
  ·exact ng H hp (by decide) rfl (shape1 9 hk1 rfl) (.inl ⟨rfl, by decide⟩)
  ·exact ng H hp (by decide) rfl (shape1 10 hk1 rfl) (.inl ⟨rfl, by decide⟩)
  ·exact ng H hp (by decide) rfl (shape1 11 hk1 rfl) (.inl ⟨rfl, by decide⟩)
 refine (mk_res (kind := kind) (text := ⟨#[]⟩) (pos := (pos : Int)) (st := { st2 with i := st2.i + 1 }) (l0 := st.l) (seg := seg) (kn := [k]) e1 f1 g1 (by omega) (by omega)).mono ?_
 rintro a st' ⟨e2, e3, e4⟩
 have l2 := (a0.trans a2).l
 have g2 := (a0.trans a2).go
 simp only at e2 e3
 exact ⟨⟨by omega, by omega, by omega⟩, e4.mono fun k hk' => by subst hk'; exact decide_eq_true (by omega)⟩
theorem let_res (H : TsOk s ts) {ex : PSt → Option (PR Nat)} {f : Nat} (hex : FineF s ts EK 9 f ex) {st : PSt} (hs : St1 ts st) (hi : st.i + 1 < ts.length) (hf : 12 * (ts.length - (st.i + 1)) + 9 ≤ f) : Fine s ts StK st (letS ts ex { st with i := st.i + 1 }) := by
 refine (name_res H (show st.i + 1 < ts.length from hi)).and ?_
 rintro t _ ⟨⟨rfl, h2⟩, htk, hnm⟩
 refine (want_res H _ h2).and ?_
 rintro _ _ ⟨rfl, h3⟩
 simp only at h2 h3
 have a1 : Adv ts st { st with i := st.i + 1 + 1 + 1 } := ⟨h3, by simp only; omega, by simp only; omega⟩
 refine (hex _ (a1.st hs) (by simp only; omega)).and ?_
 rintro e st2 ⟨a2, seg, k, e1, f1, hk1⟩
 refine (want_res H _ a2.i).and ?_
 rintro _ _ ⟨rfl, h3⟩
 have a3 := (a1.trans a2).trans (.one h3)
 have hfew := (a3.st hs).few H
 refine (mk_res (kind := 5) (text := t.text) (pos := ((t.frm : Nat) : Int)) (st := { st2 with i := st2.i + 1 }) (l0 := st.l) (seg := seg) (kn := [k]) e1 f1 (ng H htk.pos (by decide) (textB_name rfl hnm) (shape1 5 hk1 rfl) (.inr htk.at')) (by omega) (by omega)).mono ?_
 rintro a st' ⟨e2, e3, e4⟩
 have l2 := (a1.trans a2).l
 have g2 := (a1.trans a2).go
 simp only at e2 e3
 exact ⟨⟨by omega, by omega, by omega⟩, e4.mono fun k hk' => by subst hk'; rfl⟩
theorem merge_res (H : TsOk s ts) {f : Nat} {st : PSt} {pos : Nat} (hs : St1 ts st) (hi : st.i + 1 < ts.length) (hf : ts.length - (st.i + 1) ≤ f) (hp : pos ≤ s.size) : Fine s ts StK st (mergeS ts f pos { st with i := st.i + 1 }) := by
 refine (want_res H _ (show st.i + 1 < ts.length from hi)).and ?_
 rintro _ _ ⟨rfl, h2⟩
 simp only at h2
 have a1 : Adv ts st { st with i := st.i + 1 + 1 } := ⟨h2, by simp only; omega, by simp only; omega⟩
 refine (list_res H (a1.st hs) (K := fun k => k = 17) (fun st' hs' hi' => named_res H hs') (by simp only; omega)).and ?_
 rintro kids st2 ⟨a2, hk, seg, kn, e1, f1, hkn⟩
 refine (want_res H _ a2.i).and ?_
 rintro _ _ ⟨rfl, h3⟩
 have a3 := (a1.trans a2).trans (.one h3)
 have hfew := (a3.st hs).few H
 have hsh : shapeB 13 kn = true := List.all_eq_true.2 fun k hk => by rw [hkn k hk]; rfl
 refine (mk_res (kind := 13) (text := ⟨#[]⟩) (pos := (pos : Int)) (st := { st2 with i := st2.i + 1 }) (l0 := st.l) (seg := seg) (kn := kn) e1 f1 (ng H hp (by decide) rfl hsh (.inl ⟨rfl, by decide⟩)) (by omega) (by omega)).mono ?_
 rintro a st' ⟨e2, e3, e4⟩
 have l2 := (a1.trans a2).l
 have g2 := (a1.trans a2).go
 simp only at e2 e3
 exact ⟨⟨by omega, by omega, by omega⟩, e4.mono fun k hk' => by subst hk'; rfl⟩
theorem loop_res (H : TsOk s ts) {ex bl : PSt → Option (PR Nat)} {f : Nat} (hex : FineF s ts EK 9 f ex) (hbl : FineF s ts (fun k => k = 4) 0 f bl) {st : PSt} {pos : Nat} (hs : St1 ts st) (hi : st.i + 1 < ts.length) (hf : 12 * (ts.length - (st.i + 1)) + 9 ≤ f) (hp : pos ≤ s.size) : Fine s ts StK st (loopS ex bl pos { st with i := st.i + 1 }) := by
 have a0 : Adv ts st { st with i := st.i + 1 } := .one hi
 refine (hex _ (a0.st hs) hf).and ?_
 rintro e st2 ⟨a2, he⟩
 have g2 := a2.go
 simp only at g2
 refine (hbl _ ((a0.trans a2).st hs) (by omega)).and ?_
 rintro b st3 ⟨a3, hb⟩
 obtain ⟨seg, k, j, q1, q2, q3, q4⟩ := Ends.two he hb
 subst q4
 have a4 := (a0.trans a2).trans a3
 have hfew := (a4.st hs).few H
 have hsh : shapeB 8 [k, 4] = true := by
  show (decide ([k, 4].length = 2) && exprB k && true) = true
  rw [show exprB k = true from q3]; rfl
 refine (mk_res (kind := 8) (text := ⟨#[]⟩) (pos := (pos : Int)) (st := st3) (l0 := st.l) (seg := seg) (kn := [k, 4]) q1 q2 (ng H hp (by decide) rfl hsh (.inl ⟨rfl, by decide⟩)) (by omega) (by omega)).mono ?_
 rintro a st' ⟨e2, e3, e4⟩
 have l3 := a2.l
 have l4 := a3.l
 have g3 := a3.go
 have i3 := a3.i
 simp only at l3
 exact ⟨⟨by omega, by omega, by omega⟩, e4.mono fun k hk' => by subst hk'; rfl⟩
theorem choice_res (H : TsOk s ts) {ex bl : PSt → Option (PR Nat)} {f : Nat} (hex : FineF s ts EK 9 f ex) (hbl : FineF s ts (fun k => k = 4) 0 f bl) {st : PSt} {pos : Nat} (hs : St1 ts st) (hi : st.i + 1 < ts.length) (hf : 12 * (ts.length - (st.i + 1)) + 9 ≤ f) (hp : pos ≤ s.size) : Fine s ts StK st (choiceS ts ex bl pos { st with i := st.i + 1 }) := by
 have a0 : Adv ts st { st with i := st.i + 1 } := .one hi
 refine (hex _ (a0.st hs) hf).and ?_
 rintro e st2 ⟨a2, he⟩
 have g2 := a2.go
 simp only at g2
 refine (hbl _ ((a0.trans a2).st hs) (by omega)).and ?_
 rintro b st3 ⟨a3, hb⟩
 have g3 := a3.go
 have i3 := a3.i
 have l2 := a2.l
 have l3 := a3.l
 simp only at l2
 have a4 := (a0.trans a2).trans a3
 have fin : ∀ (c : Nat) (st4 : PSt) (i : Int), st4.i < ts.length → st3.i ≤ st4.i → st4.l.length + 2 * st3.i ≤ st3.l.length + 2 * st4.i + 1 → Ends s st3.l (fun k => k = i) c st4 → (i = 4 ∨ i = 14) → Fine s ts StK st (mkS 7 ⟨#[]⟩ pos [(e : Int), (b : Int), (c : Int)] st4) := fun c st4 i h1 h2 h3 hc hi4 => by
  obtain ⟨seg, k, j, i', q1, q2, q3, q4, q5⟩ := Ends.three he hb hc
  subst q4
  subst q5
  have hsh : shapeB 7 [k, 4, i'] = true := by
   show (decide ([k, 4, i'].length = 3) && exprB k && true && (i' == 4 || i' == 14)) = true
   rw [show exprB k = true from q3]
   rcases hi4 with rfl | rfl <;> rfl
  have hfew := (a4.st hs).few H
  have := H.len.2
  have := hs.l
  refine (mk_res (kind := 7) (text := ⟨#[]⟩) (pos := (pos : Int)) (st := st4) (l0 := st.l) (seg := seg) (kn := [k, 4, i']) q1 q2 (ng H hp (by decide) rfl hsh (.inl ⟨rfl, by decide⟩)) (by omega) (by omega)).mono ?_
  rintro a st' ⟨e2, e3, e4⟩
  exact ⟨⟨by omega, by omega, by omega⟩, e4.mono fun k hk' => by subst hk'; rfl⟩
 rcases take_res H ⟨#[101, 108, 115, 101]⟩ a3.i with e1 | ⟨e1, e2⟩
 ·rw [e1]
  simp only
  have hfew := (a4.st hs).few H
  refine (mk_res (kind := 14) (text := ⟨#[]⟩) (pos := ((0 : Nat) : Int)) (st := st3) (l0 := st3.l) (seg := []) (kn := []) (by simp) (.nil _) (ng H (Nat.zero_le _) (by decide) rfl rfl (.inl ⟨rfl, by decide⟩)) (by omega) (by omega)).and ?_
  rintro c st4 ⟨w1, w2, w3⟩
  exact fin c st4 14 (by omega) (by omega) (by omega) w3 (.inr rfl)
 ·rw [e1]
  simp only
  have a5 : Adv ts st3 { st3 with i := st3.i + 1 } := .one e2
  refine (hbl _ (a5.st (a4.st hs)) (by simp only; omega)).and ?_
  rintro c st4 ⟨a6, hc⟩
  have a7 := a5.trans a6
  have := a7.l
  have := a7.go
  exact fin c st4 4 a7.i (by omega) (by omega) hc (.inl rfl)
theorem sword_res (H : TsOk s ts) {ex bl : PSt → Option (PR Nat)} {f : Nat} (hex : FineF s ts EK 9 f ex) (hbl : FineF s ts (fun k => k = 4) 0 f bl) {st : PSt} {pos : Nat} {w : ByteArray} {g : Int → PSt → Option (PR Nat)} (hs : St1 ts st) (hi : st.i + 1 < ts.length) (hf : 12 * (ts.length - (st.i + 1)) + 9 ≤ f) (hp : pos ≤ s.size) (hw : swordS ts ex bl f w = some g) : Fine s ts StK st (g pos { st with i := st.i + 1 }) := by
 rw [swordS] at hw
 split at hw
 ·cases hw; exact let_res H hex hs hi hf
 split at hw
 ·cases hw; exact choice_res H hex hbl hs hi hf hp
 split at hw
 ·cases hw; exact loop_res H hex hbl hs hi hf hp
 split at hw
 ·cases hw; exact closed_res H hex hs hi hf hp (by omega)
 split at hw
 ·cases hw; exact closed_res H hex hs hi hf hp (by omega)
 split at hw
 ·cases hw; exact closed_res H hex hs hi hf hp (by omega)
 split at hw
 ·cases hw; exact merge_res H hs hi (by omega) hp
 ·cases hw
structure StmtFine (s : ByteArray) (ts : List Tok) (num : Int → ByteArray) (f : Nat) : Prop where
 stmt : FineF s ts StK 2 f (stmtS num ts f)
 many : ∀ l0 i0 acc st, St1 ts st → i0 < st.i → acc.length + i0 ≤ st.i → EndsL s l0 StK acc st → 12 * (ts.length - st.i) + 3 ≤ f → Res (fun kids st' => st'.i < ts.length ∧ st.i ≤ st'.i ∧ st'.l.length + 2 * st.i ≤ st.l.length + 2 * st'.i ∧ kids.length + i0 ≤ st'.i ∧ EndsL s l0 StK kids st') (manyS num ts f acc st)
 block : FineF s ts (fun k => k = 4) 0 f (blockS num ts f)
theorem stmt_fine (H : TsOk s ts) (hnum : ∀ n : Int, 0 ≤ n → n ≤ 9223372036854775807 → digB (num n) = true ∧ (num n).size < 4611686018427387904) : ∀ f, StmtFine s ts num f
 | 0 => by
  have z : ∀ st, St1 ts st → ∀ c, ¬ 12 * (ts.length - st.i) + c ≤ 0 := fun st hs c h => by have := hs.i; omega
  exact ⟨fun st hs h => (z st hs _ h).elim, fun _ _ _ st hs _ _ _ h => (z st hs _ h).elim, fun st hs h => (z st hs _ h).elim⟩
 | f + 1 => by
  have ih := stmt_fine H hnum f
  have E := exp_fine (num := num) H hnum f
  refine ⟨?_, ?_, ?_⟩
  ·intro st hs hf
   obtain ⟨t, ht, htk⟩ := H.get hs.i
   have hi := hs.i
   rw [stmtS, ht]
   simp only
   cases hw : (if t.kind = 2 then swordS ts (exprS num ts f) (blockS num ts f) f t.text else none) with
   | some g =>
    by_cases k2 : t.kind = 2
    ·rw [if_pos k2] at hw
     have h1 := H.go ht (by omega)
     exact sword_res H E.expr ih.block hs h1 (by omega) htk.pos hw
    ·rw [if_neg k2] at hw; cases hw
   | none =>
    simp only
    refine (E.back st hs (by omega)).and ?_
    rintro e st1 ⟨a1, he⟩
    obtain ⟨x, hx, hxk, hx0, hx1⟩ := he.at
    obtain ⟨t1, ht1, htk1⟩ := H.get a1.i
    rw [ht1, hx]
    simp only
    have g1 := a1.go
    have l1 := a1.l
    obtain ⟨seg, k, q1, q2, q3⟩ := he
    have hkx : x.kind = k := by
     have hL : ∀ j x, seg[j]? = some x → st1.l[st.l.length + j]? = some x := fun j x hx => by
      rw [q1, List.getElem?_append_right (by omega), Nat.add_sub_cancel_left]; exact hx
     have := q2.kinds hL
     simp only [List.map_cons, List.map_nil, List.cons.injEq, and_true, kindP, Int.toNat_natCast, hx, Option.map_some, Option.getD_some] at this
     exact this
    by_cases k22 : x.kind = 22
    ·rw [if_pos k22]
     rcases take_res H ⟨#[59]⟩ a1.i with e1 | ⟨e1, e2⟩
     ·rw [e1]; exact (by decide : (60 : Int) ≠ 0)
     ·rw [e1]
      simp only
      have a2 := a1.trans (.one e2)
      have hfew := (a2.st hs).few H
      have hxp : x.pos = ((x.pos.toNat : Nat) : Int) := by omega
      have hk' : k = 22 := by omega
      subst hk'
      rw [hxp]
      refine (mk_res (kind := 12) (text := ⟨#[]⟩) (pos := ((x.pos.toNat : Nat) : Int)) (st := { st1 with i := st1.i + 1 }) (l0 := st.l) (seg := seg) (kn := [22]) q1 q2 (ng H (by omega) (by decide) rfl rfl (.inl ⟨rfl, by decide⟩)) (by omega) (by omega)).mono ?_
      rintro a st' ⟨e2, e3, e4⟩
      simp only at e2 e3
      exact ⟨⟨by omega, by omega, by omega⟩, e4.mono fun k hk' => by subst hk'; rfl⟩
    ·rw [if_neg k22]
     cases hpl : placeK x.kind with
     | false => exact (by decide : (60 : Int) ≠ 0)
     | true =>
      simp only [if_true]
      refine (want_res H _ a1.i).and ?_
      rintro _ _ ⟨rfl, h2⟩
      have a2 := a1.trans (.one h2)
      refine (E.expr _ (a2.st hs) (by simp only; omega)).and ?_
      rintro g st2 ⟨a3, hg⟩
      refine (want_res H _ a3.i).and ?_
      rintro _ _ ⟨rfl, h3⟩
      have a4 := (a2.trans a3).trans (.one h3)
      have hfew := (a4.st hs).few H
      obtain ⟨seg3, k', j, r1, r2, r3, r4⟩ := Ends.two (⟨seg, k, q1, q2, rfl⟩ : Ends s st.l (fun i => i = k) e st1) hg
      have r3 : k' = k := r3
      subst r3
      have hsh : shapeB 6 [k', j] = true := by
       show (exprsB [k', j] 2 && (k' == 17 || k' == 20 || k' == 21 || k' == 30)) = true
       rw [exprs2 q3 r4]
       rw [placeK, hkx] at hpl
       exact hpl
      refine (mk_res (kind := 6) (text := ⟨#[]⟩) (pos := ((t1.frm : Nat) : Int)) (st := { st2 with i := st2.i + 1 }) (l0 := st.l) (seg := seg3) (kn := [k', j]) r1 r2 (ng H htk1.pos (by decide) rfl hsh (.inl ⟨rfl, by decide⟩)) (by omega) (by omega)).mono ?_
      rintro a st' ⟨e2, e3, e4⟩
      have := a3.l; have := a3.go
      simp only at *
      exact ⟨⟨by omega, by omega, by omega⟩, e4.mono fun k hk' => by subst hk'; rfl⟩
  ·intro l0 i0 acc st hs hi0 hacc he hf
   have hi := hs.i
   have hlen := H.len.2
   obtain ⟨t, ht, htk⟩ := H.get hi
   rw [manyS, if_neg (by omega), ht]
   simp only
   cases hb : isB t [⟨#[125]⟩] with
   | true => exact ⟨hi, Nat.le_refl _, Nat.le_refl _, hacc, he⟩
   | false =>
    simp only [Bool.false_eq_true, if_false]
    refine (ih.stmt st hs (by omega)).and ?_
    rintro k st2 ⟨a2, seg2, k2, e1, f2, hk2⟩
    obtain ⟨seg, kn, e3, f3, hkn⟩ := he
    have g2 := a2.go
    have l2 := a2.l
    refine (ih.many l0 i0 (acc ++ [(k : Int)]) st2 (a2.st hs) (by omega) (by rw [List.length_append, List.length_singleton]; omega) ⟨seg ++ seg2, kn ++ [k2], by rw [e1, e3, List.append_assoc], f3.append f2 (by rw [e3, List.length_append]), fun k hk => ?_⟩ (by omega)).mono ?_
    ·rcases List.mem_append.1 hk with hk | hk
     ·exact hkn k hk
     ·rw [List.mem_singleton] at hk; subst hk; exact hk2
    ·rintro kids st' ⟨q1, q2, q3, q4, q5⟩
     exact ⟨q1, by omega, by omega, q4, q5⟩
  ·intro st hs hf
   obtain ⟨t, ht, htk⟩ := H.get hs.i
   rw [blockS, ht]
   simp only
   refine (want_res H _ hs.i).and ?_
   rintro _ _ ⟨rfl, h2⟩
   have a1 : Adv ts st { st with i := st.i + 1 } := .one h2
   refine (ih.many st.l st.i [] _ (a1.st hs) (Nat.lt_succ_self _) (by simp) ⟨[], [], by simp, .nil _, by simp⟩ (by simp only; omega)).and ?_
   rintro kids st2 ⟨q1, q2, q3, q4, seg, kn, e1, f1, hkn⟩
   refine (want_res H _ q1).and ?_
   rintro _ _ ⟨rfl, h3⟩
   simp only at q2 q3
   have a2 : Adv ts st { st2 with i := st2.i + 1 } := ⟨h3, by simp only; omega, by simp only; omega⟩
   have hfew := (a2.st hs).few H
   have hsh : shapeB 4 kn = true := List.all_eq_true.2 fun k hk => hkn k hk
   refine (mk_res (kind := 4) (text := ⟨#[]⟩) (pos := ((t.frm : Nat) : Int)) (st := { st2 with i := st2.i + 1 }) (l0 := st.l) (seg := seg) (kn := kn) e1 f1 (ng H htk.pos (by decide) rfl hsh (.inl ⟨rfl, by decide⟩)) (by omega) (by omega)).mono ?_
   rintro a st' ⟨e2, e3, e4⟩
   simp only at e2 e3
   exact ⟨⟨by omega, by omega, by omega⟩, e4⟩
def DeK (k : Int) : Prop := (k == 2 || k == 3) = true
theorem decl_fine (H : TsOk s ts) {bl : PSt → Option (PR Nat)} {f : Nat} (hbl : FineF s ts (fun k => k = 4) 0 f bl) {st : PSt} (hs : St1 ts st) (hf : 12 * (ts.length - st.i) ≤ f) : Fine s ts DeK st (declS ts bl f st) := by
 have hi := hs.i
 rw [declS]
 rcases take_res H ⟨#[114, 101, 99]⟩ hi with e1 | ⟨e1, e2⟩
 ·rw [e1]
  simp only [fnS]
  refine (want_res H _ hi).and ?_
  rintro _ _ ⟨rfl, h1⟩
  refine (name_res H h1).and ?_
  rintro t _ ⟨⟨rfl, h2⟩, htk, hnm⟩
  refine (want_res H _ h2).and ?_
  rintro _ _ ⟨rfl, h3⟩
  simp only at h1 h2 h3
  have a1 : Adv ts st { st with i := st.i + 1 + 1 + 1 } := ⟨h3, by simp only; omega, by simp only; omega⟩
  refine (list_res H (a1.st hs) (K := fun k => k = 17) (fun st' hs' hi' => named_res H hs') (by simp only; omega)).and ?_
  rintro kids st2 ⟨a2, hk, seg, kn, q1, f1, hkn⟩
  have a3 := a1.trans a2
  have i2 := a2.i
  have := H.len.2
  rw [if_neg (by omega)]
  have g2 := a2.go
  simp only at g2
  refine (hbl _ (a3.st hs) (by omega)).and ?_
  rintro b st3 ⟨a4, seg2, j, q2, f2, rfl⟩
  have a5 := a3.trans a4
  have hfew := (a5.st hs).few H
  have hlen := f1.len
  have hsh : shapeB 3 (kn ++ [4]) = true := by
   show (decide (0 < (kn ++ [4]).length) && (((kn ++ [4]).take ((kn ++ [4]).length - 1)).all fun k => k == 17) && ((kn ++ [4]).getD ((kn ++ [4]).length - 1) 0 == 4)) = true
   rw [List.length_append, List.length_singleton, Nat.add_sub_cancel, List.take_left', List.getD_eq_getElem?_getD, List.getElem?_append_right (Nat.le_refl _), Nat.sub_self]
   ·rw [decide_eq_true (by omega), show (kn.all fun k => k == 17) = true from List.all_eq_true.2 fun k hk => by rw [hkn k hk]; rfl]; rfl
   ·rfl
  refine (mk_res (kind := 3) (text := t.text) (pos := ((t.frm : Nat) : Int)) (kids := kids ++ [(b : Int)]) (st := st3) (l0 := st.l) (seg := seg ++ seg2) (kn := kn ++ [4]) (by rw [q2, q1, List.append_assoc]) (f1.append f2 (by rw [q1, List.length_append])) (ng H htk.pos (by decide) (textB_name rfl hnm) hsh (.inr htk.at')) (by omega) (by omega)).mono ?_
  rintro a st' ⟨e2, e3, e4⟩
  have := a2.l; have := a4.l; have := a4.go; have := a4.i
  simp only at *
  exact ⟨⟨by omega, by omega, by omega⟩, e4.mono fun k hk' => by subst hk'; rfl⟩
 ·rw [e1]
  simp only [recS]
  refine (name_res H e2).and ?_
  rintro t _ ⟨⟨rfl, h2⟩, htk, hnm⟩
  refine (want_res H _ h2).and ?_
  rintro _ _ ⟨rfl, h3⟩
  simp only at h2 h3
  have a1 : Adv ts st { st with i := st.i + 1 + 1 + 1 } := ⟨h3, by simp only; omega, by simp only; omega⟩
  refine (list_res H (a1.st hs) (K := fun k => k = 17) (fun st' hs' hi' => named_res H hs') (by simp only; omega)).and ?_
  rintro kids st2 ⟨a2, hk, seg, kn, q1, f1, hkn⟩
  have a3 := a1.trans a2
  have hfew := (a3.st hs).few H
  have hsh : shapeB 2 kn = true := List.all_eq_true.2 fun k hk => by rw [hkn k hk]; rfl
  refine (mk_res (kind := 2) (text := t.text) (pos := ((t.frm : Nat) : Int)) (st := st2) (l0 := st.l) (seg := seg) (kn := kn) q1 f1 (ng H htk.pos (by decide) (textB_name rfl hnm) hsh (.inr htk.at')) (by omega) (by omega)).mono ?_
  rintro a st' ⟨e2, e3, e4⟩
  have := a2.l; have := a2.go; have := a2.i
  simp only at *
  exact ⟨⟨by omega, by omega, by omega⟩, e4.mono fun k hk' => by subst hk'; rfl⟩
end Go.Idl
end

section
namespace Go.Idl
variable {s : ByteArray} {ts : List Tok} {num : Int → ByteArray}
theorem decls_fine (H : TsOk s ts) (hnum : ∀ n : Int, 0 ≤ n → n ≤ 9223372036854775807 → digB (num n) = true ∧ (num n).size < 4611686018427387904) {F : Nat} (hF : 12 * ts.length ≤ F) : ∀ (g : Nat) (acc : List Int) (st : PSt), St1 ts st → acc.length ≤ st.i → EndsL s [] DeK acc st → ts.length - st.i < g →
 Res (fun kids st' => st'.i < ts.length ∧ st'.l.length ≤ 2 * st'.i ∧ EndsL s [] DeK kids st') (declsS num ts F g acc st)
 | 0, acc, st, hs, ha, he, hg => by omega
 | g + 1, acc, st, hs, ha, he, hg => by
  have hi := hs.i
  have hlen := H.len.2
  obtain ⟨t, ht, htk⟩ := H.get hi
  rw [declsS, if_neg (by omega), ht]
  simp only
  by_cases hk : t.kind = 0
  ·rw [if_pos hk]; exact ⟨hi, hs.l, he⟩
  ·rw [if_neg hk]
   refine (decl_fine H (stmt_fine (num := num) H hnum F).block hs (by omega)).and ?_
   rintro k st2 ⟨a2, seg2, k2, e1, f2, hk2⟩
   obtain ⟨seg, kn, e3, f3, hkn⟩ := he
   have g2 := a2.go
   refine decls_fine H hnum hF g (acc ++ [(k : Int)]) st2 (a2.st hs) (by rw [List.length_append, List.length_singleton]; omega) ⟨seg ++ seg2, kn ++ [k2], by rw [e1, e3, List.append_assoc], f3.append f2 (by rw [e3, List.length_append]), fun k hk => ?_⟩ (by omega)
   rcases List.mem_append.1 hk with hk | hk
   ·exact hkn k hk
   ·rw [List.mem_singleton] at hk; subst hk; exact hk2
theorem flat_le {l : List PN} {x : PN} (h : x ∈ l) : x.kids.length ≤ (l.flatMap (·.kids)).length := by
 induction l with
 | nil => cases h
 | cons y l ih =>
  rw [List.flatMap_cons, List.length_append]
  rcases List.mem_cons.1 h with rfl | h
  ·omega
  ·have := ih h; omega
theorem Forest.kids_le {o : Nat} {l : List PN} {ks kn : List Int} (a : Forest s o l ks kn) : (∀ x ∈ l, x.kids.length ≤ l.length) ∧ ks.length ≤ l.length := by
 have := a.perm.length_eq
 rw [List.length_append, List.length_map, List.length_range'] at this
 exact ⟨fun x hx => by have := flat_le hx; omega, by omega⟩
def TreeOf (s : ByteArray) (l : List PN) : Prop := ∃ seg kids kn, l = seg ++ [⟨1, ⟨#[]⟩, kids, 0⟩] ∧ Forest s 0 seg kids kn ∧ (kn.all fun k => k == 2 || k == 3) = true ∧ l.length ≤ 50000 ∧ deepOf (l.map PN.nd) ≤ 200
def RFine (s : ByteArray) : PO → Prop
 | .ok l => TreeOf s l
 | .err _ e => e ≠ 0
theorem tree_fine (H : TsOk s ts) (hnum : ∀ n : Int, 0 ≤ n → n ≤ 9223372036854775807 → digB (num n) = true ∧ (num n).size < 4611686018427387904) {f : Nat} (hf : 12 * ts.length + 20 ≤ f) : ∃ r, treeS num f ts = some r ∧ RFine s r := by
 have hd := decls_fine (num := num) H hnum (F := f) (by omega) f [] ⟨0, []⟩ ⟨H.len.1, Nat.le_refl _⟩ (Nat.le_refl _) ⟨[], [], rfl, .nil _, by simp⟩ (by simp only; omega)
 rw [treeS]
 cases hm : declsS num ts f f [] ⟨0, []⟩ with
 | none => rw [hm] at hd; exact hd.elim
 | some q =>
  rw [hm] at hd
  cases q with
  | err a e => exact ⟨_, rfl, hd⟩
  | ok kids st =>
   obtain ⟨h1, h2, seg, kn, e1, f1, hkn⟩ := hd
   have hlen := H.len.2
   rw [List.nil_append] at e1
   simp only [nodeS]
   rw [if_pos (by omega)]
   simp only
   obtain ⟨hk1, hk2⟩ := f1.kids_le
   by_cases hbig : 50000 < (st.l ++ [(⟨1, ⟨#[]⟩, kids, 0⟩ : PN)]).length
   ·rw [if_pos hbig]; exact ⟨_, rfl, (by decide : (2 : Int) ≠ 0)⟩
   ·rw [if_neg hbig]
    have hl : (st.l ++ [(⟨1, ⟨#[]⟩, kids, 0⟩ : PN)]).length = seg.length + 1 := by rw [e1, List.length_append, List.length_singleton]
    rw [if_pos]
    ·by_cases hdp : 200 < deepOf ((st.l ++ [(⟨1, ⟨#[]⟩, kids, 0⟩ : PN)]).map PN.nd)
     ·rw [if_pos hdp]; exact ⟨_, rfl, (by decide : (51 : Int) ≠ 0)⟩
     ·rw [if_neg hdp]
      refine ⟨_, rfl, ?_⟩
      exact ⟨seg, kids, kn, by rw [e1], f1, List.all_eq_true.2 hkn, by omega, by omega⟩
    ·refine List.all_eq_true.2 fun x hx => decide_eq_true ?_
     rcases List.mem_append.1 hx with hx | hx
     ·rw [e1] at hx
      have := hk1 x hx
      omega
     ·rw [List.mem_singleton] at hx
      subst hx
      show kids.length ≤ 100000
      omega
end Go.Idl
end

section
namespace Go.Idl
variable {s : ByteArray} {ts : List Tok} {num : Int → ByteArray}
theorem runN_take : ∀ (l : List UInt8), ∀ c ∈ l.take (runN l), (isL c.toNat || isD c.toNat) = true
 | [], c, h => by simp [runN] at h
 | x :: l, c, h => by
  rw [runN] at h
  by_cases hx : (isL x.toNat || isD x.toNat) = true
  ·rw [if_pos hx, List.take_succ_cons] at h
   rcases List.mem_cons.1 h with rfl | h
   ·exact hx
   ·exact runN_take l c h
  ·rw [if_neg hx, List.take_zero] at h; cases h
theorem numR_range {l : List UInt8} : 0 ≤ (numR l).1 ∧ (numR l).1 ≤ 9223372036854775807 := by
 have hw : ∀ (base : Int) (l : List UInt8), 0 < base → 0 ≤ (wholeR base l).1 ∧ (wholeR base l).1 ≤ 9223372036854775807 := fun base l hb => by
  unfold wholeR
  cases h : wholeF base l 0 with
  | none => exact ⟨Int.le_refl _, by show (0 : Int) ≤ 9223372036854775807; decide⟩
  | some m => exact wholeF_range hb (by decide) (by decide) h
 unfold numR
 split
 ·split
  ·have := u8_lt (l.getD 1 0)
   simp only [bt]; omega
  ·exact ⟨by decide, by decide⟩
 ·split
  ·exact hw 16 _ (by decide)
  ·exact hw 10 _ (by decide)
theorem bs_mk (l : List UInt8) : bs ⟨l.toArray⟩ = l := rfl
theorem sz_mk (l : List UInt8) : (ByteArray.mk l.toArray).size = l.length := by rw [bs_size, bs_mk]
theorem nextA_ok {a : Nat} (ha : a ≤ s.size) (h0 : (nextA ((bs s).drop a) a).2.1 = 0) : TokOk s (nextA ((bs s).drop a) a).1 ∧ (nextA ((bs s).drop a) a).2.2 ≤ s.size := by
 have hlen : ((bs s).drop a).length = s.size - a := by rw [List.length_drop, bs_size]
 cases hl : (bs s).drop a with
 | nil =>
  refine ⟨⟨⟨by show a + 0 ≤ s.size; omega, rfl⟩, fun h => (by cases h), Int.le_refl _, (by show (0 : Int) ≤ 9223372036854775807; decide)⟩, ha⟩
 | cons c r =>
  rw [hl] at h0 hlen
  simp only [nextA] at h0 ⊢
  split at h0
  ·cases h0
  rename_i h41
  rw [if_neg h41]
  split at h0
  ·cases h0
  rename_i h40
  rw [if_neg h40]
  have hc : c.toNat < 256 := c.toNat_lt
  have hsz : (ByteArray.mk ((c :: r).take (lenT (c :: r) c)).toArray).size = min (lenT (c :: r) c) (c :: r).length := by rw [sz_mk, List.length_take]
  have hn : lenT (c :: r) c ≤ (c :: r).length := lenT_le (l := c :: r) rfl (fun _ => sign_fits rfl)
  refine ⟨⟨⟨?_, ?_⟩, fun hk => ?_, ?_⟩, by simp only; omega⟩
  ·simp only [hsz]; omega
  ·simp only [hsz, hl, bs_mk]
   rw [Nat.min_eq_left hn]
  ·simp only at hk ⊢
   unfold kindT at hk
   split at hk
   ·rename_i h2
    split at hk
    ·cases hk
    ·rename_i hw
     have hL : isL c.toNat = true := by rw [← cls2 hc]; exact decide_eq_true h2
     have hlT : lenT (c :: r) c = runN (c :: r) := by rw [lenT, if_pos h2]
     have hall := runN_take (c :: r)
     rw [hlT] at hw ⊢
     have hr : runN (c :: r) = runN r + 1 := by rw [runN, hL]; rfl
     rw [hr, List.take_succ_cons] at hw hall ⊢
     rw [nameB, bs_mk, decide_eq_true (by simp), Bool.and_true, Bool.and_eq_true]
     refine ⟨?_, by simpa using hw⟩
     rw [nameC, hL, Bool.true_and]
     exact List.all_eq_true.2 fun x hx => hall x (List.mem_cons_of_mem _ hx)
   ·repeat' split at hk
    all_goals cases hk
  ·simp only
   split
   ·exact numR_range
   ·exact ⟨Int.le_refl _, by decide⟩
theorem skip_size {a : Nat} (ha : a ≤ s.size) : a + skipN ((bs s).drop a) false ≤ s.size ∧ ((bs s).drop a).drop (skipN ((bs s).drop a) false) = (bs s).drop (a + skipN ((bs s).drop a) false) := by
 have := skipN_le ((bs s).drop a) false
 rw [List.length_drop, ← bs_size] at this
 exact ⟨by omega, List.drop_drop⟩
theorem scanL_ok : ∀ (f : Nat) (a : Nat) (acc : List Tok), a ≤ s.size → s.size - a < f → (∀ t ∈ acc, TokOk s t) → (scanL f ((bs s).drop a) a acc).2.2 = 0 → ∃ l t, (scanL f ((bs s).drop a) a acc).1 = l ++ [t] ∧ t.kind = 0 ∧ (∀ t ∈ l, TokOk s t) ∧ TokOk s t
 | 0, a, acc, ha, hf, hok, h => by omega
 | f + 1, a, acc, ha, hf, hok, h => by
  obtain ⟨hs1, hs2⟩ := skip_size (s := s) ha
  simp only [scanL] at h ⊢
  by_cases he : (nextL ((bs s).drop a) a).2.1 = 0
  ·rw [if_pos he] at h ⊢
   have hna : nextL ((bs s).drop a) a = nextA ((bs s).drop (a + skipN ((bs s).drop a) false)) (a + skipN ((bs s).drop a) false) := by rw [nextL, hs2]
   have hT := nextA_ok hs1 (by rw [← hna]; exact he)
   rw [← hna] at hT
   by_cases hk : (nextL ((bs s).drop a) a).1.kind = 0
   ·rw [if_pos hk] at h ⊢
    exact ⟨acc, _, rfl, hk, hok, hT.1⟩
   ·rw [if_neg hk] at h ⊢
    obtain ⟨g1, g2⟩ := nextL_go he hk
    rw [List.length_drop, ← bs_size] at g2
    have hdr : ((bs s).drop a).drop ((nextL ((bs s).drop a) a).2.2 - a) = (bs s).drop (nextL ((bs s).drop a) a).2.2 := by rw [List.drop_drop]; congr 1; omega
    rw [hdr] at h ⊢
    exact scanL_ok f _ _ hT.2 (by omega) (fun t ht => by
     rcases List.mem_append.1 ht with ht | ht
     ·exact hok t ht
     ·rw [List.mem_singleton] at ht; subst ht; exact hT.1) h
  ·rw [if_neg he] at h
   exact absurd h he
theorem scan_tok (hsz : s.size < 4611686018427387904) (h : (scanS s).2.2 = 0) : TsOk s (scanS s).1 := by
 have hlen := scanS_len s
 rw [scanS] at h hlen ⊢
 by_cases hl : 200000 < s.size
 ·rw [if_pos hl] at h; cases h
 ·rw [if_neg hl] at h hlen ⊢
  obtain ⟨l, t, e, hk, h1, h2⟩ := scanL_ok (s := s) (s.size + 1) 0 [] (Nat.zero_le _) (by omega) (fun t ht => by cases ht) h
  rw [List.drop_zero] at e
  rw [e] at hlen ⊢
  refine ⟨⟨by simp, hlen⟩, fun t' ht => ?_, fun t' ht => ?_, hsz⟩
  ·rw [List.length_append, List.length_singleton, Nat.add_sub_cancel, List.getElem?_append_right (Nat.le_refl _), Nat.sub_self] at ht
   simp at ht; subst ht; exact hk
  ·rcases List.mem_append.1 ht with ht | ht
   ·exact h1 t' ht
   ·rw [List.mem_singleton] at ht; subst ht; exact h2
theorem scanL_bad : ∀ (f : Nat) (l : List UInt8) (a : Nat) (acc : List Tok), (scanL f l a acc).2.2 ≠ 0 → (scanL f l a acc).1 = []
 | 0, _, _, _, h => rfl
 | f + 1, l, a, acc, h => by
  simp only [scanL] at h ⊢
  split at h
  ·rename_i h1
   rw [if_pos h1]
   split at h
   ·exact absurd rfl h
   ·rename_i h2
    rw [if_neg h2]
    exact scanL_bad f _ _ _ h
  ·rename_i h1
   rw [if_neg h1]
theorem scan_bad (h : (scanS s).2.2 ≠ 0) : (scanS s).1 = [] := by
 rw [scanS] at h ⊢
 split at h
 ·rename_i h1; rw [if_pos h1]
 ·rename_i h1; rw [if_neg h1]; exact scanL_bad _ _ _ _ h
end Go.Idl
end

section
namespace Go.Idl
def figsF : Nat → Nat → List UInt8
 | 0, _ => []
 | f + 1, u => if u < 10 then [UInt8.ofNat (48 + u)] else figsF f (u / 10) ++ [UInt8.ofNat (48 + u % 10)]
def numS (n : Int) : ByteArray := ⟨(figsF 20 n.toNat).toArray⟩
theorem figsF_eq : ∀ (f u : Nat), u < 10 ^ f → 0 < f → figsF f u = Go.Lib.decDigits u
 | 0, u, h, h0 => by omega
 | f + 1, u, h, h0 => by
  rw [figsF, Go.Lib.decDigits]
  by_cases hu : u < 10
  ·rw [if_pos hu, dif_pos hu]
  ·rw [if_neg hu, dif_neg hu]
   have hf : u / 10 < 10 ^ f := by rw [Nat.pow_succ] at h; omega
   rw [figsF_eq f (u / 10) hf (by
    rcases Nat.eq_zero_or_pos f with rfl | h
    ·simp at hf; omega
    ·exact h)]
theorem numS_itoa {n : Int} (h0 : 0 ≤ n) (h1 : n ≤ 9223372036854775807) : numS n = ⟨(Go.Lib.itoa n).toArray⟩ := by
 rw [numS, Go.Lib.itoa, if_neg (by omega), figsF_eq _ _ (by omega) (by decide)]
theorem fig_nat {d : Nat} (h : d < 10) : (UInt8.ofNat (48 + d)).toNat = 48 + d := by rw [UInt8.toNat_ofNat']; omega
theorem figs_head : ∀ (f u : Nat), u < 10 ^ f → 0 < f → ∃ c r, figsF f u = c :: r ∧ 48 ≤ c.toNat ∧ c.toNat ≤ 57 ∧ (r = [] ∨ c.toNat ≠ 48) ∧ (0 < u → c.toNat ≠ 48)
 | 0, u, h, h0 => by omega
 | f + 1, u, h, h0 => by
  rw [figsF]
  by_cases hu : u < 10
  ·rw [if_pos hu]
   have := fig_nat hu
   exact ⟨_, [], rfl, by omega, by omega, .inl rfl, fun _ => by omega⟩
  ·rw [if_neg hu]
   have hf : u / 10 < 10 ^ f := by rw [Nat.pow_succ] at h; omega
   obtain ⟨c, r, e, h1, h2, h3, h4⟩ := figs_head f (u / 10) hf (by
    rcases Nat.eq_zero_or_pos f with rfl | h
    ·simp at hf; omega
    ·exact h)
   have h5 := h4 (by omega)
   exact ⟨c, r ++ [UInt8.ofNat (48 + u % 10)], by rw [e]; rfl, h1, h2, .inr h5, fun _ => h5⟩
theorem figs_whole : ∀ (f u : Nat), u < 10 ^ f → 0 < f → u ≤ 9223372036854775807 → wholeF 10 (figsF f u) 0 = some (u : Int)
 | 0, u, h, h0, h1 => by omega
 | f + 1, u, h, h0, h1 => by
  rw [figsF]
  have one : ∀ (d m : Nat), d < 10 → 10 * m + d ≤ 9223372036854775807 → wholeF 10 [UInt8.ofNat (48 + d)] (m : Int) = some ((m * 10 + d : Nat) : Int) := fun d m hd hm => by
   have hf : figI 255 (((UInt8.ofNat (48 + d)).toNat : Nat) : Int) = (d : Int) := by
    rw [fig_nat hd, figI, if_pos (by omega)]; omega
   rw [wholeF, hf, if_neg (by omega), if_neg (by omega), wholeF]
   congr 1
  by_cases hu : u < 10
  ·rw [if_pos hu]
   have := one u 0 hu (by omega)
   simpa using this
  ·rw [if_neg hu]
   have hf : u / 10 < 10 ^ f := by rw [Nat.pow_succ] at h; omega
   rw [wholeF_append, figs_whole f (u / 10) hf (by
    rcases Nat.eq_zero_or_pos f with rfl | h
    ·simp at hf; omega
    ·exact h) (by omega)]
   simp only
   rw [one (u % 10) (u / 10) (by omega) (by omega)]
   congr 2; omega
theorem figs_len : ∀ (f u : Nat), (figsF f u).length ≤ f
 | 0, u => Nat.le_refl _
 | f + 1, u => by
  rw [figsF]
  split
  ·simp
  ·have := figs_len f (u / 10)
   rw [List.length_append, List.length_singleton]; omega
theorem numS_fine (n : Int) (h0 : 0 ≤ n) (h1 : n ≤ 9223372036854775807) : digB (numS n) = true ∧ (numS n).size < 4611686018427387904 := by
 obtain ⟨c, r, e, q1, q2, q3, _⟩ := figs_head 20 n.toNat (by omega) (by decide)
 have hw := figs_whole 20 n.toNat (by omega) (by decide) (by omega)
 have hl := figs_len 20 n.toNat
 have hb : bs (numS n) = c :: r := by rw [numS, bs_mk, e]
 rw [e] at hw hl
 have b0 : bt (c :: r) 0 = ((c.toNat : Nat) : Int) := rfl
 have hnum : numR (c :: r) = (((n.toNat : Nat) : Int), true) := by
  rw [numR]
  have e1 : (bt (c :: r) 0 == 39) = false := by rw [b0]; exact beq_eq_false_iff_ne.2 (by omega)
  have e2 : (decide (1 < (c :: r).length) && (bt (c :: r) 0 == 48) && (bt (c :: r) 1 == 120)) = false := by
   rcases q3 with rfl | q3
   ·rfl
   ·have : (bt (c :: r) 0 == 48) = false := by rw [b0]; exact beq_eq_false_iff_ne.2 (by omega)
    rw [this, Bool.and_false, Bool.false_and]
  rw [e1]
  simp only
  rw [e2]
  simp only [wholeR, hw]
  rfl
 refine ⟨?_, by rw [bs_size, hb]; omega⟩
 rw [digB, hb, hnum, b0, decide_eq_true (show (48 : Int) ≤ ((c.toNat : Nat) : Int) by omega), decide_eq_true (show ((c.toNat : Nat) : Int) ≤ 57 by omega)]
 rcases q3 with rfl | q3
 ·rw [decide_eq_true (show (numS n).size = 1 by rw [bs_size, hb]; rfl)]; rfl
 ·rw [show ((((c.toNat : Nat) : Int)) == 48) = false from beq_eq_false_iff_ne.2 (by omega)]
  simp
end Go.Idl
end

section
namespace Go.Idl
variable {T : Tbl}
structure ReadFns (T : Tbl) : Prop where
 prog : ProgFns T
 Program : T.fn 9 = some C9
 Program1 : T.fn 11 = some C11
 num : ∀ n : Int, 0 ≤ n → n ≤ 9223372036854775807 → ∀ (h : Heap) (K : Out → Heap → Prop), K (.ret (.string (numS n))) h → Wk T (.fn 82) [.int .i64 n, .int .i64 10] h K
theorem read_at (F : ReadFns T) {f : Nat} {s : ByteArray} {h : Heap} {r : PO} (hsz : s.size < 4611686018427387904) (hs : progS numS f s = some r) : Wk T (.fn 9) [.string s] h (ProgPost h r) := by
 refine Program_ok F.prog F.Program F.Program1 (fun t ht h K k => ?_) hsz hs
 by_cases he : (scanS s).2.2 = 0
 ·have hk := ((scan_tok hsz he).tok t ht).num
  exact F.num _ hk.1 hk.2 h K k
 ·have : (scanS s).1 = [] := scan_bad he
  rw [this] at ht; cases ht
end Go.Idl
end
