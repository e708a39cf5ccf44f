/- Texts of the proof. -/
import Derived.Test.YtbngfhkhdilfdaaGreatDoorI29
import Derived.Test.YtbngfhkhdilfdaaGreatDoorFparse
import Derived.Test.YtbngfhkhdilfdaaGreatDoorN7
import Derived.KernelRfl
set_option linter.unusedVariables false
set_option linter.unusedSimpArgs false
set_option maxRecDepth 100000
section
namespace Go.Idl
variable {T : Tbl}
def idxOf : List ByteArray → ByteArray → Nat → Option Nat
  | [], _, _ => none
  | x :: l, s, k => if s = x then some k else idxOf l s (k + 1)
def idxI (l : List ByteArray) (s : ByteArray) : Int := match idxOf l s 0 with
  | some k => k
  | none => -1
theorem idxOf_none {s : ByteArray} : ∀ {l : List ByteArray} {k : Nat}, (∀ x ∈ l, s ≠ x) → idxOf l s k = none
  | [], _, _ => rfl
  | x :: l, k, h => by rw [idxOf, if_neg (h x (List.mem_cons_self ..))]; exact idxOf_none fun y hy => h y (List.mem_cons_of_mem _ hy)
theorem idxOf_some {s : ByteArray} : ∀ {l : List ByteArray} {k j : Nat}, (∀ i, i < j → ∀ x, l[i]? = some x → s ≠ x) → l[j]? = some s → idxOf l s k = some (k + j)
  | [], _, _, _, h => by simp at h
  | x :: l, k, 0, _, h => by simp at h; rw [idxOf, if_pos h.symm, Nat.add_zero]
  | x :: l, k, j + 1, h1, h2 => by
    rw [idxOf, if_neg (h1 0 (Nat.succ_pos _) x rfl), idxOf_some (j := j) (fun i hi y hy => h1 (i + 1) (Nat.succ_lt_succ hi) y hy) (by simpa using h2)]
    congr 1; omega
theorem indexS_ok (hT : T.fn 8 = some C8) {h : Heap} {v : Value} {l : List ByteArray} {s : ByteArray} (hv : strsAt h v l) (hl : l.length ≤ 9223372036854775807) :
    Wk T (.fn 8) [v, .string s] h (fun o h' => h' = h ∧ o = .ret (.int .i64 (idxI l s))) := by
  obtain ⟨va, vc, hvl⟩ := hv.len
  refine Wk_fn hT (by simp [C8]) ?_
  simp only [C8]
  refine Wc_seq (Wc_ops (Wo_run (fun call => by simp only [go_sem, seval]; rfl) ?_))
  show Wc T _ _ _
  refine Wc_seq (Wc_seq (Wc_ops (Wo_run (fun call => by simp only [go_sem, seval, hvl]; rfl) ?_)))
  show Wc T _ _ _
  refine Wc_range l.length (fun j e h' d => d = some [] ∧ h' = h ∧ ∀ i, i < j → ∀ x, l[i]? = some x → s ≠ x) (by decide) (by simp only [upd, dstUpd, reduceIte, Nat.reduceEqDiff]) (by simp only [upd, dstUpd, reduceIte, Nat.reduceEqDiff]) hl (by decide) ⟨rfl, rfl, fun i hi => by omega⟩ ?_ ?_
  · rintro j e h' d hj ⟨rfl, rfl, hne⟩ hfr h8 h7
    obtain ⟨x, hx⟩ : ∃ x, l[j]? = some x := ⟨_, List.getElem?_eq_getElem hj⟩
    obtain ⟨b, c, o, z, hvb, hb, hg, hcell⟩ := strsAt.load hv hx
    have e0 : e 0 = v := ((hfr 0 (by decide)).trans (by first | rfl | assumption | (symm; assumption)))
    have e1 : e 1 = .string s := ((hfr 1 (by decide)).trans (by first | rfl | assumption | (symm; assumption)))
    refine Wc_seq (Wc_ops (Wo_run (fun call => by simp only [go_sem, seval, h8]; rfl) ?_))
    show Wc T _ _ _
    refine Wc_seq (Wc_ops (Wo_run (fun call => by simp only [go_sem, seval, e0, e1, hvb, idx_ok hj, hg, hcell]; rfl) ?_))
    show Wc T _ _ _
    refine Wc_cond (decide (s = x)) (by simp [ev, upd, dstUpd]) (fun hd => ?_) (fun hd => Wc_skip ?_)
    · have hsx : s = x := by simpa using hd
      subst hsx
      refine Wc_seq (Wc_ops (Wo_run (fun call => by simp only [go_sem, seval, h8]; rfl) ?_))
      refine Wc_ret ⟨.inr rfl, rfl, [.int .i64 j], by simp only [resAll, resV, upd, dstUpd, reduceIte, Nat.reduceEqDiff], rfl, ?_⟩
      simp only [tup, idxI, idxOf_some hne hx, Nat.zero_add]
    · refine ⟨rfl, rfl, fun i hi y hy => ?_⟩
      rcases Nat.lt_or_eq_of_le (Nat.le_of_lt_succ hi) with h1 | h1
      · exact hne i h1 y hy
      · subst h1; rw [hx] at hy; cases hy; simpa using hd
  · rintro e h' d ⟨rfl, rfl, hne⟩ hfr h8
    show Wc T _ _ _
    refine Wc_seq (Wc_ops (Wo_run (fun call => by simp only [go_sem, seval]; rfl) ?_))
    refine Wc_ret ⟨.inr rfl, rfl, [.int .i64 (-1)], by simp only [resAll, resV, upd, dstUpd, reduceIte, Nat.reduceEqDiff], rfl, ?_⟩
    have : idxOf l s 0 = none := idxOf_none fun x hx => by
      obtain ⟨i, hi⟩ := List.getElem?_of_mem hx
      exact hne i (List.getElem?_eq_some_iff.1 hi).1 x hi
    simp only [tup, idxI, this]
def hasL (l : List ByteArray) (s : ByteArray) : Bool := l.any fun x => decide (s = x)
theorem idxOf_ge {s : ByteArray} : ∀ {l : List ByteArray} {k : Nat}, (idxOf l s k).isSome = hasL l s
  | [], k => rfl
  | x :: l, k => by
    rw [idxOf, hasL, List.any_cons]
    by_cases h : s = x
    · rw [if_pos h, decide_eq_true h]; rfl
    · rw [if_neg h, decide_eq_false h, Bool.false_or]; exact idxOf_ge
theorem contains_ok (hT : T.fn 63 = some C63) (hi : T.fn 8 = some C8) {h : Heap} {v : Value} {l : List ByteArray} {s : ByteArray} (hv : strsAt h v l) (hl : l.length < 9223372036854775807) :
    Wk T (.fn 63) [v, .string s] h (fun o h' => h' = h ∧ o = .ret (.bool (hasL l s))) := by
  refine Wk_fn hT (by simp [C63]) ?_
  simp only [C63]
  refine Wc_seq (Wc_ops (Wo_run (fun call => by simp only [go_sem, seval]; rfl) ?_))
  show Wc T _ _ _
  refine Wc_seq (Wc_ops (Wo_pre 2 (fun call => by simp only [go_sem, seval]; rfl) ?_))
  refine Wo_call (Wk_pure (indexS_ok hi hv (Nat.le_of_lt hl)) ?_)
  have hd : decide ((0 : Int) ≤ idxI l s) = hasL l s := by
    have := idxOf_ge (s := s) (l := l) (k := 0)
    rw [← this, idxI]
    cases idxOf l s 0 with
    | none => rfl
    | some k => simp
  refine (Wo_run (fun call => by simp only [go_sem, seval]; rfl) ?_)
  refine Wc_ret ⟨.inr rfl, rfl, [.bool (decide ((0 : Int) ≤ idxI l s))], by simp only [resAll, resV, upd, dstUpd, reduceIte, Nat.reduceEqDiff], rfl, ?_⟩
  rw [hd]; rfl
end Go.Idl
end

section
namespace Go.Idl
variable {T : Tbl} {X : Nat → Prop}
structure PN where
  kind : Int
  text : ByteArray
  kids : List Int
  pos : Int
structure PSt where
  i : Nat
  l : List PN
inductive PR (α : Type) where
  | ok (a : α) (s : PSt)
  | err (at' : Nat) (e : Int)
def isB (t : Tok) (l : List ByteArray) : Bool := (t.kind == 3 || t.kind == 2) && hasL l t.text
def takeS (ts : List Tok) (s : ByteArray) (st : PSt) : Option (Bool × PSt) := ts[st.i]?.map fun t => if isB t [s] then (true, { st with i := st.i + 1 }) else (false, st)
def wantS (ts : List Tok) (s : ByteArray) (st : PSt) : Option (PR Unit) := ts[st.i]?.map fun t => if isB t [s] then .ok () { st with i := st.i + 1 } else .err t.frm 60
def nameS (ts : List Tok) (st : PSt) : Option (PR Tok) := ts[st.i]?.map fun t => if t.kind = 1 then .ok t { st with i := st.i + 1 } else .err t.frm 60
def nodeS (kind : Int) (text : ByteArray) (pos : Int) (kids : List Int) (st : PSt) : Option (Nat × PSt) := if st.l.length < 1000000000 then some (st.l.length, { st with l := st.l ++ [⟨kind, text, kids, pos⟩] }) else none
def kidsAt (X : Nat → Prop) (h : Heap) (kv : Value) (kids : List Int) : Prop := (kv = .slice none 0 0 ∧ kids = []) ∨ ∃ b c, kv = .slice (some ⟨b, 0, none⟩) kids.length c ∧ b < h.next ∧ h.get b = some (.cells (ints64 kids) true 1) ∧ ¬ X b
def Nd.pn (x : Nd) : PN := ⟨x.kind, x.text, x.kids, x.pos⟩
theorem nd_len (x : Nd) : x.cells.length = 4 := rfl
structure PFr (pb : Nat) (h h' : Heap) : Prop where
  next : h.next ≤ h'.next
  get' : ∀ b, b < h.next → b ≠ pb → (pb < b → ∀ cs, h.get b ≠ some (.cells cs true 4)) → h'.get b = h.get b
theorem PFr.get {pb : Nat} {h h' : Heap} (x : PFr pb h h') (b : Nat) (hb : b < h.next) (hp : b ≠ pb) (hn : ∀ cs, h.get b ≠ some (.cells cs true 4)) : h'.get b = h.get b := x.get' b hb hp fun _ => hn
theorem PFr.refl (pb : Nat) (h : Heap) : PFr pb h h := ⟨Nat.le_refl _, fun _ _ _ _ => rfl⟩
theorem PFr.trans {pb : Nat} {a b c : Heap} (x : PFr pb a b) (y : PFr pb b c) : PFr pb a c := ⟨Nat.le_trans x.next y.next, fun k hk hp hn => by
  rw [y.get' k (Nat.lt_of_lt_of_le hk x.next) hp (fun hl cs => by rw [x.get' k hk hp hn]; exact hn hl cs), x.get' k hk hp hn]⟩
theorem Kept.pfr {a b : Heap} (x : Kept a b) (pb : Nat) : PFr pb a b := ⟨x.next, fun k hk _ _ => x.get k hk⟩
theorem kidsAt.keep {pb : Nat} {h h' : Heap} {kv : Value} {kids : List Int} (k : kidsAt X h kv kids) (f : PFr pb h h') (hp : ∀ cs, h.get pb ≠ some (.cells cs true 1)) : kidsAt X h' kv kids := by
  rcases k with k | ⟨b, c, h1, h2, h3, h4⟩
  · exact .inl k
  · refine .inr ⟨b, c, h1, Nat.lt_of_lt_of_le h2 f.next, ?_, h4⟩
    rw [f.get b h2 (fun e => by subst e; exact hp _ h3) (fun cs e => by rw [h3] at e; simp at e)]; exact h3
structure Par (pb : Nat) (ts : List Tok) (X : Nat → Prop) (h : Heap) (st : PSt) : Prop where
  lt : pb < h.next
  few : ts.length < 4611686018427387904
  rep : ∃ tv lv nds, h.get pb = some (.cells [tv, .int .i64 st.i, lv] true 0) ∧ ownL Tok.cells 5 0 h tv ts ∧ ownL Nd.cells 4 pb h lv nds ∧ (∀ x ∈ nds, kidsAt X h x.kv x.kids) ∧ nds.map Nd.pn = st.l
theorem Par.no1 {pb : Nat} {ts : List Tok} {h : Heap} {st : PSt} (p : Par pb ts X h st) : ∀ cs, h.get pb ≠ some (.cells cs true 1) := by
  obtain ⟨tv, lv, nds, h1, _⟩ := p.rep
  intro cs e
  rw [h1] at e; simp at e
theorem Par.keep {pb : Nat} {ts : List Tok} {h h' : Heap} {st : PSt} (p : Par pb ts X h st) (k : Kept h h') : Par pb ts X h' st := by
  obtain ⟨tv, lv, nds, h1, h2, h3, h4, h5⟩ := p.rep
  exact ⟨Nat.lt_of_lt_of_le p.lt k.next, p.few, tv, lv, nds, by rw [k.get _ p.lt]; exact h1, h2.kept k, h3.kept k, fun x hx => (h4 x hx).keep (k.pfr pb) p.no1, h5⟩
theorem Par.go {pb : Nat} {ts : List Tok} {h : Heap} {st : PSt} {tv lv : Value} {i : Nat} (p : Par pb ts X h st) (hg : h.get pb = some (.cells [tv, .int .i64 st.i, lv] true 0)) : Par pb ts X (h.set pb (.cells [tv, .int .i64 i, lv] true 0)) { st with i := i } ∧ PFr pb h (h.set pb (.cells [tv, .int .i64 i, lv] true 0)) := by
  obtain ⟨tv', lv', nds, h1, h2, h3, h4, h5⟩ := p.rep
  rw [hg] at h1
  simp only [Option.some.injEq, Blk.cells.injEq, List.cons.injEq, and_true, true_and] at h1
  obtain ⟨rfl, rfl⟩ := h1
  have fr : PFr pb h (h.set pb (.cells [tv, .int .i64 i, lv] true 0)) := ⟨Nat.le_refl _, fun b hb hp _ => set_get_ne' _ _ hp⟩
  have other : ∀ (w : Nat) (b : Nat) (cs : List Value), w ≠ 0 → h.get b = some (.cells cs true w) → (h.set pb (.cells [tv, .int .i64 i, lv] true 0)).get b = h.get b := fun w b cs hw hb => set_get_ne' _ _ (fun e => by
    subst e; rw [hg] at hb; simp only [Option.some.injEq, Blk.cells.injEq] at hb; exact hw hb.2.2.symm)
  refine ⟨⟨p.lt, p.few, tv, lv, nds, set_get' _ _ _, ?_, ?_, fun x hx => (h4 x hx).keep fr p.no1, h5⟩, fr⟩
  · rcases h2 with h2 | ⟨b, e1, e2, e3, e4⟩
    · exact .inl h2
    · exact .inr ⟨b, e1, e2, e3, by rw [other 5 b _ (by decide) e4]; exact e4⟩
  · rcases h3 with h3 | ⟨b, e1, e2, e3, e4⟩
    · exact .inl h3
    · exact .inr ⟨b, e1, e2, e3, by rw [other 4 b _ (by decide) e4]; exact e4⟩
def PPost {α : Type} (pb : Nat) (ts : List Tok) (X : Nat → Prop) (h : Heap) (f : α → Out) : PR α → Out → Heap → Prop
  | .ok a st, o, h' => PFr pb h h' ∧ o = f a ∧ Par pb ts X h' st
  | .err at' e, o, h' => PFr pb h h' ∧ o = .pan (.iface 44 (.agg #[.int .i64 at', .int .i64 e]))
structure Par1 (T : Tbl) : Prop where
  now : T.fn 18 = some C18
  fail : T.fn 56 = some C56
  is : T.fn 55 = some C55
  take : T.fn 32 = some C32
  want : T.fn 34 = some C34
  name : T.fn 33 = some C33
  node : T.fn 20 = some C20
  contains : T.fn 63 = some C63
  index : T.fn 8 = some C8
theorem now_ok (F : Par1 T) {pb : Nat} {ts : List Tok} {h : Heap} {st : PSt} {t : Tok} (p : Par pb ts X h st) (ht : ts[st.i]? = some t) : Wk T (.fn 18) [ptr pb 0] h (fun o h' => Kept h h' ∧ o = .ret (.agg t.cells.toArray)) := by
  obtain ⟨tv, lv, nds, hg, htv, _⟩ := p.rep
  obtain ⟨b, c, rfl, hb0, hb, hgb, hcell⟩ := htv.load tok_len ht
  have hi := (List.getElem?_eq_some_iff.1 ht).1
  refine Wk_fn F.now (by simp [C18]) ?_
  simp only [C18]
  refine Wc_seq (Wc_ops (Wo_op (v := ptr h.next 0) (h' := h.new (.cells z5 true 0)) rfl (Wo_nil ?_)))
  show Wc T _ _ _
  have hg1 : (h.new (.cells z5 true 0)).get pb = some (.cells [.slice (some ⟨b, 0, none⟩) ts.length c, .int .i64 st.i, lv] true 0) := by rw [new_get_ne' _ _ (by have := p.lt; omega)]; exact hg
  have hc1 : (h.new (.cells z5 true 0)).cells b (st.i * 5) 5 = some t.cells := by
    simp only [Heap.cells] at hcell ⊢
    rw [new_get_ne' _ _ (by omega)]; exact hcell
  refine Wc_seq (Wc_draw_still (by decide) ?_)
  refine (Wo_pre 10 (fun call => by simp only [go_sem, seval, hg1, idx_ok hi, hc1]; rfl) ?_)
  refine Wo_store_new (cs := t.cells) (h := h) (by first | rfl | assumption) (by first | rfl | assumption) rfl rfl fun h2 n2 => Wo_nil ⟨rfl, ?_⟩
  have hcc : h2.cells h.next 0 5 = some t.cells := cells_all n2.get rfl
  exact Wc_ret ⟨.inr rfl, rfl, [.agg t.cells.toArray], by simp only [resAll, resV, upd, dstUpd, reduceIte, Nat.reduceEqDiff, ptr, hcc, Option.map_some], n2.kept, rfl⟩
theorem fail_ok (F : Par1 T) {pb : Nat} {ts : List Tok} {h : Heap} {st : PSt} {t : Tok} (p : Par pb ts X h st) (ht : ts[st.i]? = some t) : Wk T (.fn 56) [ptr pb 0] h (fun o h' => Kept h h' ∧ o = .pan (.iface 44 (.agg #[.int .i64 t.frm, .int .i64 60]))) := by
  refine Wk_fn2 F.fail (by simp [C56]) ?_
  simp only [C56]
  refine Wc_ops (Wo_pre 1 (fun call => by simp only [go_sem, seval]; rfl) ?_)
  refine Wo_call (Wk_kept (now_ok F p ht) fun h2 k2 => ?_)
  refine Wo_op (v := .int .i64 t.frm) (h' := h2) rfl ?_
  refine Wo_op (v := .agg #[.int .i64 t.frm, .int .i64 60]) (h' := h2) (by rfl) ?_
  refine Wo_op (v := .iface 44 (.agg #[.int .i64 t.frm, .int .i64 60])) (h' := h2) (by rfl) ?_
  refine Wo_panic (t := 44) (v := .agg #[.int .i64 t.frm, .int .i64 60]) (by first | rfl | assumption) ?_
  exact ⟨rfl, k2, rfl⟩
theorem is_ok (F : Par1 T) {pb : Nat} {ts : List Tok} {h : Heap} {st : PSt} {t : Tok} {v : Value} {l : List ByteArray} (p : Par pb ts X h st) (ht : ts[st.i]? = some t) (hv : strsAt h v l) (hl : l.length < 1000) : Wk T (.fn 55) [ptr pb 0, v] h (fun o h' => Kept h h' ∧ o = .ret (.bool (isB t l))) := by
  refine Wk_fn F.is (by simp [C55]) ?_
  simp only [C55]
  refine Wc_seq (Wc_ops (Wo_run (fun call => by simp only [go_sem, seval]; rfl) ?_))
  show Wc T _ _ _
  refine Wc_seq (Wc_ops (Wo_pre 1 (fun call => by simp only [go_sem, seval]; rfl) ?_))
  refine Wo_call (Wk_kept (now_ok F p ht) fun h2 k2 => ?_)
  refine Wo_op (v := ptr h2.next 0) (h' := h2.new (.cells z5 true 0)) rfl ?_
  refine Wo_store_new (cs := t.cells) (h := h2) (by first | rfl | assumption) (by first | rfl | assumption) rfl rfl fun h3 n3 => Wo_nil ?_
  show Wc T _ _ _
  have hg3 := n3.get
  have k3 := k2.trans n3.kept
  have fin : ∀ (e : Env) (b : Bool), e 4 = .bool b → isB t l = b → (Ex.ret = .normal ∨ Ex.ret = .ret) ∧ some ([] : List Dfr) = some [] ∧ ∃ vs, resAll e h3 [.tmp 4] = some vs ∧ Kept h h3 ∧ Out.ret (tup vs) = .ret (.bool (isB t l)) := fun e b h4 hb => ⟨.inr rfl, rfl, [.bool b], by simp only [resAll, resV, h4], k3, by rw [hb]; rfl⟩
  cases x3 : (t.kind == 3)
  · cases x2 : (t.kind == 2)
    · refine Wc_seq (Wc_ops (Wo_run (fun call => by simp only [go_sem, seval, hg3, Tok.cells, x3, x2]; rfl) ?_))
      exact Wc_ret (fin _ false (by first | rfl | assumption) (by rw [isB, x3, x2]; rfl))
    · refine Wc_seq (Wc_ops (Wo_pre 12 (fun call => by simp only [go_sem, seval, hg3, Tok.cells, x3, x2]; rfl) ?_))
      refine Wo_take (by simp only [upd, dstUpd, reduceIte, Nat.reduceEqDiff, gval_bool]; rfl) (Wo_call (Wk_pure (contains_ok F.contains F.index (hv.keep k3) (by omega)) ?_))
      refine (Wo_run (fun call => by simp only [go_sem, seval]; rfl) ?_)
      exact Wc_ret (fin _ (hasL l t.text) (by first | rfl | assumption) (by rw [isB, x3, x2]; rfl))
  · refine Wc_seq (Wc_ops (Wo_pre 12 (fun call => by simp only [go_sem, seval, hg3, Tok.cells, x3]; rfl) ?_))
    refine Wo_take (by simp only [upd, dstUpd, reduceIte, Nat.reduceEqDiff, gval_bool]; rfl) (Wo_call (Wk_pure (contains_ok F.contains F.index (hv.keep k3) (by omega)) ?_))
    refine (Wo_run (fun call => by simp only [go_sem, seval]; rfl) ?_)
    exact Wc_ret (fin _ (hasL l t.text) (by first | rfl | assumption) (by rw [isB, x3]; rfl))
end Go.Idl
end

section
namespace Go.Idl
variable {T : Tbl} {X : Nat → Prop}
theorem Par.other {pb : Nat} {ts : List Tok} {h : Heap} {st : PSt} (p : Par pb ts X h st) {b : Nat} {cs : List Value} (hb : b ≠ pb) (hg : h.get b = some (.cells cs true 0)) (o : Blk) : Par pb ts X (h.set b o) st := by
  obtain ⟨tv, lv, nds, h1, h2, h3, h4, h5⟩ := p.rep
  have other : ∀ (w : Nat) (k : Nat) (cs : List Value), w ≠ 0 → h.get k = some (.cells cs true w) → (h.set b o).get k = h.get k := fun w k cs hw hk => set_get_ne' _ _ (fun e => by
    subst e; rw [hg] at hk; simp only [Option.some.injEq, Blk.cells.injEq] at hk; exact hw hk.2.2.symm)
  refine ⟨p.lt, p.few, tv, lv, nds, by rw [set_get_ne' _ _ (Ne.symm hb)]; exact h1, ?_, ?_, fun x hx => ?_, h5⟩
  · rcases h2 with h2 | ⟨k, e1, e2, e3, e4⟩
    · exact .inl h2
    · exact .inr ⟨k, e1, e2, e3, by rw [other 5 k _ (by decide) e4]; exact e4⟩
  · rcases h3 with h3 | ⟨k, e1, e2, e3, e4⟩
    · exact .inl h3
    · exact .inr ⟨k, e1, e2, e3, by rw [other 4 k _ (by decide) e4]; exact e4⟩
  · rcases h4 x hx with k | ⟨k, c, e1, e2, e3, e4⟩
    · exact .inl k
    · exact .inr ⟨k, c, e1, e2, by rw [other 1 k _ (by decide) e3]; exact e3, e4⟩
theorem pstr (s : ByteArray) {h h1 : Heap} (n1 : New1 h h1 (.cells [.string s] true 1)) : strsAt h1 (.slice (some ⟨h.next, 0, none⟩) 1 1) [s] :=
  ⟨.inr ⟨h.next, 1, rfl, by rw [n1.next]; exact Nat.lt_succ_self _, .inr ⟨true, 1, n1.get⟩⟩, fun _ _ => trivial⟩
theorem take_ok (F : Par1 T) {pb : Nat} {ts : List Tok} {h : Heap} {st st' : PSt} {s : ByteArray} {b : Bool} (p : Par pb ts X h st) (hs : takeS ts s st = some (b, st')) : Wk T (.fn 32) [ptr pb 0, .string s] h (fun o h' => PFr pb h h' ∧ Par pb ts X h' st' ∧ o = .ret (.bool b)) := by
  rw [takeS] at hs
  obtain ⟨t, ht, hs⟩ := Option.map_eq_some_iff.1 hs
  have hi := (List.getElem?_eq_some_iff.1 ht).1
  have hfew := p.few
  refine Wk_fn F.take (by simp [C32]) ?_
  simp only [C32]
  refine Wc_seq (Wc_ops (Wo_run (fun call => by simp only [go_sem, seval]; rfl) ?_))
  show Wc T _ _ _
  refine Wc_seq (Wc_ops (Wo_pre 2 (fun call => by simp only [go_sem, seval]; rfl) ?_))
  refine Wo_new (v := .slice (some ⟨h.next, 0, none⟩) 1 1) (B := .cells [.string s] true 1) (by rfl) fun h1 n1 => ?_
  refine Wo_call (Wk_kept (is_ok F (p.keep n1.kept) ht (pstr s n1) (by simp)) fun h2 k2 => ?_)
  refine (Wo_run (fun call => by simp only [go_sem, seval]; rfl) ?_)
  show Wc T _ _ _
  have k12 := n1.kept.trans k2
  have p2 := p.keep k12
  obtain ⟨tv, lv, nds, hg, _⟩ := p2.rep
  have hw : IntKind.i64.wrap (((st.i : Nat) : Int) + 1) = ((st.i + 1 : Nat) : Int) := by rw [wrap64] <;> omega
  cases hb : isB t [s]
  · rw [hb] at hs
    cases hs
    refine Wc_seq (Wc_seq (Wc_ops (Wo_run (fun call => by simp only [go_sem, seval, hb]; rfl) ?_)))
    show Wc T _ _ _
    refine Wc_cond false (by first | rfl | assumption) (fun e => by cases e) (fun _ => Wc_skip ?_)
    show Wc T _ _ _
    refine Wc_seq (Wc_ops (Wo_run (fun call => by simp only [go_sem, seval]; rfl) ?_))
    exact Wc_ret ⟨.inr rfl, rfl, [.bool false], by simp only [resAll, resV, upd, dstUpd, reduceIte, Nat.reduceEqDiff], k12.pfr pb, p2, rfl⟩
  · rw [hb] at hs
    cases hs
    have go := p2.go (i := st.i + 1) hg
    refine Wc_seq (Wc_seq (Wc_ops (Wo_run (fun call => by simp only [go_sem, seval, hb]; rfl) ?_)))
    show Wc T _ _ _
    refine Wc_cond true (by first | rfl | assumption) (fun _ => ?_) (fun e => by cases e)
    refine Wc_ops (Wo_pre 7 (fun call => by simp only [go_sem, seval, hg, hw]; rfl) ?_)
    refine Wo_op (iop_store_at (k := 1) (v := .int .i64 ((st.i + 1 : Nat) : Int)) (by first | rfl | assumption) (by simp only [ev, upd, dstUpd, reduceIte, Nat.reduceEqDiff]; rfl) hg (by simp)) (Wo_nil ?_)
    show Wc T _ _ _
    refine Wc_seq (Wc_ops (Wo_run (fun call => by simp only [go_sem, seval]; rfl) ?_))
    exact Wc_ret ⟨.inr rfl, rfl, [.bool true], by simp only [resAll, resV, upd, dstUpd, reduceIte, Nat.reduceEqDiff], (k12.pfr pb).trans go.2, go.1, rfl⟩
theorem want_ok (F : Par1 T) {pb : Nat} {ts : List Tok} {h : Heap} {st : PSt} {s : ByteArray} {r : PR Unit} (p : Par pb ts X h st) (hs : wantS ts s st = some r) : Wk T (.fn 34) [ptr pb 0, .string s] h (fun o h' => PPost pb ts X h (fun _ => .ret (tup [])) r o h') := by
  rw [wantS] at hs
  obtain ⟨t, ht, hs⟩ := Option.map_eq_some_iff.1 hs
  have htake : takeS ts s st = some (if isB t [s] then (true, { st with i := st.i + 1 }) else (false, st)) := by rw [takeS, ht]; rfl
  refine Wk_fn2 F.want (by simp [C34]) ?_
  simp only [C34]
  refine Wc_seq (Wc_ops (Wo_pre 2 (fun call => by simp only [go_sem, seval]; rfl) ?_))
  cases hb : isB t [s]
  · rw [hb] at htake hs
    refine Wo_call ((take_ok F p htake).mono ?_)
    rintro o h2 ⟨f2, p2, rfl⟩
    show Wo T _ _ _
    refine (Wo_run (fun call => by simp only [go_sem, seval]; rfl) ?_)
    show Wc T _ _ _
    refine Wc_cond true (by first | rfl | assumption) (fun _ => ?_) (fun e => by cases e)
    refine Wc_ops (Wo_pre 1 (fun call => by simp only [go_sem, seval]; rfl) ?_)
    refine Wo_call ((fail_ok F p2 ht).mono ?_)
    rintro o h3 ⟨k3, rfl⟩
    show To _ _ _
    subst hs
    exact ⟨rfl, f2.trans (k3.pfr pb), rfl⟩
  · rw [hb] at htake hs
    refine Wo_call ((take_ok F p htake).mono ?_)
    rintro o h2 ⟨f2, p2, rfl⟩
    show Wo T _ _ _
    refine (Wo_run (fun call => by simp only [go_sem, seval]; rfl) ?_)
    show Wc T _ _ _
    refine Wc_cond false (by first | rfl | assumption) (fun e => by cases e) (fun _ => Wc_skip ?_)
    subst hs
    exact ⟨rfl, [], rfl, f2, rfl, p2⟩
theorem name_ok (F : Par1 T) {pb : Nat} {ts : List Tok} {h : Heap} {st : PSt} {r : PR Tok} (p : Par pb ts X h st) (hs : nameS ts st = some r) : Wk T (.fn 33) [ptr pb 0] h (fun o h' => PPost pb ts X h (fun t => .ret (.agg t.cells.toArray)) r o h') := by
  rw [nameS] at hs
  obtain ⟨t, ht, hs⟩ := Option.map_eq_some_iff.1 hs
  have hi := (List.getElem?_eq_some_iff.1 ht).1
  have hfew := p.few
  refine Wk_fn2 F.name (by simp [C33]) ?_
  simp only [C33]
  refine Wc_seq (Wc_ops (Wo_alloc fun h1 n1 => Wo_nil ?_))
  show Wc T _ _ _
  have p1 := p.keep n1.kept
  refine Wc_seq (Wc_ops (Wo_pre 1 (fun call => by simp only [go_sem, seval]; rfl) ?_))
  refine Wo_call (Wk_kept (now_ok F p1 ht) fun h2 k2 => ?_)
  refine Wo_op (v := ptr h2.next 0) (h' := h2.new (.cells z5 true 0)) rfl ?_
  refine Wo_store_new (cs := t.cells) (h := h2) (by first | rfl | assumption) (by first | rfl | assumption) rfl rfl fun h3 n3 => Wo_nil ?_
  show Wc T _ _ _
  have hg3 := n3.get
  have k13 := k2.trans n3.kept
  have p3 := p1.keep k13
  have hres3 : h3.get h.next = some (.cells z5 true 0) := by rw [k13.get _ (by rw [n1.next]; exact Nat.lt_succ_self _)]; exact n1.get
  have hne : h.next ≠ pb := by have := p.lt; omega
  by_cases hk : t.kind = 1
  case neg =>
    have hb : (t.kind != 1) = true := by simp [hk]
    rw [if_neg hk] at hs
    subst hs
    refine Wc_seq (Wc_seq (Wc_ops (Wo_run (fun call => by simp only [go_sem, seval, hg3, Tok.cells, hb]; rfl) ?_)))
    show Wc T _ _ _
    refine Wc_cond true (by first | rfl | assumption) (fun _ => ?_) (fun e => by cases e)
    refine Wc_ops (Wo_pre 1 (fun call => by simp only [go_sem, seval]; rfl) ?_)
    refine Wo_call ((fail_ok F p3 ht).mono ?_)
    rintro o h4 ⟨k4, rfl⟩
    show To _ _ _
    exact ⟨rfl, ((n1.kept.trans k13).trans k4).pfr pb, rfl⟩
  have hb : (t.kind != 1) = false := by simp [hk]
  rw [if_pos hk] at hs
  subst hs
  obtain ⟨tv, lv, nds, hg, _⟩ := p3.rep
  have hw : IntKind.i64.wrap (((st.i : Nat) : Int) + 1) = ((st.i + 1 : Nat) : Int) := by rw [wrap64] <;> omega
  have go := p3.go (i := st.i + 1) hg
  refine Wc_seq (Wc_seq (Wc_ops (Wo_run (fun call => by simp only [go_sem, seval, hg3, Tok.cells, hb]; rfl) ?_)))
  show Wc T _ _ _
  refine Wc_cond false (by first | rfl | assumption) (fun e => by cases e) (fun _ => Wc_skip ?_)
  show Wc T _ _ _
  refine Wc_seq (Wc_ops (Wo_pre 7 (fun call => by simp only [go_sem, seval, hg, hw]; rfl) ?_))
  refine Wo_op (iop_store_at (k := 1) (v := .int .i64 ((st.i + 1 : Nat) : Int)) (by first | rfl | assumption) (by simp only [ev, upd, dstUpd, reduceIte, Nat.reduceEqDiff]; rfl) hg (by simp)) (Wo_nil ?_)
  show Wc T _ _ _
  have hpb : pb < h2.next := by have := k2.next; have := p1.lt; omega
  have hset : ([tv, Value.int .i64 st.i, lv].set 1 (.int .i64 ((st.i + 1 : Nat) : Int))) = [tv, .int .i64 ((st.i + 1 : Nat) : Int), lv] := rfl
  rw [hset]
  obtain ⟨pgo, fgo⟩ := go
  have hres4 : (h3.set pb (.cells [tv, .int .i64 ((st.i + 1 : Nat) : Int), lv] true 0)).get h.next = some (.cells z5 true 0) := by rw [set_get_ne' _ _ hne]; exact hres3
  have hct : (h3.set pb (.cells [tv, .int .i64 ((st.i + 1 : Nat) : Int), lv] true 0)).cells h2.next 0 5 = some t.cells := cells_all (by rw [set_get_ne' _ _ (by omega)]; exact hg3) rfl
  generalize h3.set pb (.cells [tv, .int .i64 ((st.i + 1 : Nat) : Int), lv] true 0) = h4 at pgo fgo hres4 hct ⊢
  refine Wc_seq (Wc_ops (Wo_pre 1 (fun call => by simp only [go_sem, seval, hct]; rfl) ?_))
  refine Wo_op (iop_store (b := h.next) (esz := 0) (cs := t.cells) (z := z5) (by first | rfl | assumption) (by first | rfl | assumption) rfl hres4 rfl) (Wo_nil ?_)
  have hcc : (h4.set h.next (.cells t.cells true 0)).cells h.next 0 5 = some t.cells := cells_all (set_get' _ _ _) rfl
  have hfr : PFr pb h (h4.set h.next (.cells t.cells true 0)) := by
    have f4 : PFr pb h h4 := ((n1.kept.trans k13).pfr pb).trans fgo
    exact ⟨f4.next, fun b hb hp hn => by rw [set_get_ne' _ _ (by omega)]; exact f4.get' b hb hp hn⟩
  exact Wc_ret ⟨rfl, [.agg t.cells.toArray], by simp only [resAll, resV, upd, dstUpd, reduceIte, Nat.reduceEqDiff, ptr, hcc, Option.map_some], hfr, rfl, pgo.other hne hres4 _⟩
end Go.Idl
end

section
namespace Go.Idl
variable {T : Tbl} {X : Nat → Prop}
theorem ownL.besideOf {α : Type} {f : α → List Value} {w n0 : Nat} {h h' : Heap} {v : Value} {l : List α} (o : ownL f w n0 h v l) (hb : Beside v h h') {b : Nat} {cs : List Value} {u : Nat} (h2 : b < h.next) (hg : h.get b = some (.cells cs true u)) (hu : u ≠ w) : h'.get b = h.get b := by
  refine hb.get b h2 ?_
  intro p n c hv
  rcases o with ⟨_, e⟩ | ⟨k, e1, _, e3, e4⟩
  · rw [e] at hv; cases hv
  · rw [e3] at hv
    cases hv
    rintro rfl
    rw [e4] at hg
    simp only [Option.some.injEq, Blk.cells.injEq] at hg
    exact hu hg.2.2.symm
theorem node_ok (F : Par1 T) {pb : Nat} {ts : List Tok} {h : Heap} {st st' : PSt} {kind : Int} {text : ByteArray} {pos : Int} {kids : List Int} {kv : Value} {n : Nat} (p : Par pb ts X h st) (hk : kidsAt X h kv kids) (hs : nodeS kind text pos kids st = some (n, st')) :
    Wk T (.fn 20) [ptr pb 0, .int .i64 kind, .string text, .int .i64 pos, kv] h (fun o h' => PFr pb h h' ∧ Par pb ts X h' st' ∧ o = .ret (.int .i64 n)) := by
  rw [nodeS] at hs
  split at hs
  case isFalse => cases hs
  rename_i hlen
  cases hs
  obtain ⟨tv, lv, nds, hg, htv, hlv, hkids, hmap⟩ := p.rep
  obtain ⟨ka, kn, kc, rfl⟩ : ∃ a n c, kv = .slice a n c := by
    rcases hk with ⟨h, _⟩ | ⟨_, _, h, _⟩
    · exact ⟨_, _, _, h⟩
    · exact ⟨_, _, _, h⟩
  have hnl : nds.length = st.l.length := by rw [← hmap, List.length_map]
  refine Wk_fn F.node (by simp [C20]) ?_
  simp only [C20]
  refine Wc_seq (Wc_ops (Wo_run (fun call => by simp only [go_sem, seval]; rfl) ?_))
  show Wc T _ _ _
  let nd : Nd := ⟨kind, text, kids, .slice ka kn kc, pos⟩
  refine Wc_seq (Wc_ops (Wo_pre 9 (fun call => by simp only [go_sem, seval, hg]; rfl) ?_))
  refine Wo_op (v := .agg nd.cells.toArray) (h' := h) (by rfl) ?_
  refine Wo_new (v := .slice (some ⟨h.next, 0, none⟩) 1 1) (B := .cells nd.cells true 4) (by rfl) fun h2 n2 => ?_
  have hel : elemsOf h2 4 (.slice (some ⟨h.next, 0, none⟩) 1 1) = some ([nd].length, [nd].flatMap Nd.cells) := by
    simp only [elemsOf, Nat.one_ne_zero, if_false, Heap.cells, n2.get]; rfl
  have lv2 := hlv.kept n2.kept
  have tv2 := htv.kept n2.kept
  have hlt := p.lt
  have hn2 := n2.kept.next
  have hg2 : h2.get pb = some (.cells [tv, .int .i64 st.i, lv] true 0) := by rw [n2.kept.get _ hlt]; exact hg
  obtain ⟨lv', h3, happ, hbs, lv3⟩ := lv2.append nd_len (bytes := 56) (Nat.le_of_lt (Nat.lt_of_lt_of_le hlt hn2)) hel (by simp; omega)
  have hg3 : h3.get pb = some (.cells [tv, .int .i64 st.i, lv] true 0) := by rw [lv2.besideOf hbs (by omega) hg2 (by decide)]; exact hg2
  have hn3 := hbs.next
  refine Wo_op (v := lv') (h' := h3) (by simp only [iop, ev, upd, dstUpd, reduceIte, Nat.reduceEqDiff]; exact happ) ?_
  refine (Wo_pre 2 (fun call => by simp only [go_sem, seval]; rfl) ?_)
  refine Wo_op (iop_store_at (k := 2) (v := lv') (by first | rfl | assumption) (by
    obtain ⟨a, c, hlv'⟩ := lv3.len
    simp only [ev, upd, dstUpd, reduceIte, Nat.reduceEqDiff, hlv']; rfl) hg3 (by simp)) (Wo_nil ?_)
  show Wc T _ _ _
  have hset : ([tv, Value.int .i64 st.i, lv].set 2 lv') = [tv, .int .i64 st.i, lv'] := rfl
  rw [hset]
  have oth : ∀ (w : Nat) (b : Nat) (cs : List Value), w ≠ 0 → h3.get b = some (.cells cs true w) → (h3.set pb (.cells [tv, .int .i64 st.i, lv'] true 0)).get b = h3.get b := fun w b cs hw hb => set_get_ne' _ _ (fun e => by
    subst e; rw [hg3] at hb; simp only [Option.some.injEq, Blk.cells.injEq] at hb; exact hw hb.2.2.symm)
  have fr : PFr pb h (h3.set pb (.cells [tv, .int .i64 st.i, lv'] true 0)) := by
    refine ⟨Nat.le_trans hn2 hn3, fun b hb hp hn => ?_⟩
    rw [set_get_ne' _ _ hp, hbs.get b (by omega) ?_, n2.kept.get _ hb]
    intro q m c hv
    rcases hlv with ⟨_, e⟩ | ⟨k, e1, _, e3, e4⟩
    · rw [e] at hv; cases hv
    · rw [e3] at hv
      cases hv
      rintro rfl
      exact hn (by simp only at e1 hp ⊢; omega) _ e4
  have par : Par pb ts X (h3.set pb (.cells [tv, .int .i64 st.i, lv'] true 0)) { st with l := st.l ++ [⟨kind, text, kids, pos⟩] } := by
    refine ⟨Nat.lt_of_lt_of_le hlt (Nat.le_trans hn2 hn3), p.few, tv, lv', nds ++ [nd], set_get' _ _ _, ?_, ?_, ?_, ?_⟩
    · rcases tv2 with e | ⟨b, e1, e2, e3, e4⟩
      · exact .inl e
      · have e5 : h3.get b = h2.get b := lv2.besideOf hbs e2 e4 (by decide)
        exact .inr ⟨b, e1, Nat.lt_of_lt_of_le e2 hn3, e3, by rw [oth 5 b _ (by decide) (by rw [e5]; exact e4), e5]; exact e4⟩
    · rcases lv3 with e | ⟨b, e1, e2, e3, e4⟩
      · exact .inl e
      · exact .inr ⟨b, e1, e2, e3, by rw [oth 4 b _ (by decide) e4]; exact e4⟩
    · intro x hx
      rcases List.mem_append.1 hx with hx | hx
      · exact (hkids x hx).keep fr p.no1
      · rw [List.mem_singleton] at hx
        subst hx
        exact hk.keep fr p.no1
    · rw [List.map_append, hmap]; rfl
  have hl' : ∃ a c, lv' = .slice a (st.l.length + 1) c := by
    obtain ⟨a, c, e⟩ := lv3.len
    exact ⟨a, c, by rw [e, List.length_append, List.length_singleton, hnl]⟩
  obtain ⟨a, c, hlv'⟩ := hl'
  have hg4 : (h3.set pb (.cells [tv, .int .i64 st.i, lv'] true 0)).get pb = some (.cells [tv, .int .i64 st.i, lv'] true 0) := set_get' _ _ _
  generalize h3.set pb (.cells [tv, .int .i64 st.i, lv'] true 0) = h4 at fr par hg4 ⊢
  have hw : IntKind.i64.wrap (((st.l.length + 1 : Nat) : Int) - 1) = ((st.l.length : Nat) : Int) := by rw [wrap64] <;> omega
  refine Wc_seq (Wc_ops (Wo_run (fun call => by simp only [go_sem, seval, hg4, hlv', hw]; rfl) ?_))
  exact Wc_ret ⟨.inr rfl, rfl, [.int .i64 st.l.length], by simp only [resAll, resV, upd, dstUpd, reduceIte, Nat.reduceEqDiff], fr, par, rfl⟩
end Go.Idl
end

section
namespace Go.Idl
variable {T : Tbl} {X : Nat → Prop}
def blkOf (v : Value) (b : Nat) : Prop := ∃ p n c, v = .slice (some p) n c ∧ p.block = b
def XO (X : Nat → Prop) (v : Value) : Nat → Prop := fun b => X b ∨ blkOf v b
theorem Par.weaken {pb : Nat} {ts : List Tok} {h : Heap} {st : PSt} {Y : Nat → Prop} (p : Par pb ts X h st) (hy : ∀ b, Y b → X b) : Par pb ts Y h st := by
  obtain ⟨tv, lv, nds, h1, h2, h3, h4, h5⟩ := p.rep
  refine ⟨p.lt, p.few, tv, lv, nds, h1, h2, h3, fun x hx => ?_, h5⟩
  rcases h4 x hx with k | ⟨b, c, e1, e2, e3, e4⟩
  · exact .inl k
  · exact .inr ⟨b, c, e1, e2, e3, fun h => e4 (hy b h)⟩
theorem Par.nil {pb : Nat} {ts : List Tok} {h : Heap} {st : PSt} (p : Par pb ts X h st) : Par pb ts (XO X (.slice none 0 0)) h st := p.weaken fun b hb => hb.resolve_right fun ⟨p, n, c, h, _⟩ => by cases h
theorem ownI.pfr {n0 pb : Nat} {ts : List Tok} {h h' : Heap} {st : PSt} {v : Value} {l : List Int} (o : ownI n0 h v l) (p : Par pb ts X h st) (f : PFr pb h h') : ownI n0 h' v l := by
  rcases o with o | ⟨b, e1, e2, e3, e4⟩
  · exact .inl o
  · exact .inr ⟨b, e1, Nat.lt_of_lt_of_le e2 f.next, e3, by rw [f.get b e2 (fun e => by subst e; exact p.no1 _ e4) (fun cs e => by rw [e4] at e; simp at e)]; exact e4⟩
theorem ownI.besideOf {n0 : Nat} {h h' : Heap} {v : Value} {l : List Int} (o : ownI n0 h v l) (hb : Beside v h h') {b : Nat} {cs : List Value} {u : Nat} (h2 : b < h.next) (hg : h.get b = some (.cells cs true u)) (hu : u ≠ 1) : h'.get b = h.get b := by
  refine hb.get b h2 ?_
  intro p n c hv
  rcases o with ⟨_, e⟩ | ⟨k, e1, _, e3, e4⟩
  · rw [e] at hv; cases hv
  · rw [e3] at hv
    cases hv
    rintro rfl
    rw [e4] at hg
    simp only [Option.some.injEq, Blk.cells.injEq] at hg
    exact hu hg.2.2.symm
theorem Par.grow {pb n0 : Nat} {ts : List Tok} {h h' : Heap} {st : PSt} {v v' : Value} {l : List Int} (p : Par pb ts (XO X v) h st) (o : ownI n0 h v l) (hb : Beside v h h') (hv : ∀ q n c, v' = .slice (some q) n c → v' = v ∨ h.next ≤ q.block) : Par pb ts (XO X v') h' st := by
  obtain ⟨tv, lv, nds, h1, h2, h3, h4, h5⟩ := p.rep
  refine ⟨Nat.lt_of_lt_of_le p.lt hb.next, p.few, tv, lv, nds, by rw [o.besideOf hb p.lt h1 (by decide)]; exact h1, ?_, ?_, fun x hx => ?_, h5⟩
  · rcases h2 with h2 | ⟨k, e1, e2, e3, e4⟩
    · exact .inl h2
    · exact .inr ⟨k, e1, Nat.lt_of_lt_of_le e2 hb.next, e3, by rw [o.besideOf hb e2 e4 (by decide)]; exact e4⟩
  · rcases h3 with h3 | ⟨k, e1, e2, e3, e4⟩
    · exact .inl h3
    · exact .inr ⟨k, e1, Nat.lt_of_lt_of_le e2 hb.next, e3, by rw [o.besideOf hb e2 e4 (by decide)]; exact e4⟩
  · rcases h4 x hx with k | ⟨k, c, e1, e2, e3, e4⟩
    · exact .inl k
    · refine .inr ⟨k, c, e1, Nat.lt_of_lt_of_le e2 hb.next, ?_, ?_⟩
      · rw [hb.get k e2 (fun q n c hq hk => e4 (.inr ⟨q, n, c, hq, hk⟩))]; exact e3
      · rintro (hx | ⟨q, n, c, hq, hk⟩)
        · exact e4 (.inl hx)
        · rcases hv q n c hq with e | e
          · exact e4 (.inr ⟨q, n, c, by rw [← e]; exact hq, hk⟩)
          · omega
theorem ownI.frame {n0 pb : Nat} {h0 h h' : Heap} {v : Value} {l : List Int} (o : ownI n0 h v l) (hb : Beside v h h') (f : PFr pb h0 h) (hn : h0.next ≤ n0) : PFr pb h0 h' := by
  refine ⟨Nat.le_trans f.next hb.next, fun b hlt hp hc => ?_⟩
  rw [hb.get b (Nat.lt_of_lt_of_le hlt f.next) ?_, f.get' b hlt hp hc]
  intro q m c hv
  rcases o with ⟨_, e⟩ | ⟨k, e1, _, e3, _⟩
  · rw [e] at hv; cases hv
  · rw [e3] at hv
    cases hv
    simp only; omega
def moreS (ts : List Tok) (one : PSt → Option (PR Nat)) : Nat → List Int → PSt → Option (PR (List Int))
  | 0, _, _ => none
  | f + 1, acc, st => if 1000000 < acc.length then none else match takeS ts ⟨#[44]⟩ st with
    | none => none
    | some (false, st') => some (.ok acc st')
    | some (true, st') => match one st' with
      | none => none
      | some (.err a e) => some (.err a e)
      | some (.ok k st2) => moreS ts one f (acc ++ [(k : Int)]) st2
def innerS (ts : List Tok) (e : ByteArray) (one : PSt → Option (PR Nat)) (f : Nat) (st : PSt) : Option (PR (List Int)) := match ts[st.i]? with
  | none => none
  | some t => if isB t [e] then some (.ok [] st) else match one st with
    | none => none
    | some (.err a e) => some (.err a e)
    | some (.ok k st2) => moreS ts one f [(k : Int)] st2
def listS (ts : List Tok) (e : ByteArray) (one : PSt → Option (PR Nat)) (f : Nat) (st : PSt) : Option (PR (List Int)) := match innerS ts e one f st with
  | none => none
  | some (.err a er) => some (.err a er)
  | some (.ok kids st') => match wantS ts e st' with
    | none => none
    | some (.err a er) => some (.err a er)
    | some (.ok _ st2) => some (.ok kids st2)
def PPostK (pb : Nat) (ts : List Tok) (X : Nat → Prop) (h : Heap) : PR (List Int) → Out → Heap → Prop
  | .ok kids st, o, h' => PFr pb h h' ∧ ∃ kv, o = .ret kv ∧ ownI h.next h' kv kids ∧ Par pb ts (XO X kv) h' st
  | .err at' e, o, h' => PFr pb h h' ∧ o = .pan (.iface 44 (.agg #[.int .i64 at', .int .i64 e]))
def OneOk (T : Tbl) (pb : Nat) (ts : List Tok) (g : FuncId) (one : PSt → Option (PR Nat)) : Prop :=
  ∀ (X : Nat → Prop) (st : PSt) (h : Heap) (r : PR Nat), Par pb ts X h st → (∀ b, X b → b < h.next) → one st = some r → Wk T (.fn g) [ptr pb 0] h (fun o h' => PPost pb ts X h (fun n : Nat => .ret (.int .i64 n)) r o h')
theorem XO_lt {v : Value} {l : List Int} {n0 : Nat} {h : Heap} (hX : ∀ b, X b → b < h.next) (o : ownI n0 h v l) : ∀ b, XO X v b → b < h.next := by
  rintro b (hb | ⟨p, n, c, hv, rfl⟩)
  · exact hX b hb
  · exact o.ints.block_lt _ _ _ hv
theorem list_add {pb n0 : Nat} {ts : List Tok} {h0 h : Heap} {st : PSt} {v : Value} {l : List Int} (k : Int) (p : Par pb ts (XO X v) h st) (o : ownI n0 h v l) (f : PFr pb h0 h) (hn : h0.next ≤ n0) (hno : n0 ≤ h.next) (hl : l.length ≤ 1000001) {h1 : Heap} (n1 : New1 h h1 (.cells [.int .i64 k] true 1)) :
    ∃ v' h', appendV 1 8 v (.slice (some ⟨h.next, 0, none⟩) 1 1) h1 = some (v', h') ∧ ownI n0 h' v' (l ++ [k]) ∧ Par pb ts (XO X v') h' st ∧ PFr pb h0 h' := by
  have o1 : ownI n0 h1 v l := o.keep n1.kept.next fun b _ hb => n1.kept.get b hb
  have hel : elemsOf h1 1 (.slice (some ⟨h.next, 0, none⟩) 1 1) = some ([k].length, ints64 [k]) := intsAt.elems (l := [k]) (.inr ⟨h.next, 1, rfl, by rw [n1.next]; omega, .inr ⟨true, 1, n1.get⟩⟩)
  have hno : n0 ≤ h1.next := Nat.le_trans hno n1.kept.next
  obtain ⟨v', h', ha, hb, ho, hv⟩ := append_own o1 hno hel (by simp; omega)
  exact ⟨v', h', ha, ho, (p.keep n1.kept).grow o1 hb hv, o1.frame hb (f.trans (n1.kept.pfr pb)) hn⟩
theorem list_ok (F : Par1 T) (hT : T.fn 35 = some C35) {pb : Nat} {ts : List Tok} {h : Heap} {st : PSt} {e : ByteArray} {g : FuncId} {one : PSt → Option (PR Nat)} {f : Nat} {r : PR (List Int)} (p : Par pb ts X h st) (hX : ∀ b, X b → b < h.next) (hone : OneOk T pb ts g one) (hs : listS ts e one f st = some r) :
    Wk T (.fn 35) [ptr pb 0, .string e, .func (.func g) #[] #[]] h (fun o h' => PPostK pb ts X h r o h') := by
  have hlt := p.lt
  refine Wk_fn2 hT (by simp [C35]) ?_
  simp only [C35]
  refine Wc_seq (Wc_ops (Wo_run (fun call => by simp only [go_sem, seval]; rfl) ?_))
  show Wc T _ _ _
  refine Wc_seq (Wc_ops (Wo_run (fun call => by simp only [go_sem, seval]; rfl) ?_))
  show Wc T _ _ _
  rw [listS] at hs
  have bad : ∀ (at' : Nat) (er : Int) (s' : St), r = .err at' er → PFr pb h s'.h → s'.d = some [] → s'.d = some [] ∧ PPostK pb ts X h r (.pan (.iface 44 (.agg #[.int .i64 at', .int .i64 er]))) s'.h := fun at' er s' hr hf hd => ⟨hd, by rw [hr]; exact ⟨hf, rfl⟩⟩
  refine Wc_mid (fun s' => s'.d = some [] ∧ s'.e 0 = .pointer (some ⟨pb, 0, none⟩) ∧ s'.e 1 = .string e ∧ ∃ kids st', innerS ts e one f st = some (.ok kids st') ∧ PFr pb h s'.h ∧ ownI h.next s'.h (s'.e 7) kids ∧ Par pb ts (XO X (s'.e 7)) s'.h st') ?_ ?_
  · rw [innerS] at hs ⊢
    cases ht : ts[st.i]? with
    | none => rw [ht] at hs; simp at hs
    | some t =>
      rw [ht] at hs
      simp only at hs ⊢
      refine Wc_seq (Wc_ops (Wo_pre 2 (fun call => by simp only [go_sem, seval]; rfl) ?_))
      refine Wo_new (v := .slice (some ⟨h.next, 0, none⟩) 1 1) (B := .cells [.string e] true 1) (by rfl) fun h1 n1 => ?_
      refine Wo_call (Wk_kept (is_ok F (p.keep n1.kept) ht (pstr e n1) (by simp)) fun h2 k2 => ?_)
      have k12 := n1.kept.trans k2
      have p2 := p.keep k12
      cases hb : isB t [e]
      case true =>
        refine (Wo_run (fun call => by simp only [go_sem, seval, hb]; rfl) ?_)
        show Wc T _ _ _
        refine Wc_cond false (by first | rfl | assumption) (fun e => by cases e) (fun _ => Wc_skip ?_)
        refine ⟨rfl, (by first | rfl | assumption), (by first | rfl | assumption), [], st, by rw [if_pos rfl], k12.pfr pb, .inl ⟨rfl, (by first | rfl | assumption)⟩, ?_⟩
        simp only [upd, dstUpd, reduceIte, Nat.reduceEqDiff]
        exact p2.nil
      rw [hb] at hs
      simp only [Bool.false_eq_true, if_false] at hs ⊢
      refine (Wo_run (fun call => by simp only [go_sem, seval, hb]; rfl) ?_)
      show Wc T _ _ _
      refine Wc_cond true (by first | rfl | assumption) (fun _ => ?_) (fun e => by cases e)
      have hX2 : ∀ b, X b → b < h2.next := fun b hb => Nat.lt_of_lt_of_le (hX b hb) k12.next
      cases ho : one st with
      | none => rw [ho] at hs; simp at hs
      | some r1 =>
        rw [ho] at hs
        refine Wc_seq (Wc_ops (Wo_pre 3 (fun call => by simp only [go_sem, seval]; rfl) ?_))
        refine Wo_callv (c := .fn g) (vs := [ptr pb 0]) (by simp only [go_sem, seval, target] <;> first | rfl | assumption | (symm; assumption)) ((hone X st h2 r1 p2 hX2 ho).mono ?_)
        cases r1 with
        | err at' er =>
          simp only at hs
          rintro o h3 ⟨f3, rfl⟩
          exact bad at' er ⟨_, h3, _⟩ (Option.some.inj hs).symm ((k12.pfr pb).trans f3) rfl
        | ok k st2 =>
          simp only at hs ⊢
          rintro o h3 ⟨f3, rfl, p3⟩
          show Wo T _ _ _
          have f03 := (k12.pfr pb).trans f3
          have hn3 := f03.next
          refine Wo_new (v := .slice (some ⟨h3.next, 0, none⟩) 1 1) (B := .cells [.int .i64 (k : Int)] true 1) (by rfl) fun h4 n4 => ?_
          obtain ⟨v', h5, ha, ho5, p5, f5⟩ := list_add (k : Int) p3.nil (n0 := h.next) (l := []) (.inl ⟨rfl, rfl⟩) f03 (Nat.le_refl _) hn3 (by simp) n4
          refine Wo_op (v := v') (h' := h5) (by simp only [iop, ev, upd, dstUpd, reduceIte, Nat.reduceEqDiff]; exact ha) ?_
          refine (Wo_run (fun call => by simp only [go_sem, seval]; rfl) ?_)
          show Wc T _ _ _
          rw [List.nil_append] at ho5
          have loop : ∀ (f : Nat) (ev' : Env) (h5 : Heap) (acc : List Int) (st2 : PSt), (match moreS ts one f acc st2 with | none => False | some (.err a er) => r = .err a er | some (.ok kids st') => True) → ev' 0 = .pointer (some ⟨pb, 0, none⟩) → ev' 1 = .string e → ev' 2 = .func (.func g) #[] #[] → PFr pb h h5 → ownI h.next h5 (ev' 7) acc → Par pb ts (XO X (ev' 7)) h5 st2 →
              Wc T (.loop C35L0) ⟨ev', h5, some []⟩ (Tb 0 fun x s' => match x with
                | .normal => s'.d = some [] ∧ s'.e 0 = .pointer (some ⟨pb, 0, none⟩) ∧ s'.e 1 = .string e ∧ ∃ kids st', moreS ts one f acc st2 = some (.ok kids st') ∧ PFr pb h s'.h ∧ ownI h.next s'.h (s'.e 7) kids ∧ Par pb ts (XO X (s'.e 7)) s'.h st'
                | .pan v => s'.d = some [] ∧ PPostK pb ts X h r (.pan v) s'.h
                | _ => False) := by
            intro f
            induction f with
            | zero => intro ev' h5 acc st2 hm; simp [moreS] at hm
            | succ f ih =>
              intro ev' h5 acc st2 hm e0 e1 e2 f5 o5 p5
              rw [moreS] at hm ⊢
              by_cases hacc : 1000000 < acc.length
              · rw [if_pos hacc] at hm; exact hm.elim
              rw [if_neg hacc] at hm ⊢
              cases htk : takeS ts ⟨#[44]⟩ st2 with
              | none => rw [htk] at hm; exact hm.elim
              | some q =>
                obtain ⟨b, st3⟩ := q
                rw [htk] at hm
                refine Wc_unroll (Wc_seq (Wc_seq (Wc_ops (Wo_pre 1 (fun call => by simp only [go_sem, seval, e0]; rfl) ?_))))
                refine Wo_call ((take_ok F p5 htk).mono ?_)
                rintro o h6 ⟨f6, p6, rfl⟩
                show Wo T _ _ _
                refine Wo_nil ?_
                show Wc T _ _ _
                have f06 := f5.trans f6
                have o6 := o5.pfr p5 f6
                cases b with
                | false =>
                  refine Wc_cond false (by first | rfl | assumption) (fun e => by cases e) (fun _ => Wc_exit ?_)
                  exact ⟨rfl, (by simp only [go_sem, seval, e0] <;> first | rfl | assumption | (symm; assumption)), (by simp only [go_sem, seval, e1] <;> first | rfl | assumption | (symm; assumption)), acc, st3, rfl, f06, by simp only [upd, dstUpd, reduceIte, Nat.reduceEqDiff]; exact o6, by simp only [upd, dstUpd, reduceIte, Nat.reduceEqDiff]; exact p6⟩
                | true =>
                  simp only at hm ⊢
                  refine Wc_cond true (by first | rfl | assumption) (fun _ => Wc_skip ?_) (fun e => by cases e)
                  show Wc T _ _ _
                  cases ho : one st3 with
                  | none => rw [ho] at hm; exact hm.elim
                  | some r1 =>
                    rw [ho] at hm
                    have hX6 := XO_lt (fun b hb => Nat.lt_of_lt_of_le (hX b hb) f06.next) o6
                    refine Wc_block (Wc_ops (Wo_pre 3 (fun call => by simp only [go_sem, seval, e0, e2]; rfl) ?_))
                    refine Wo_callv (c := .fn g) (vs := [ptr pb 0]) (by simp only [go_sem, seval, target] <;> first | rfl | assumption | (symm; assumption)) ((hone _ st3 h6 r1 p6 hX6 ho).mono ?_)
                    cases r1 with
                    | err at' er =>
                      simp only at hm
                      rintro o h7 ⟨f7, rfl⟩
                      exact bad at' er ⟨_, h7, _⟩ hm (f06.trans f7) rfl
                    | ok k st4 =>
                      simp only at hm ⊢
                      rintro o h7 ⟨f7, rfl, p7⟩
                      show Wo T _ _ _
                      have f07 := f06.trans f7
                      have o7 := o6.pfr p6 f7
                      refine Wo_new (v := .slice (some ⟨h7.next, 0, none⟩) 1 1) (B := .cells [.int .i64 (k : Int)] true 1) (by rfl) fun h8 n8 => ?_
                      obtain ⟨v', h9, ha, o9, p9, f9⟩ := list_add (k : Int) p7 o7 f07 (Nat.le_refl _) f07.next (by omega) n8
                      refine Wo_op (v := v') (h' := h9) (by simp only [iop, ev, upd, dstUpd, reduceIte, Nat.reduceEqDiff]; exact ha) ?_
                      refine (Wo_run (fun call => by simp only [go_sem, seval]; rfl) ?_)
                      exact ih _ h9 (acc ++ [(k : Int)]) st4 hm (by simp only [go_sem, seval, e0] <;> first | rfl | assumption | (symm; assumption)) (by simp only [go_sem, seval, e1] <;> first | rfl | assumption | (symm; assumption)) (by simp only [go_sem, seval, e2] <;> first | rfl | assumption | (symm; assumption)) f9 (by simp only [upd, dstUpd, reduceIte, Nat.reduceEqDiff]; exact o9) (by simp only [upd, dstUpd, reduceIte, Nat.reduceEqDiff]; exact p9)
          refine Wc_block ((loop f _ h5 [(k : Int)] st2 ?_ (by first | rfl | assumption) (by first | rfl | assumption) (by first | rfl | assumption) f5 (by simp only [upd, dstUpd, reduceIte, Nat.reduceEqDiff]; exact ho5) (by simp only [upd, dstUpd, reduceIte, Nat.reduceEqDiff]; exact p5)).mono ?_)
          · cases hm : moreS ts one f [(k : Int)] st2 with
            | none => rw [hm] at hs; simp at hs
            | some q =>
              rw [hm] at hs
              cases q with
              | err a er => simp only at hs ⊢; exact (Option.some.inj hs).symm
              | ok a b => trivial
          · intro x s' hx
            cases x with
            | normal => exact hx
            | brk i =>
              simp only [Tb] at hx ⊢
              split at hx
              · rename_i hi; rw [if_pos hi]; exact hx
              · exact hx.elim
            | ret => exact hx.elim
            | pan v => exact hx
  rintro ⟨e', h5, d⟩ ⟨hd, e0, e1, kids, st', hin, f5, o5, p5⟩
  simp only at hd e0 e1 f5 o5 p5
  rw [hd]
  rw [hin] at hs
  simp only at hs
  generalize hv7 : e' 7 = kv at o5 p5
  cases hw : wantS ts e st' with
  | none => rw [hw] at hs; simp at hs
  | some q =>
    rw [hw] at hs
    refine Wc_seq (Wc_ops (Wo_pre 2 (fun call => by simp only [go_sem, seval, e0, e1]; rfl) ?_))
    refine Wo_call ((want_ok F p5 hw).mono ?_)
    cases q with
    | err a er =>
      simp only at hs
      rintro o h6 ⟨f6, rfl⟩
      exact bad a er ⟨_, h6, _⟩ (Option.some.inj hs).symm (f5.trans f6) rfl
    | ok u st2 =>
      simp only at hs
      rintro o h6 ⟨f6, rfl, p6⟩
      show Wo T _ _ _
      refine Wo_nil ?_
      show Wc T _ _ _
      refine Wc_seq (Wc_ops (Wo_run (fun call => by simp only [go_sem, seval, hv7]; rfl) ?_))
      cases hs
      exact Wc_ret ⟨rfl, [kv], by simp only [resAll, resV, upd, dstUpd, reduceIte, Nat.reduceEqDiff], f5.trans f6, kv, rfl, o5.pfr p5 f6, p6⟩
end Go.Idl
end

section
namespace Go.Idl
variable {T : Tbl} {X : Nat → Prop}
def andS {α β : Type} (x : Option (PR α)) (f : α → PSt → Option (PR β)) : Option (PR β) := match x with
  | none => none
  | some (.err a e) => some (.err a e)
  | some (.ok a st) => f a st
theorem andS_some {α β : Type} {x : Option (PR α)} {f : α → PSt → Option (PR β)} {r : PR β} (h : andS x f = some r) : (∃ a e, x = some (.err a e) ∧ r = .err a e) ∨ ∃ a st, x = some (.ok a st) ∧ f a st = some r := by
  unfold andS at h
  split at h
  · cases h
  · cases h; exact .inl ⟨_, _, rfl, rfl⟩
  · exact .inr ⟨_, _, rfl, h⟩
def mkS (kind : Int) (text : ByteArray) (pos : Int) (kids : List Int) (st : PSt) : Option (PR Nat) := (nodeS kind text pos kids st).map fun q => .ok q.1 q.2
theorem mkS_some {kind : Int} {text : ByteArray} {pos : Int} {kids : List Int} {st : PSt} {r : PR Nat} (h : mkS kind text pos kids st = some r) : ∃ n st', nodeS kind text pos kids st = some (n, st') ∧ r = .ok n st' := by
  obtain ⟨q, h1, h2⟩ := Option.map_eq_some_iff.1 h
  exact ⟨q.1, q.2, h1, h2.symm⟩
def namedS (ts : List Tok) (st : PSt) : Option (PR Nat) := andS (nameS ts st) fun t st => mkS 17 t.text t.frm [] st
def madeS (ts : List Tok) (st : PSt) : Option (PR Nat) := andS (nameS ts st) fun t st => mkS 23 t.text t.frm [] st
def nothingS (ts : List Tok) (kind : Int) (pos : Int) (st : PSt) : Option (PR Nat) := andS (wantS ts ⟨#[40]⟩ st) fun _ st => andS (wantS ts ⟨#[41]⟩ st) fun _ st => mkS kind ⟨#[]⟩ pos [] st
def WordOk (T : Tbl) (pb : Nat) (ts : List Tok) (g : FuncId) (one : Int → PSt → Option (PR Nat)) : Prop :=
  ∀ (X : Nat → Prop) (st : PSt) (h : Heap) (pos : Int) (r : PR Nat), Par pb ts X h st → (∀ b, X b → b < h.next) → one pos st = some r → Wk T (.fn g) [ptr pb 0, .int .i64 pos] h (fun o h' => PPost pb ts X h (fun n : Nat => .ret (.int .i64 n)) r o h')
theorem nil_kids {h : Heap} : kidsAt X h (.slice none 0 0) [] := .inl ⟨rfl, rfl⟩
theorem Wo_node (F : Par1 T) {pb : Nat} {ts : List Tok} {h0 h : Heap} {st : PSt} {kind : Int} {text : ByteArray} {pos : Int} {kids : List Int} {kv : Value} {r : PR Nat} {a0 a1 a2 a3 a4 : Opd} {dst : Option Nat} {l : List Step} {e : Env} {d : Option (List Dfr)} {Q : Option Value → St → Prop} (p : Par pb ts X h st) (f0 : PFr pb h0 h) (hk : kidsAt X h kv kids) (hs : mkS kind text pos kids st = some r)
    (ha : [a0, a1, a2, a3, a4].map (ev e) = [ptr pb 0, .int .i64 kind, .string text, .int .i64 pos, kv]) (k : ∀ (n : Nat) (st' : PSt) (h' : Heap), r = .ok n st' → PFr pb h0 h' → Par pb ts X h' st' → Wo T l ⟨dstUpd e dst (.int .i64 n), h', d⟩ Q) : Wo T (⟨dst, .call 20 [a0, a1, a2, a3, a4], none⟩ :: l) ⟨e, h, d⟩ Q := by
  obtain ⟨n, st', h1, h2⟩ := mkS_some hs
  refine Wo_call ?_
  rw [ha]
  refine (node_ok F p hk h1).mono ?_
  rintro o h' ⟨f1, p1, rfl⟩
  exact k n st' h' h2 (f0.trans f1) p1
theorem named_ok (F : Par1 T) (hT : T.fn 36 = some C36) {pb : Nat} {ts : List Tok} : OneOk T pb ts 36 (namedS ts) := by
  intro X st h r p hX hs
  refine Wk_fn2 hT (by simp [C36]) ?_
  simp only [C36]
  refine Wc_seq (Wc_ops (Wo_run (fun call => by simp only [go_sem, seval]; rfl) ?_))
  show Wc T _ _ _
  refine Wc_seq (Wc_ops (Wo_pre 1 (fun call => by simp only [go_sem, seval]; rfl) ?_))
  rcases andS_some hs with ⟨a, er, h1, rfl⟩ | ⟨t, st1, h1, h2⟩
  · refine Wo_call ((name_ok F p h1).mono ?_)
    rintro o h2 ⟨f2, rfl⟩
    exact ⟨rfl, f2, rfl⟩
  · refine Wo_call ((name_ok F p h1).mono ?_)
    rintro o h2' ⟨f2, rfl, p2⟩
    show Wo T _ _ _
    refine Wo_op (v := ptr h2'.next 0) (h' := h2'.new (.cells z5 true 0)) rfl ?_
    refine Wo_store_new (cs := t.cells) (h := h2') (by first | rfl | assumption) (by first | rfl | assumption) rfl rfl fun h3 n3 => Wo_nil ?_
    show Wc T _ _ _
    have hg3 := n3.get
    refine Wc_seq (Wc_ops (Wo_pre 5 (fun call => by simp only [go_sem, seval, hg3, Tok.cells]; rfl) ?_))
    refine Wo_node F (p2.keep n3.kept) (f2.trans (n3.kept.pfr pb)) nil_kids h2 rfl fun n st' h4 hr f4 p4 => ?_
    refine (Wo_run (fun call => by simp only [go_sem, seval]; rfl) ?_)
    subst hr
    exact Wc_ret ⟨rfl, [.int .i64 n], by simp only [resAll, resV, upd, dstUpd, reduceIte, Nat.reduceEqDiff], f4, rfl, p4⟩
theorem made_ok (F : Par1 T) (hT : T.fn 91 = some C91) {pb : Nat} {ts : List Tok} : WordOk T pb ts 91 (fun _ => madeS ts) := by
  intro X st h pos r p hX hs
  refine Wk_fn2 hT (by simp [C91]) ?_
  simp only [C91]
  refine Wc_seq (Wc_ops (Wo_run (fun call => by simp only [go_sem, seval]; rfl) ?_))
  show Wc T _ _ _
  refine Wc_seq (Wc_ops (Wo_pre 1 (fun call => by simp only [go_sem, seval]; rfl) ?_))
  rcases andS_some hs with ⟨a, er, h1, rfl⟩ | ⟨t, st1, h1, h2⟩
  · refine Wo_call ((name_ok F p h1).mono ?_)
    rintro o h2 ⟨f2, rfl⟩
    exact ⟨rfl, f2, rfl⟩
  · refine Wo_call ((name_ok F p h1).mono ?_)
    rintro o h2' ⟨f2, rfl, p2⟩
    show Wo T _ _ _
    refine Wo_op (v := ptr h2'.next 0) (h' := h2'.new (.cells z5 true 0)) rfl ?_
    refine Wo_store_new (cs := t.cells) (h := h2') (by first | rfl | assumption) (by first | rfl | assumption) rfl rfl fun h3 n3 => Wo_nil ?_
    show Wc T _ _ _
    have hg3 := n3.get
    refine Wc_seq (Wc_ops (Wo_pre 5 (fun call => by simp only [go_sem, seval, hg3, Tok.cells]; rfl) ?_))
    refine Wo_node F (p2.keep n3.kept) (f2.trans (n3.kept.pfr pb)) nil_kids h2 rfl fun n st' h4 hr f4 p4 => ?_
    refine (Wo_run (fun call => by simp only [go_sem, seval]; rfl) ?_)
    subst hr
    exact Wc_ret ⟨rfl, [.int .i64 n], by simp only [resAll, resV, upd, dstUpd, reduceIte, Nat.reduceEqDiff], f4, rfl, p4⟩
theorem null_ok (F : Par1 T) (hT : T.fn 89 = some C89) {pb : Nat} {ts : List Tok} : WordOk T pb ts 89 (fun pos => mkS 16 ⟨#[]⟩ pos []) := by
  intro X st h pos r p hX hs
  refine Wk_fn2 hT (by simp [C89]) ?_
  simp only [C89]
  refine Wc_seq (Wc_ops (Wo_run (fun call => by simp only [go_sem, seval]; rfl) ?_))
  show Wc T _ _ _
  refine Wc_seq (Wc_ops (Wo_pre 2 (fun call => by simp only [go_sem, seval]; rfl) ?_))
  refine Wo_node F p (.refl pb h) nil_kids hs rfl fun n st' h4 hr f4 p4 => ?_
  refine (Wo_run (fun call => by simp only [go_sem, seval]; rfl) ?_)
  subst hr
  exact Wc_ret ⟨rfl, [.int .i64 n], by simp only [resAll, resV, upd, dstUpd, reduceIte, Nat.reduceEqDiff], f4, rfl, p4⟩
theorem root_ok (F : Par1 T) (hT : T.fn 90 = some C90) {pb : Nat} {ts : List Tok} : WordOk T pb ts 90 (fun pos => mkS 30 ⟨#[]⟩ pos []) := by
  intro X st h pos r p hX hs
  refine Wk_fn2 hT (by simp [C90]) ?_
  simp only [C90]
  refine Wc_seq (Wc_ops (Wo_run (fun call => by simp only [go_sem, seval]; rfl) ?_))
  show Wc T _ _ _
  refine Wc_seq (Wc_ops (Wo_pre 2 (fun call => by simp only [go_sem, seval]; rfl) ?_))
  refine Wo_node F p (.refl pb h) nil_kids hs rfl fun n st' h4 hr f4 p4 => ?_
  refine (Wo_run (fun call => by simp only [go_sem, seval]; rfl) ?_)
  subst hr
  exact Wc_ret ⟨rfl, [.int .i64 n], by simp only [resAll, resV, upd, dstUpd, reduceIte, Nat.reduceEqDiff], f4, rfl, p4⟩
theorem nothing_ok (F : Par1 T) (hT : T.fn 103 = some C103) {pb : Nat} {ts : List Tok} {h : Heap} {st : PSt} {kind pos : Int} {r : PR Nat} (p : Par pb ts X h st) (hs : nothingS ts kind pos st = some r) :
    Wk T (.fn 103) [ptr pb 0, .int .i64 kind, .int .i64 pos] h (fun o h' => PPost pb ts X h (fun n : Nat => .ret (.int .i64 n)) r o h') := by
  refine Wk_fn2 hT (by simp [C103]) ?_
  simp only [C103]
  refine Wc_seq (Wc_ops (Wo_run (fun call => by simp only [go_sem, seval]; rfl) ?_))
  show Wc T _ _ _
  refine Wc_seq (Wc_ops (Wo_pre 1 (fun call => by simp only [go_sem, seval]; rfl) ?_))
  rcases andS_some hs with ⟨a, er, h1, rfl⟩ | ⟨u, st1, h1, hs⟩
  · refine Wo_call ((want_ok F p h1).mono ?_)
    rintro o h2 ⟨f2, rfl⟩
    exact ⟨rfl, f2, rfl⟩
  refine Wo_call ((want_ok F p h1).mono ?_)
  rintro o h2 ⟨f2, rfl, p2⟩
  show Wo T _ _ _
  refine Wo_nil ?_
  show Wc T _ _ _
  refine Wc_seq (Wc_ops (Wo_pre 1 (fun call => by simp only [go_sem, seval]; rfl) ?_))
  rcases andS_some hs with ⟨a, er, h1, rfl⟩ | ⟨u, st1, h1, hs⟩
  · refine Wo_call ((want_ok F p2 h1).mono ?_)
    rintro o h3 ⟨f3, rfl⟩
    exact ⟨rfl, f2.trans f3, rfl⟩
  refine Wo_call ((want_ok F p2 h1).mono ?_)
  rintro o h3 ⟨f3, rfl, p3⟩
  show Wo T _ _ _
  refine Wo_nil ?_
  show Wc T _ _ _
  refine Wc_seq (Wc_ops (Wo_pre 3 (fun call => by simp only [go_sem, seval]; rfl) ?_))
  refine Wo_node F p3 (f2.trans f3) nil_kids hs rfl fun n st' h4 hr f4 p4 => ?_
  refine (Wo_run (fun call => by simp only [go_sem, seval]; rfl) ?_)
  subst hr
  exact Wc_ret ⟨rfl, [.int .i64 n], by simp only [resAll, resV, upd, dstUpd, reduceIte, Nat.reduceEqDiff], f4, rfl, p4⟩
theorem in_ok (F : Par1 T) (hN : T.fn 103 = some C103) (hT : T.fn 94 = some C94) {pb : Nat} {ts : List Tok} : WordOk T pb ts 94 (nothingS ts 26) := by
  intro X st h pos r p hX hs
  refine Wk_fn2 hT (by simp [C94]) ?_
  simp only [C94]
  refine Wc_seq (Wc_ops (Wo_run (fun call => by simp only [go_sem, seval]; rfl) ?_))
  show Wc T _ _ _
  refine Wc_seq (Wc_ops (Wo_pre 2 (fun call => by simp only [go_sem, seval]; rfl) ?_))
  refine Wo_call ((nothing_ok F hN p hs).mono ?_)
  cases r with
  | err a er => rintro o h2 ⟨f2, rfl⟩; exact ⟨rfl, f2, rfl⟩
  | ok n st' =>
    rintro o h2 ⟨f2, rfl, p2⟩
    show Wo T _ _ _
    refine (Wo_run (fun call => by simp only [go_sem, seval]; rfl) ?_)
    exact Wc_ret ⟨rfl, [.int .i64 n], by simp only [resAll, resV, upd, dstUpd, reduceIte, Nat.reduceEqDiff], f2, rfl, p2⟩
theorem size_ok (F : Par1 T) (hN : T.fn 103 = some C103) (hT : T.fn 96 = some C96) {pb : Nat} {ts : List Tok} : WordOk T pb ts 96 (nothingS ts 28) := by
  intro X st h pos r p hX hs
  refine Wk_fn2 hT (by simp [C96]) ?_
  simp only [C96]
  refine Wc_seq (Wc_ops (Wo_run (fun call => by simp only [go_sem, seval]; rfl) ?_))
  show Wc T _ _ _
  refine Wc_seq (Wc_ops (Wo_pre 2 (fun call => by simp only [go_sem, seval]; rfl) ?_))
  refine Wo_call ((nothing_ok F hN p hs).mono ?_)
  cases r with
  | err a er => rintro o h2 ⟨f2, rfl⟩; exact ⟨rfl, f2, rfl⟩
  | ok n st' =>
    rintro o h2 ⟨f2, rfl, p2⟩
    show Wo T _ _ _
    refine (Wo_run (fun call => by simp only [go_sem, seval]; rfl) ?_)
    exact Wc_ret ⟨rfl, [.int .i64 n], by simp only [resAll, resV, upd, dstUpd, reduceIte, Nat.reduceEqDiff], f2, rfl, p2⟩
end Go.Idl
end

section
namespace Go.Idl
variable {T : Tbl} {X : Nat → Prop}
def insideS (ts : List Tok) (ex : PSt → Option (PR Nat)) (kind pos : Int) (st : PSt) : Option (PR Nat) :=
  andS (wantS ts ⟨#[40]⟩ st) fun _ st => andS (ex st) fun e st => andS (wantS ts ⟨#[41]⟩ st) fun _ st => mkS kind ⟨#[]⟩ pos [(e : Int)] st
def lvlL : List (List ByteArray) := [[⟨#[124]⟩, ⟨#[94]⟩], [⟨#[38]⟩], [⟨#[60, 60]⟩, ⟨#[62, 62]⟩], [⟨#[43]⟩, ⟨#[45]⟩], [⟨#[42]⟩, ⟨#[47]⟩, ⟨#[37]⟩]]
def cmpL : List ByteArray := [⟨#[61, 61]⟩, ⟨#[33, 61]⟩, ⟨#[60]⟩, ⟨#[60, 61]⟩]
def sgnL : List ByteArray := [⟨#[45]⟩, ⟨#[33]⟩, ⟨#[126]⟩]
def wordS (ts : List Tok) (ex : PSt → Option (PR Nat)) (w : ByteArray) : Option (Int → PSt → Option (PR Nat)) :=
  if w = ⟨#[110, 117, 108, 108]⟩ then some fun pos => mkS 16 ⟨#[]⟩ pos [] else
  if w = ⟨#[114, 111, 111, 116]⟩ then some fun pos => mkS 30 ⟨#[]⟩ pos [] else
  if w = ⟨#[110, 101, 119]⟩ then some fun _ => madeS ts else
  if w = ⟨#[97, 114, 114]⟩ then some (insideS ts ex 24) else
  if w = ⟨#[108, 101, 110]⟩ then some (insideS ts ex 25) else
  if w = ⟨#[105, 110]⟩ then some (nothingS ts 26) else
  if w = ⟨#[105, 109, 103]⟩ then some (insideS ts ex 27) else
  if w = ⟨#[115, 105, 122, 101]⟩ then some (nothingS ts 28) else
  if w = ⟨#[112, 114, 111, 109, 111, 116, 101]⟩ then some (insideS ts ex 29) else none
mutual
def firstS (num : Int → ByteArray) (ts : List Tok) : Nat → PSt → Option (PR Nat)
  | 0, _ => none
  | f + 1, st => match ts[st.i]? with
    | none => none
    | some t =>
      if t.kind = 4 then mkS 15 (num t.num) t.frm [] { st with i := st.i + 1 }
      else if t.kind = 1 then match takeS ts ⟨#[40]⟩ { st with i := st.i + 1 } with
        | none => none
        | some (false, st) => mkS 17 t.text t.frm [] st
        | some (true, st) => andS (listS ts ⟨#[41]⟩ (exprS num ts f) f st) fun kids st => mkS 22 t.text t.frm kids st
      else match (if t.kind = 2 then wordS ts (exprS num ts f) t.text else none) with
        | some g => g t.frm { st with i := st.i + 1 }
        | none => andS (wantS ts ⟨#[40]⟩ st) fun _ st => andS (exprS num ts f st) fun e st => andS (wantS ts ⟨#[41]⟩ st) fun _ st => some (.ok e st)
def backL (num : Int → ByteArray) (ts : List Tok) : Nat → Nat → PSt → Option (PR Nat)
  | 0, _, _ => none
  | f + 1, e, st => match ts[st.i]? with
    | none => none
    | some t => match takeS ts ⟨#[46]⟩ st with
      | none => none
      | some (true, st) => andS (nameS ts st) fun n st => andS (mkS 20 n.text t.frm [(e : Int)] st) fun e st => backL num ts f e st
      | some (false, st) => match takeS ts ⟨#[91]⟩ st with
        | none => none
        | some (true, st) => andS (exprS num ts f st) fun i st => andS (wantS ts ⟨#[93]⟩ st) fun _ st => andS (mkS 21 ⟨#[]⟩ t.frm [(e : Int), (i : Int)] st) fun e st => backL num ts f e st
        | some (false, st) => some (.ok e st)
def backS (num : Int → ByteArray) (ts : List Tok) : Nat → PSt → Option (PR Nat)
  | 0, _ => none
  | f + 1, st => andS (firstS num ts f st) fun e st => backL num ts f e st
def signS (num : Int → ByteArray) (ts : List Tok) : Nat → PSt → Option (PR Nat)
  | 0, _ => none
  | f + 1, st => match ts[st.i]? with
    | none => none
    | some t => if isB t sgnL then andS (signS num ts f { st with i := st.i + 1 }) fun e st => mkS 18 t.text t.frm [(e : Int)] st else backS num ts f st
def chainL (num : Int → ByteArray) (ts : List Tok) : Nat → Nat → Nat → PSt → Option (PR Nat)
  | 0, _, _, _ => none
  | f + 1, level, e, st => match ts[st.i]? with
    | none => none
    | some t => if isB t (lvlL.getD level []) then andS (chainS num ts f (level + 1) { st with i := st.i + 1 }) fun g st => andS (mkS 19 t.text t.frm [(e : Int), (g : Int)] st) fun e st => chainL num ts f level e st else some (.ok e st)
def chainS (num : Int → ByteArray) (ts : List Tok) : Nat → Nat → PSt → Option (PR Nat)
  | 0, _, _ => none
  | f + 1, level, st => if level = 5 then signS num ts f st else andS (chainS num ts f (level + 1) st) fun e st => chainL num ts f level e st
def exprS (num : Int → ByteArray) (ts : List Tok) : Nat → PSt → Option (PR Nat)
  | 0, _ => none
  | f + 1, st => andS (chainS num ts f 0 st) fun e st => match ts[st.i]? with
    | none => none
    | some t => if isB t cmpL then andS (chainS num ts f 0 { st with i := st.i + 1 }) fun g st => mkS 19 t.text t.frm [(e : Int), (g : Int)] st else some (.ok e st)
end
theorem lit_kids {h h1 : Heap} {kids : List Int} {c : Nat} (hX : ∀ b, X b → b < h.next) (n1 : New1 h h1 (.cells (ints64 kids) true 1)) : kidsAt X h1 (.slice (some ⟨h.next, 0, none⟩) kids.length c) kids :=
  .inr ⟨h.next, c, rfl, by rw [n1.next]; exact Nat.lt_succ_self _, n1.get, fun hx => Nat.lt_irrefl _ (hX _ hx)⟩
theorem inside_ok (F : Par1 T) (hT : T.fn 102 = some C102) {pb : Nat} {ts : List Tok} {ex : PSt → Option (PR Nat)} (hex : OneOk T pb ts 66 ex) {h : Heap} {st : PSt} {kind pos : Int} {r : PR Nat} (p : Par pb ts X h st) (hX : ∀ b, X b → b < h.next) (hs : insideS ts ex kind pos st = some r) :
    Wk T (.fn 102) [ptr pb 0, .int .i64 kind, .int .i64 pos] h (fun o h' => PPost pb ts X h (fun n : Nat => .ret (.int .i64 n)) r o h') := by
  refine Wk_fn2 hT (by simp [C102]) ?_
  simp only [C102]
  refine Wc_seq (Wc_ops (Wo_run (fun call => by simp only [go_sem, seval]; rfl) ?_))
  show Wc T _ _ _
  refine Wc_seq (Wc_ops (Wo_pre 1 (fun call => by simp only [go_sem, seval]; rfl) ?_))
  rcases andS_some hs with ⟨a, er, h1, rfl⟩ | ⟨u, st1, h1, hs⟩
  · refine Wo_call ((want_ok F p h1).mono ?_)
    rintro o h2 ⟨f2, rfl⟩
    exact ⟨rfl, f2, rfl⟩
  refine Wo_call ((want_ok F p h1).mono ?_)
  rintro o h2 ⟨f2, rfl, p2⟩
  show Wo T _ _ _
  refine Wo_nil ?_
  show Wc T _ _ _
  have hX2 : ∀ b, X b → b < h2.next := fun b hb => Nat.lt_of_lt_of_le (hX b hb) f2.next
  refine Wc_seq (Wc_ops (Wo_pre 1 (fun call => by simp only [go_sem, seval]; rfl) ?_))
  rcases andS_some hs with ⟨a, er, h1, rfl⟩ | ⟨e, st2, h1, hs⟩
  · refine Wo_call ((hex X st1 h2 _ p2 hX2 h1).mono ?_)
    rintro o h3 ⟨f3, rfl⟩
    exact ⟨rfl, f2.trans f3, rfl⟩
  refine Wo_call ((hex X st1 h2 _ p2 hX2 h1).mono ?_)
  rintro o h3 ⟨f3, rfl, p3⟩
  show Wo T _ _ _
  refine (Wo_run (fun call => by simp only [go_sem, seval]; rfl) ?_)
  show Wc T _ _ _
  have f03 := f2.trans f3
  refine Wc_seq (Wc_ops (Wo_pre 1 (fun call => by simp only [go_sem, seval]; rfl) ?_))
  rcases andS_some hs with ⟨a, er, h1, rfl⟩ | ⟨u2, st3, h1, hs⟩
  · refine Wo_call ((want_ok F p3 h1).mono ?_)
    rintro o h4 ⟨f4, rfl⟩
    exact ⟨rfl, f03.trans f4, rfl⟩
  refine Wo_call ((want_ok F p3 h1).mono ?_)
  rintro o h4 ⟨f4, rfl, p4⟩
  show Wo T _ _ _
  refine Wo_nil ?_
  show Wc T _ _ _
  have f04 := f03.trans f4
  have hX4 : ∀ b, X b → b < h4.next := fun b hb => Nat.lt_of_lt_of_le (hX b hb) f04.next
  refine Wc_seq (Wc_ops (Wo_pre 4 (fun call => by simp only [go_sem, seval]; rfl) ?_))
  refine Wo_new (v := .slice (some ⟨h4.next, 0, none⟩) 1 1) (B := .cells (ints64 [(e : Int)]) true 1) (by rfl) fun h5 n5 => ?_
  refine Wo_node F (p4.keep n5.kept) (f04.trans (n5.kept.pfr pb)) (lit_kids (kids := [(e : Int)]) (c := 1) hX4 n5) hs rfl fun n st' h6 hr f6 p6 => ?_
  refine (Wo_run (fun call => by simp only [go_sem, seval]; rfl) ?_)
  subst hr
  exact Wc_ret ⟨rfl, [.int .i64 n], by simp only [resAll, resV, upd, dstUpd, reduceIte, Nat.reduceEqDiff], f6, rfl, p6⟩
end Go.Idl
end

section
namespace Go.Idl
variable {T : Tbl} {X : Nat → Prop}
def mapStepG (kk : KK) (p : Value × Value) : Step := ⟨none, .op (.mapset kk (.t 1) (.c p.1) (.c p.2)), none⟩
def mapInG (es : List (Value × Value)) (p : Value × Value) : List (Value × Value) := setK [p.1] p.1 p.2 es
theorem Wo_mapsG {kk : KK} {rest : List Step} {e : Env} {d : Option (List Dfr)} {Q : Option Value → St → Prop} {m : Nat} (he : e 1 = .map (some m)) : ∀ (ps : List (Value × Value)) {h : Heap} {es : List (Value × Value)}, (∀ p ∈ ps, keyOf kk p.1 = some [p.1]) → h.get m = some (.map kk es) →
    (∀ h', KeptBut m h h' → h'.next = h.next → h'.get m = some (.map kk (ps.foldl mapInG es)) → Wo T rest ⟨e, h', d⟩ Q) → Wo T (ps.map (mapStepG kk) ++ rest) ⟨e, h, d⟩ Q
  | [], h, es, _, hm, k => k h (.refl _ _) rfl hm
  | p :: ps, h, es, hk, hm, k => by
    rw [List.map_cons, List.cons_append]
    refine Wo_op (v := undef) (h' := h.set m (.map kk (mapInG es p))) ?_ ?_
    · simp only [iop, ev, he, hm, hk p (List.mem_cons_self ..), if_true]; rfl
    · refine Wo_mapsG he ps (fun q hq => hk q (List.mem_cons_of_mem _ hq)) (set_get' _ _ _) fun h' k1 k2 k3 => k h' (((KeptBut.refl m h).set _ (.inl rfl)).trans k1) k2 k3
def fnV (f : FuncId) : Value := .func (.func f) #[] #[]
def wordM : List (Value × Value) := [(.string ⟨#[110, 117, 108, 108]⟩, fnV 89), (.string ⟨#[114, 111, 111, 116]⟩, fnV 90), (.string ⟨#[110, 101, 119]⟩, fnV 91), (.string ⟨#[97, 114, 114]⟩, fnV 92), (.string ⟨#[108, 101, 110]⟩, fnV 93), (.string ⟨#[105, 110]⟩, fnV 94), (.string ⟨#[105, 109, 103]⟩, fnV 95), (.string ⟨#[115, 105, 122, 101]⟩, fnV 96), (.string ⟨#[112, 114, 111, 109, 111, 116, 101]⟩, fnV 97)]
theorem wordM_fold : wordM.foldl mapInG [] = wordM := by kernel_rfl
theorem words_ok (hT : T.fn 83 = some C83) {h : Heap} : Wk T (.fn 83) [] h (fun o h' => Kept h h' ∧ ∃ m, m < h'.next ∧ o = .ret (.map (some m)) ∧ h'.get m = some (.map (.one .str) wordM)) := by
  refine Wk_fn hT (by simp [C83]) ?_
  simp only [C83]
  refine Wc_seq (Wc_ops (Wo_run (fun call => by simp only [go_sem, seval]; rfl) ?_))
  show Wc T _ _ _
  refine Wc_seq (Wc_ops (Wo_new (v := .map (some h.next)) (B := .map (.one .str) []) rfl fun h1 n1 => ?_))
  refine Wo_mapsG (m := h.next) (by simp only [upd, dstUpd, reduceIte, Nat.reduceEqDiff]) wordM (by simp [wordM, keyOf, fit1]) n1.get (rest := [⟨(some 2), .op (.mov (.t 1)), none⟩, ⟨(some 0), .op (.mov (.t 2)), none⟩]) fun h' k1 k2 k3 => ?_
  rw [wordM_fold] at k3
  refine (Wo_run (fun call => by simp only [go_sem, seval]; rfl) ?_)
  refine Wc_ret ⟨.inr rfl, rfl, [.map (some h.next)], by simp only [resAll, resV, upd, dstUpd, reduceIte, Nat.reduceEqDiff], n1.kept.of_but k1 (Nat.le_refl _), h.next, ?_, rfl, k3⟩
  show h.next < h'.next
  rw [k2, n1.next]; exact Nat.lt_succ_self _
structure WordFns (T : Tbl) : Prop where
  knull : T.fn 89 = some C89
  kroot : T.fn 90 = some C90
  kmade : T.fn 91 = some C91
  karr : T.fn 92 = some C92
  klength : T.fn 93 = some C93
  kin : T.fn 94 = some C94
  kimg : T.fn 95 = some C95
  ksize : T.fn 96 = some C96
  kpromote : T.fn 97 = some C97
  nothing : T.fn 103 = some C103
  inside : T.fn 102 = some C102
  words : T.fn 83 = some C83
theorem arr_ok (F : Par1 T) (hI : T.fn 102 = some C102) (hT : T.fn 92 = some C92) {pb : Nat} {ts : List Tok} {ex : PSt → Option (PR Nat)} (hex : OneOk T pb ts 66 ex) : WordOk T pb ts 92 (insideS ts ex 24) := by
  intro X st h pos r p hX hs
  refine Wk_fn2 hT (by simp [C92]) ?_
  simp only [C92]
  refine Wc_seq (Wc_ops (Wo_run (fun call => by simp only [go_sem, seval]; rfl) ?_))
  show Wc T _ _ _
  refine Wc_seq (Wc_ops (Wo_pre 2 (fun call => by simp only [go_sem, seval]; rfl) ?_))
  refine Wo_call ((inside_ok F hI hex p hX hs).mono ?_)
  cases r with
  | err a er => rintro o h2 ⟨f2, rfl⟩; exact ⟨rfl, f2, rfl⟩
  | ok n st' =>
    rintro o h2 ⟨f2, rfl, p2⟩
    show Wo T _ _ _
    refine (Wo_run (fun call => by simp only [go_sem, seval]; rfl) ?_)
    exact Wc_ret ⟨rfl, [.int .i64 n], by simp only [resAll, resV, upd, dstUpd, reduceIte, Nat.reduceEqDiff], f2, rfl, p2⟩
theorem length_ok (F : Par1 T) (hI : T.fn 102 = some C102) (hT : T.fn 93 = some C93) {pb : Nat} {ts : List Tok} {ex : PSt → Option (PR Nat)} (hex : OneOk T pb ts 66 ex) : WordOk T pb ts 93 (insideS ts ex 25) := by
  intro X st h pos r p hX hs
  refine Wk_fn2 hT (by simp [C93]) ?_
  simp only [C93]
  refine Wc_seq (Wc_ops (Wo_run (fun call => by simp only [go_sem, seval]; rfl) ?_))
  show Wc T _ _ _
  refine Wc_seq (Wc_ops (Wo_pre 2 (fun call => by simp only [go_sem, seval]; rfl) ?_))
  refine Wo_call ((inside_ok F hI hex p hX hs).mono ?_)
  cases r with
  | err a er => rintro o h2 ⟨f2, rfl⟩; exact ⟨rfl, f2, rfl⟩
  | ok n st' =>
    rintro o h2 ⟨f2, rfl, p2⟩
    show Wo T _ _ _
    refine (Wo_run (fun call => by simp only [go_sem, seval]; rfl) ?_)
    exact Wc_ret ⟨rfl, [.int .i64 n], by simp only [resAll, resV, upd, dstUpd, reduceIte, Nat.reduceEqDiff], f2, rfl, p2⟩
theorem img_ok (F : Par1 T) (hI : T.fn 102 = some C102) (hT : T.fn 95 = some C95) {pb : Nat} {ts : List Tok} {ex : PSt → Option (PR Nat)} (hex : OneOk T pb ts 66 ex) : WordOk T pb ts 95 (insideS ts ex 27) := by
  intro X st h pos r p hX hs
  refine Wk_fn2 hT (by simp [C95]) ?_
  simp only [C95]
  refine Wc_seq (Wc_ops (Wo_run (fun call => by simp only [go_sem, seval]; rfl) ?_))
  show Wc T _ _ _
  refine Wc_seq (Wc_ops (Wo_pre 2 (fun call => by simp only [go_sem, seval]; rfl) ?_))
  refine Wo_call ((inside_ok F hI hex p hX hs).mono ?_)
  cases r with
  | err a er => rintro o h2 ⟨f2, rfl⟩; exact ⟨rfl, f2, rfl⟩
  | ok n st' =>
    rintro o h2 ⟨f2, rfl, p2⟩
    show Wo T _ _ _
    refine (Wo_run (fun call => by simp only [go_sem, seval]; rfl) ?_)
    exact Wc_ret ⟨rfl, [.int .i64 n], by simp only [resAll, resV, upd, dstUpd, reduceIte, Nat.reduceEqDiff], f2, rfl, p2⟩
theorem promote_ok (F : Par1 T) (hI : T.fn 102 = some C102) (hT : T.fn 97 = some C97) {pb : Nat} {ts : List Tok} {ex : PSt → Option (PR Nat)} (hex : OneOk T pb ts 66 ex) : WordOk T pb ts 97 (insideS ts ex 29) := by
  intro X st h pos r p hX hs
  refine Wk_fn2 hT (by simp [C97]) ?_
  simp only [C97]
  refine Wc_seq (Wc_ops (Wo_run (fun call => by simp only [go_sem, seval]; rfl) ?_))
  show Wc T _ _ _
  refine Wc_seq (Wc_ops (Wo_pre 2 (fun call => by simp only [go_sem, seval]; rfl) ?_))
  refine Wo_call ((inside_ok F hI hex p hX hs).mono ?_)
  cases r with
  | err a er => rintro o h2 ⟨f2, rfl⟩; exact ⟨rfl, f2, rfl⟩
  | ok n st' =>
    rintro o h2 ⟨f2, rfl, p2⟩
    show Wo T _ _ _
    refine (Wo_run (fun call => by simp only [go_sem, seval]; rfl) ?_)
    exact Wc_ret ⟨rfl, [.int .i64 n], by simp only [resAll, resV, upd, dstUpd, reduceIte, Nat.reduceEqDiff], f2, rfl, p2⟩
theorem word_at (F : Par1 T) (W : WordFns T) {pb : Nat} {ts : List Tok} {ex : PSt → Option (PR Nat)} (hex : OneOk T pb ts 66 ex) (w : ByteArray) :
    match wordS ts ex w with
    | some g => ∃ f, findK [.string w] wordM = some (fnV f) ∧ WordOk T pb ts f g
    | none => findK [.string w] wordM = none := by
  unfold wordS
  by_cases h0 : w = ⟨#[110, 117, 108, 108]⟩
  · rw [if_pos h0]; subst h0; exact ⟨_, by kernel_rfl, null_ok F W.knull⟩
  rw [if_neg h0]
  by_cases h1 : w = ⟨#[114, 111, 111, 116]⟩
  · rw [if_pos h1]; subst h1; exact ⟨_, by kernel_rfl, root_ok F W.kroot⟩
  rw [if_neg h1]
  by_cases h2 : w = ⟨#[110, 101, 119]⟩
  · rw [if_pos h2]; subst h2; exact ⟨_, by kernel_rfl, made_ok F W.kmade⟩
  rw [if_neg h2]
  by_cases h3 : w = ⟨#[97, 114, 114]⟩
  · rw [if_pos h3]; subst h3; exact ⟨_, by kernel_rfl, arr_ok F W.inside W.karr hex⟩
  rw [if_neg h3]
  by_cases h4 : w = ⟨#[108, 101, 110]⟩
  · rw [if_pos h4]; subst h4; exact ⟨_, by kernel_rfl, length_ok F W.inside W.klength hex⟩
  rw [if_neg h4]
  by_cases h5 : w = ⟨#[105, 110]⟩
  · rw [if_pos h5]; subst h5; exact ⟨_, by kernel_rfl, in_ok F W.nothing W.kin⟩
  rw [if_neg h5]
  by_cases h6 : w = ⟨#[105, 109, 103]⟩
  · rw [if_pos h6]; subst h6; exact ⟨_, by kernel_rfl, img_ok F W.inside W.kimg hex⟩
  rw [if_neg h6]
  by_cases h7 : w = ⟨#[115, 105, 122, 101]⟩
  · rw [if_pos h7]; subst h7; exact ⟨_, by kernel_rfl, size_ok F W.nothing W.ksize⟩
  rw [if_neg h7]
  by_cases h8 : w = ⟨#[112, 114, 111, 109, 111, 116, 101]⟩
  · rw [if_pos h8]; subst h8; exact ⟨_, by kernel_rfl, promote_ok F W.inside W.kpromote hex⟩
  rw [if_neg h8]
  simp only [wordM, findK, seqL, seq1, cellsV, Bool.and_true, decide_eq_true_eq, h0, h1, h2, h3, h4, h5, h6, h7, h8, if_false]
end Go.Idl
end

section
namespace Go.Idl
variable {T : Tbl} {X : Nat → Prop}
theorem pstrs (l : List ByteArray) {c : Nat} {h h1 : Heap} (n1 : New1 h h1 (.cells (l.flatMap strC) true 1)) : strsAt h1 (.slice (some ⟨h.next, 0, none⟩) l.length c) l :=
  ⟨.inr ⟨h.next, c, rfl, by rw [n1.next]; exact Nat.lt_succ_self _, .inr ⟨true, 1, n1.get⟩⟩, fun _ _ => trivial⟩
theorem sign_step (F : Par1 T) (hT : T.fn 85 = some C85) {num : Int → ByteArray} {pb : Nat} {ts : List Tok} {f : Nat} (hback : OneOk T pb ts 65 (backS num ts f)) (hsign : OneOk T pb ts 85 (signS num ts f)) : OneOk T pb ts 85 (signS num ts (f + 1)) := by
  intro X st h r p hX hs
  rw [signS] at hs
  cases ht : ts[st.i]? with
  | none => rw [ht] at hs; cases hs
  | some t =>
    rw [ht] at hs
    simp only at hs
    have hi := (List.getElem?_eq_some_iff.1 ht).1
    have hfew := p.few
    refine Wk_fn2 hT (by simp [C85]) ?_
    simp only [C85]
    refine Wc_seq (Wc_ops (Wo_run (fun call => by simp only [go_sem, seval]; rfl) ?_))
    show Wc T _ _ _
    refine Wc_seq (Wc_ops (Wo_pre 1 (fun call => by simp only [go_sem, seval]; rfl) ?_))
    refine Wo_call (Wk_kept (now_ok F p ht) fun h2 k2 => ?_)
    refine Wo_op (v := ptr h2.next 0) (h' := h2.new (.cells z5 true 0)) rfl ?_
    refine Wo_store_new (cs := t.cells) (h := h2) (by first | rfl | assumption) (by first | rfl | assumption) rfl rfl fun h3 n3 => Wo_nil ?_
    show Wc T _ _ _
    have k3 := k2.trans n3.kept
    refine Wc_seq (Wc_seq (Wc_ops (Wo_pre 1 (fun call => by simp only [go_sem, seval]; rfl) ?_)))
    refine Wo_new (v := .slice (some ⟨h3.next, 0, none⟩) 3 3) (B := .cells (sgnL.flatMap strC) true 1) (by rfl) fun h4 n4 => ?_
    refine Wo_call (Wk_kept (is_ok F ((p.keep k3).keep n4.kept) ht (pstrs sgnL n4) (by decide)) fun h5 k5 => ?_)
    have k35 := n4.kept.trans k5
    have k05 := k3.trans k35
    have p5 := p.keep k05
    have hX5 : ∀ b, X b → b < h5.next := fun b hb => Nat.lt_of_lt_of_le (hX b hb) k05.next
    have hlt3 : h2.next < h3.next := by rw [n3.next]; exact Nat.lt_succ_self _
    have hg5 : h5.get h2.next = some (.cells t.cells true 0) := by rw [k35.get _ hlt3]; exact n3.get
    cases hb : isB t sgnL
    · rw [hb] at hs
      simp only [Bool.false_eq_true, if_false] at hs
      refine (Wo_run (fun call => by simp only [go_sem, seval, hb]; rfl) ?_)
      show Wc T _ _ _
      refine Wc_cond true (by first | rfl | assumption) (fun _ => ?_) (fun e => by cases e)
      refine Wc_seq (Wc_ops (Wo_pre 1 (fun call => by simp only [go_sem, seval]; rfl) ?_))
      refine Wo_call ((hback X st h5 r p5 hX5 hs).mono ?_)
      cases r with
      | err a er => rintro o h6 ⟨f6, rfl⟩; exact ⟨rfl, (k05.pfr pb).trans f6, rfl⟩
      | ok n st' =>
        rintro o h6 ⟨f6, rfl, p6⟩
        show Wo T _ _ _
        refine (Wo_run (fun call => by simp only [go_sem, seval]; rfl) ?_)
        exact Wc_ret ⟨rfl, [.int .i64 n], by simp only [resAll, resV, upd, dstUpd, reduceIte, Nat.reduceEqDiff], (k05.pfr pb).trans f6, rfl, p6⟩
    rw [hb, if_pos rfl] at hs
    refine (Wo_run (fun call => by simp only [go_sem, seval, hb]; rfl) ?_)
    show Wc T _ _ _
    refine Wc_cond false (by first | rfl | assumption) (fun e => by cases e) (fun _ => Wc_skip ?_)
    show Wc T _ _ _
    obtain ⟨tv, lv, nds, hg, _⟩ := p5.rep
    have hw : IntKind.i64.wrap (((st.i : Nat) : Int) + 1) = ((st.i + 1 : Nat) : Int) := by rw [wrap64] <;> omega
    obtain ⟨pgo, fgo⟩ := p5.go (i := st.i + 1) hg
    refine Wc_seq (Wc_ops (Wo_pre 7 (fun call => by simp only [go_sem, seval, hg, hw]; rfl) ?_))
    refine Wo_op (iop_store_at (k := 1) (v := .int .i64 ((st.i + 1 : Nat) : Int)) (by first | rfl | assumption) (by simp only [ev, upd, dstUpd, reduceIte, Nat.reduceEqDiff]; rfl) hg (by simp)) (Wo_nil ?_)
    show Wc T _ _ _
    have hset : ([tv, Value.int .i64 st.i, lv].set 1 (.int .i64 ((st.i + 1 : Nat) : Int))) = [tv, .int .i64 ((st.i + 1 : Nat) : Int), lv] := rfl
    rw [hset]
    have hn05 := k05.next
    have hpb3 : pb < h3.next := by have := p.lt; have := k3.next; omega
    have hpb2 : pb < h2.next := by have := p.lt; have := k2.next; omega
    have hg6 : (h5.set pb (.cells [tv, .int .i64 ((st.i + 1 : Nat) : Int), lv] true 0)).get h2.next = some (.cells t.cells true 0) := by rw [set_get_ne' _ _ (by omega)]; exact hg5
    generalize h5.set pb (.cells [tv, .int .i64 ((st.i + 1 : Nat) : Int), lv] true 0) = h6 at pgo fgo hg6 ⊢
    have f06 := (k05.pfr pb).trans fgo
    have hX6 : ∀ b, X b → b < h6.next := fun b hb => Nat.lt_of_lt_of_le (hX b hb) f06.next
    refine Wc_seq (Wc_ops (Wo_pre 1 (fun call => by simp only [go_sem, seval]; rfl) ?_))
    rcases andS_some hs with ⟨a, er, h1, rfl⟩ | ⟨e, st2, h1, hs⟩
    · refine Wo_call ((hsign X _ h6 _ pgo hX6 h1).mono ?_)
      rintro o h7 ⟨f7, rfl⟩
      exact ⟨rfl, f06.trans f7, rfl⟩
    refine Wo_call ((hsign X _ h6 _ pgo hX6 h1).mono ?_)
    rintro o h7 ⟨f7, rfl, p7⟩
    show Wo T _ _ _
    refine (Wo_run (fun call => by simp only [go_sem, seval]; rfl) ?_)
    show Wc T _ _ _
    have f07 := f06.trans f7
    have hX7 : ∀ b, X b → b < h7.next := fun b hb => Nat.lt_of_lt_of_le (hX b hb) f07.next
    have hg7 : h7.get h2.next = some (.cells t.cells true 0) := by
      rw [f7.get _ (by have := fgo.next; have := k35.next; omega) (by omega) (fun cs e => by rw [hg6] at e; simp at e)]; exact hg6
    refine Wc_seq (Wc_ops (Wo_pre 6 (fun call => by simp only [go_sem, seval, hg7, Tok.cells]; rfl) ?_))
    refine Wo_new (v := .slice (some ⟨h7.next, 0, none⟩) 1 1) (B := .cells (ints64 [(e : Int)]) true 1) (by rfl) fun h8 n8 => ?_
    refine Wo_node F (p7.keep n8.kept) (f07.trans (n8.kept.pfr pb)) (lit_kids (kids := [(e : Int)]) (c := 1) hX7 n8) hs rfl fun n st' h9 hr f9 p9 => ?_
    refine (Wo_run (fun call => by simp only [go_sem, seval]; rfl) ?_)
    subst hr
    exact Wc_ret ⟨rfl, [.int .i64 n], by simp only [resAll, resV, upd, dstUpd, reduceIte, Nat.reduceEqDiff], f9, rfl, p9⟩
end Go.Idl
end

section
namespace Go.Idl
variable {T : Tbl} {X : Nat → Prop}
def lvlC (n : Nat) : List Value := [.slice (some ⟨n, 0, none⟩) 2 2, .slice (some ⟨n + 1, 0, none⟩) 1 1, .slice (some ⟨n + 2, 0, none⟩) 2 2, .slice (some ⟨n + 3, 0, none⟩) 2 2, .slice (some ⟨n + 4, 0, none⟩) 3 3]
structure LvlAt (n : Nat) (h : Heap) : Prop where
  lt : n + 5 < h.next
  all : h.get (n + 5) = some (.cells (lvlC n) true 1)
  each : ∀ k, k < 5 → h.get (n + k) = some (.cells ((lvlL.getD k []).flatMap strC) true 1)
theorem LvlAt.pfr {n pb : Nat} {ts : List Tok} {st : PSt} {h h' : Heap} (l : LvlAt n h) (p : Par pb ts X h st) (f : PFr pb h h') : LvlAt n h' := by
  have go : ∀ (b : Nat) (cs : List Value), b < h.next → h.get b = some (.cells cs true 1) → h'.get b = some (.cells cs true 1) := fun b cs hb hg => by
    rw [f.get b hb (fun e => by subst e; exact p.no1 _ hg) (fun cs e => by rw [hg] at e; simp at e)]; exact hg
  have := l.lt
  exact ⟨Nat.lt_of_lt_of_le l.lt f.next, go _ _ l.lt l.all, fun k hk => go _ _ (by omega) (l.each k hk)⟩
theorem LvlAt.at {n : Nat} {h : Heap} (l : LvlAt n h) {k : Nat} (hk : k < 5) : ∃ v, (lvlC n)[k * 1]? = some v ∧ strsAt h v (lvlL.getD k []) := by
  have hl := l.lt
  have e := l.each k hk
  match k, hk with
  | 0, _ => exact ⟨_, rfl, .inr ⟨n + 0, 2, rfl, by omega, .inr ⟨_, _, e⟩⟩, fun _ _ => trivial⟩
  | 1, _ => exact ⟨_, rfl, .inr ⟨n + 1, 1, rfl, by omega, .inr ⟨_, _, e⟩⟩, fun _ _ => trivial⟩
  | 2, _ => exact ⟨_, rfl, .inr ⟨n + 2, 2, rfl, by omega, .inr ⟨_, _, e⟩⟩, fun _ _ => trivial⟩
  | 3, _ => exact ⟨_, rfl, .inr ⟨n + 3, 2, rfl, by omega, .inr ⟨_, _, e⟩⟩, fun _ _ => trivial⟩
  | 4, _ => exact ⟨_, rfl, .inr ⟨n + 4, 3, rfl, by omega, .inr ⟨_, _, e⟩⟩, fun _ _ => trivial⟩
theorem levels_ok (hT : T.fn 84 = some C84) {h : Heap} : Wk T (.fn 84) [] h (fun o h' => Kept h h' ∧ o = .ret (.slice (some ⟨h.next + 5, 0, none⟩) 5 5) ∧ LvlAt h.next h') := by
  refine Wk_fn hT (by simp [C84]) ?_
  simp only [C84]
  refine Wc_seq (Wc_ops (Wo_run (fun call => by simp only [go_sem, seval]; rfl) ?_))
  show Wc T _ _ _
  refine Wc_seq (Wc_ops (Wo_new (v := .slice (some ⟨h.next, 0, none⟩) 2 2) (B := .cells ((lvlL.getD 0 []).flatMap strC) true 1) (by rfl) fun h1 n1 => ?_))
  refine Wo_new (v := .slice (some ⟨h1.next, 0, none⟩) 1 1) (B := .cells ((lvlL.getD 1 []).flatMap strC) true 1) (by rfl) fun h2 n2 => ?_
  refine Wo_new (v := .slice (some ⟨h2.next, 0, none⟩) 2 2) (B := .cells ((lvlL.getD 2 []).flatMap strC) true 1) (by rfl) fun h3 n3 => ?_
  refine Wo_new (v := .slice (some ⟨h3.next, 0, none⟩) 2 2) (B := .cells ((lvlL.getD 3 []).flatMap strC) true 1) (by rfl) fun h4 n4 => ?_
  refine Wo_new (v := .slice (some ⟨h4.next, 0, none⟩) 3 3) (B := .cells ((lvlL.getD 4 []).flatMap strC) true 1) (by rfl) fun h5 n5 => ?_
  have e1 : h1.next = h.next + 1 := n1.next
  have e2 : h2.next = h.next + 2 := by rw [n2.next, e1]
  have e3 : h3.next = h.next + 3 := by rw [n3.next, e2]
  have e4 : h4.next = h.next + 4 := by rw [n4.next, e3]
  have e5 : h5.next = h.next + 5 := by rw [n5.next, e4]
  refine Wo_new (v := .slice (some ⟨h5.next, 0, none⟩) 5 5) (B := .cells (lvlC h.next) true 1) ?_ fun h6 n6 => ?_
  · have g1 := e1; have g2 := e2; have g3 := e3; have g4 := e4
    simp only [iop, evps, List.map_cons, List.map_nil, ev, upd, dstUpd, reduceIte, Nat.reduceEqDiff, g1, g2, g3, g4]
    rfl
  refine (Wo_run (fun call => by simp only [go_sem, seval]; rfl) ?_)
  have e6 : h6.next = h.next + 6 := by rw [n6.next, e5]
  refine Wc_ret ⟨.inr rfl, rfl, [.slice (some ⟨h5.next, 0, none⟩) 5 5], by simp only [resAll, resV, upd, dstUpd, reduceIte, Nat.reduceEqDiff], ((((n1.kept.trans n2.kept).trans n3.kept).trans n4.kept).trans n5.kept).trans n6.kept, by rw [e5]; rfl, ?_⟩
  refine ⟨by show h.next + 5 < h6.next; omega, ?_, ?_⟩
  · rw [← e5]; exact n6.get
  · intro k hk
    show h6.get _ = _
    rw [n6.kept.get _ (by omega)]
    match k, hk with
    | 0, _ => rw [n5.kept.get _ (by omega), n4.kept.get _ (by omega), n3.kept.get _ (by omega), n2.kept.get _ (by omega)]; exact n1.get
    | 1, _ => rw [n5.kept.get _ (by omega), n4.kept.get _ (by omega), n3.kept.get _ (by omega), ← e1]; exact n2.get
    | 2, _ => rw [n5.kept.get _ (by omega), n4.kept.get _ (by omega), ← e2]; exact n3.get
    | 3, _ => rw [n5.kept.get _ (by omega), ← e3]; exact n4.get
    | 4, _ => rw [← e4]; exact n5.get
end Go.Idl
end

section
namespace Go.Idl
variable {T : Tbl} {X : Nat → Prop}
def ChainOk (T : Tbl) (pb : Nat) (ts : List Tok) (c : Nat → PSt → Option (PR Nat)) : Prop :=
  ∀ (X : Nat → Prop) (st : PSt) (h : Heap) (level : Nat) (r : PR Nat), Par pb ts X h st → (∀ b, X b → b < h.next) → level ≤ 5 → c level st = some r → Wk T (.fn 76) [ptr pb 0, .int .i64 level] h (fun o h' => PPost pb ts X h (fun n : Nat => .ret (.int .i64 n)) r o h')
theorem chain_step (F : Par1 T) (hL : T.fn 84 = some C84) (hT : T.fn 76 = some C76) {num : Int → ByteArray} {pb : Nat} {ts : List Tok} {f : Nat} (hsign : OneOk T pb ts 85 (signS num ts f)) (hchain : ∀ g, g ≤ f → ChainOk T pb ts (chainS num ts g)) : ChainOk T pb ts (chainS num ts (f + 1)) := by
  intro X st h level r p hX hlv hs
  rw [chainS] at hs
  have hfew := p.few
  refine Wk_fn2 hT (by simp [C76]) ?_
  simp only [C76]
  refine Wc_seq (Wc_ops (Wo_run (fun call => by simp only [go_sem, seval]; rfl) ?_))
  show Wc T _ _ _
  refine Wc_seq (Wc_ops (Wo_call ((levels_ok hL).mono ?_)))
  rintro o h1 ⟨k1, rfl, lv1⟩
  show Wo T _ _ _
  refine (Wo_run (fun call => by simp only [go_sem, seval]; rfl) ?_)
  show Wc T _ _ _
  have p1 := p.keep k1
  have hX1 : ∀ b, X b → b < h1.next := fun b hb => Nat.lt_of_lt_of_le (hX b hb) k1.next
  by_cases h5 : level = 5
  · rw [if_pos h5] at hs
    have hb : (((level : Nat) : Int) == ((5 : Nat) : Int)) = true := by rw [h5]; rfl
    refine Wc_seq (Wc_seq (Wc_ops (Wo_run (fun call => by simp only [go_sem, seval, hb]; rfl) ?_)))
    show Wc T _ _ _
    refine Wc_cond true (congrArg Value.bool hb) (fun _ => ?_) (fun e => by cases e)
    refine Wc_seq (Wc_ops (Wo_pre 1 (fun call => by simp only [go_sem, seval]; rfl) ?_))
    refine Wo_call ((hsign X st h1 r p1 hX1 hs).mono ?_)
    cases r with
    | err a er => rintro o h2 ⟨f2, rfl⟩; exact ⟨rfl, (k1.pfr pb).trans f2, rfl⟩
    | ok n st' =>
      rintro o h2 ⟨f2, rfl, p2⟩
      show Wo T _ _ _
      refine (Wo_run (fun call => by simp only [go_sem, seval]; rfl) ?_)
      exact Wc_ret ⟨rfl, [.int .i64 n], by simp only [resAll, resV, upd, dstUpd, reduceIte, Nat.reduceEqDiff], (k1.pfr pb).trans f2, rfl, p2⟩
  rw [if_neg h5] at hs
  have hl5 : level < 5 := by omega
  have hb : (((level : Nat) : Int) == ((5 : Nat) : Int)) = false := beq_eq_false_iff_ne.2 (by omega)
  have hwl : IntKind.i64.wrap (((level : Nat) : Int) + 1) = ((level + 1 : Nat) : Int) := by rw [wrap64] <;> omega
  refine Wc_seq (Wc_seq (Wc_ops (Wo_run (fun call => by simp only [go_sem, seval, hb]; rfl) ?_)))
  show Wc T _ _ _
  refine Wc_cond false (congrArg Value.bool hb) (fun e => by cases e) (fun _ => Wc_skip ?_)
  show Wc T _ _ _
  refine Wc_seq (Wc_ops (Wo_pre 3 (fun call => by simp only [go_sem, seval, hwl]; rfl) ?_))
  rcases andS_some hs with ⟨a, er, h1', rfl⟩ | ⟨e, st2, h1', hs⟩
  · refine Wo_call ((hchain f (Nat.le_refl _) X st h1 (level + 1) _ p1 hX1 (by omega) h1').mono ?_)
    rintro o h2 ⟨f2, rfl⟩
    exact ⟨rfl, (k1.pfr pb).trans f2, rfl⟩
  refine Wo_call ((hchain f (Nat.le_refl _) X st h1 (level + 1) _ p1 hX1 (by omega) h1').mono ?_)
  rintro o h2 ⟨f2, rfl, p2⟩
  show Wo T _ _ _
  refine (Wo_run (fun call => by simp only [go_sem, seval]; rfl) ?_)
  show Wc T _ _ _
  have f02 := (k1.pfr pb).trans f2
  have lv2 := lv1.pfr p1 f2
  have loop : ∀ (g : Nat), g ≤ f → ∀ (ev' : Env) (h5 : Heap) (e : Nat) (st2 : PSt), chainL num ts g level e st2 = some r → ev' 0 = .pointer (some ⟨pb, 0, none⟩) → ev' 1 = .int .i64 ((level : Nat) : Int) → ev' 5 = .slice (some ⟨h.next + 5, 0, none⟩) 5 5 → ev' 6 = .int .i64 ((e : Nat) : Int) → PFr pb h h5 → LvlAt h.next h5 → Par pb ts X h5 st2 →
      Wc T (.loop C76L0) ⟨ev', h5, some []⟩ (Tb 0 fun x s' => match x with
        | .normal => s'.d = some [] ∧ ∃ n st', r = .ok n st' ∧ s'.e 6 = .int .i64 ((n : Nat) : Int) ∧ PFr pb h s'.h ∧ Par pb ts X s'.h st'
        | .pan v => s'.d = some [] ∧ PPost pb ts X h (fun n : Nat => .ret (.int .i64 n)) r (.pan v) s'.h
        | _ => False) := by
    intro g
    induction g with
    | zero => intro _ ev' h5 e st2 hm; rw [chainL] at hm; cases hm
    | succ g ih =>
      intro hgf ev' h5 e st2 hm e0 e1 e5 e6 f5 lv5 p5
      rw [chainL] at hm
      cases ht : ts[st2.i]? with
      | none => rw [ht] at hm; cases hm
      | some t =>
        rw [ht] at hm
        simp only at hm
        have hi := (List.getElem?_eq_some_iff.1 ht).1
        obtain ⟨sv, hsv, hstr⟩ := lv5.at hl5
        have hall := lv5.all
        have hX5 : ∀ b, X b → b < h5.next := fun b hb => Nat.lt_of_lt_of_le (hX b hb) f5.next
        have hlen : (lvlL.getD level []).length < 1000 := by
          match level, hl5 with
          | 0, _ | 1, _ | 2, _ | 3, _ | 4, _ => decide
        refine Wc_unroll (Wc_seq (Wc_seq (Wc_ops (Wo_pre 5 (fun call => by simp only [go_sem, seval, e0, e1, e5, idx_ok hl5, hall, hsv]; rfl) ?_))))
        refine Wo_call (Wk_kept (is_ok F p5 ht hstr hlen) fun h6 k6 => ?_)
        refine Wo_nil ?_
        show Wc T _ _ _
        have p6 := p5.keep k6
        have f06 := f5.trans (k6.pfr pb)
        cases hb : isB t (lvlL.getD level [])
        · rw [hb] at hm
          simp only [Bool.false_eq_true, if_false, Option.some.injEq] at hm
          refine Wc_cond false (by simp only [go_sem, seval, hb] <;> first | rfl | assumption | (symm; assumption)) (fun e => by cases e) (fun _ => Wc_exit ?_)
          exact ⟨rfl, e, st2, hm.symm, (by simp only [go_sem, seval, e6] <;> first | rfl | assumption | (symm; assumption)), f06, p6⟩
        rw [hb, if_pos rfl] at hm
        refine Wc_cond true (by simp only [go_sem, seval, hb] <;> first | rfl | assumption | (symm; assumption)) (fun _ => Wc_skip ?_) (fun e => by cases e)
        show Wc T _ _ _
        have lv6 := lv5.pfr p5 (k6.pfr pb)
        refine Wc_block (Wc_seq (Wc_ops (Wo_pre 1 (fun call => by simp only [go_sem, seval, e0]; rfl) ?_)))
        refine Wo_call (Wk_kept (now_ok F p6 ht) fun h7 k7 => ?_)
        refine Wo_op (v := ptr h7.next 0) (h' := h7.new (.cells z5 true 0)) rfl ?_
        refine Wo_store_new (cs := t.cells) (h := h7) (by first | rfl | assumption) (by first | rfl | assumption) rfl rfl fun h8 n8 => Wo_nil ?_
        show Wc T _ _ _
        have k8 := k7.trans n8.kept
        have p8 := p6.keep k8
        have lv8 := lv6.pfr p6 (k8.pfr pb)
        have f08 := f06.trans (k8.pfr pb)
        have hg8 := n8.get
        have hlt8 : h7.next < h8.next := by rw [n8.next]; exact Nat.lt_succ_self _
        have hpb7 : pb < h7.next := by have := p6.lt; have := k7.next; omega
        obtain ⟨tv, lv, nds, hg, _⟩ := p8.rep
        have hw : IntKind.i64.wrap (((st2.i : Nat) : Int) + 1) = ((st2.i + 1 : Nat) : Int) := by rw [wrap64] <;> omega
        obtain ⟨pgo, fgo⟩ := p8.go (i := st2.i + 1) hg
        refine Wc_seq (Wc_ops (Wo_pre 7 (fun call => by simp only [go_sem, seval, e0, hg, hw]; rfl) ?_))
        refine Wo_op (iop_store_at (k := 1) (v := .int .i64 ((st2.i + 1 : Nat) : Int)) (by first | rfl | assumption) (by simp only [ev, upd, dstUpd, reduceIte, Nat.reduceEqDiff]; rfl) hg (by simp)) (Wo_nil ?_)
        show Wc T _ _ _
        have hset : ([tv, Value.int .i64 st2.i, lv].set 1 (.int .i64 ((st2.i + 1 : Nat) : Int))) = [tv, .int .i64 ((st2.i + 1 : Nat) : Int), lv] := rfl
        rw [hset]
        have hg9 : (h8.set pb (.cells [tv, .int .i64 ((st2.i + 1 : Nat) : Int), lv] true 0)).get h7.next = some (.cells t.cells true 0) := by rw [set_get_ne' _ _ (by omega)]; exact hg8
        have lv9 := lv8.pfr p8 fgo
        generalize h8.set pb (.cells [tv, .int .i64 ((st2.i + 1 : Nat) : Int), lv] true 0) = h9 at pgo fgo hg9 lv9 ⊢
        have f09 := f08.trans fgo
        have hX9 : ∀ b, X b → b < h9.next := fun b hb => Nat.lt_of_lt_of_le (hX b hb) f09.next
        refine Wc_seq (Wc_ops (Wo_pre 3 (fun call => by simp only [go_sem, seval, e0, e1, hwl]; rfl) ?_))
        rcases andS_some hm with ⟨a, er, h1', hr⟩ | ⟨q, st3, h1', hm⟩
        · refine Wo_call ((hchain g (by omega) X _ h9 (level + 1) _ pgo hX9 (by omega) h1').mono ?_)
          rintro o h10 ⟨f10, rfl⟩
          subst hr
          exact ⟨rfl, f09.trans f10, rfl⟩
        refine Wo_call ((hchain g (by omega) X _ h9 (level + 1) _ pgo hX9 (by omega) h1').mono ?_)
        rintro o h10 ⟨f10, rfl, p10⟩
        show Wo T _ _ _
        refine (Wo_run (fun call => by simp only [go_sem, seval]; rfl) ?_)
        show Wc T _ _ _
        have f010 := f09.trans f10
        have lv10 := lv9.pfr pgo f10
        have hX10 : ∀ b, X b → b < h10.next := fun b hb => Nat.lt_of_lt_of_le (hX b hb) f010.next
        have hg10 : h10.get h7.next = some (.cells t.cells true 0) := by
          rw [f10.get _ (by have := fgo.next; omega) (by omega) (fun cs e => by rw [hg9] at e; simp at e)]; exact hg9
        rcases andS_some hm with ⟨a, er, h2', _⟩ | ⟨n, st4, h2', hm⟩
        · obtain ⟨_, _, _, h3'⟩ := mkS_some h2'
          cases h3'
        refine Wc_ops (Wo_pre 7 (fun call => by simp only [go_sem, seval, e0, e6, hg10, Tok.cells]; rfl) ?_)
        refine Wo_new (v := .slice (some ⟨h10.next, 0, none⟩) 2 2) (B := .cells (ints64 [(e : Int), (q : Int)]) true 1) (by rfl) fun h11 n11 => ?_
        refine Wo_node F (p10.keep n11.kept) (.refl pb h11) (lit_kids (kids := [(e : Int), (q : Int)]) (c := 2) hX10 n11) h2' rfl fun n' st' h12 hr f12 p12 => ?_
        cases hr
        refine (Wo_run (fun call => by simp only [go_sem, seval]; rfl) ?_)
        have lv12 : LvlAt h.next h12 := (lv10.pfr p10 (n11.kept.pfr pb)).pfr (p10.keep n11.kept) f12
        exact ih (by omega) _ h12 n st4 hm (by simp only [go_sem, seval, e0] <;> first | rfl | assumption | (symm; assumption)) (by simp only [go_sem, seval, e1] <;> first | rfl | assumption | (symm; assumption)) (by simp only [go_sem, seval, e5] <;> first | rfl | assumption | (symm; assumption)) (by first | rfl | assumption) ((f010.trans (n11.kept.pfr pb)).trans f12) lv12 p12
  refine Wc_seq (Wc_block ((loop f (Nat.le_refl _) _ h2 e st2 hs (by first | rfl | assumption) (by first | rfl | assumption) (by first | rfl | assumption) (by first | rfl | assumption) f02 lv2 p2).mono ?_))
  have rest : ∀ s' : St, (s'.d = some [] ∧ ∃ n st', r = .ok n st' ∧ s'.e 6 = .int .i64 ((n : Nat) : Int) ∧ PFr pb h s'.h ∧ Par pb ts X s'.h st') → Wc T (.seq (.ops [⟨(some 48), .op (.mov (.t 6)), none⟩, ⟨(some 4), .op (.mov (.t 48)), none⟩]) .ret) s' (fun x s => x = .ret ∧ s.d = some [] ∧ ∃ vs, resAll s.e s.h [.tmp 4] = some vs ∧ PPost pb ts X h (fun n : Nat => .ret (.int .i64 n)) r (.ret (tup vs)) s.h) := by
    rintro ⟨e', h', d'⟩ ⟨hd, n, st', hr, e6, f6, p6⟩
    simp only at hd e6 f6 p6
    rw [hd]
    refine Wc_seq (Wc_ops (Wo_run (fun call => by simp only [go_sem, seval, e6]; rfl) ?_))
    subst hr
    exact Wc_ret ⟨rfl, rfl, [.int .i64 n], by simp only [resAll, resV, upd, dstUpd, reduceIte, Nat.reduceEqDiff], f6, rfl, p6⟩
  intro x s' hx
  cases x with
  | normal => exact (rest s' hx).mono fun y s hy => by obtain ⟨hy1, hy⟩ := hy; subst hy1; exact hy
  | brk i =>
    simp only [Tb] at hx ⊢
    split at hx
    · rename_i hi
      rw [if_pos hi]
      exact (rest s' hx).mono fun y s hy => by obtain ⟨hy1, hy⟩ := hy; subst hy1; exact hy
    · exact hx.elim
  | ret => exact hx.elim
  | pan v => exact hx
end Go.Idl
end

section
namespace Go.Idl
variable {T : Tbl} {X : Nat → Prop}
theorem expr_step (F : Par1 T) (hT : T.fn 66 = some C66) {num : Int → ByteArray} {pb : Nat} {ts : List Tok} {f : Nat} (hchain : ChainOk T pb ts (chainS num ts f)) : OneOk T pb ts 66 (exprS num ts (f + 1)) := by
  intro X st h r p hX hs
  rw [exprS] at hs
  have hfew := p.few
  refine Wk_fn2 hT (by simp [C66]) ?_
  simp only [C66]
  refine Wc_seq (Wc_ops (Wo_run (fun call => by simp only [go_sem, seval]; rfl) ?_))
  show Wc T _ _ _
  refine Wc_seq (Wc_ops (Wo_pre 1 (fun call => by simp only [go_sem, seval]; rfl) ?_))
  rcases andS_some hs with ⟨a, er, h1', rfl⟩ | ⟨e, st2, h1', hs⟩
  · refine Wo_call ((hchain X st h 0 _ p hX (by omega) h1').mono ?_)
    rintro o h2 ⟨f2, rfl⟩
    exact ⟨rfl, f2, rfl⟩
  refine Wo_call ((hchain X st h 0 _ p hX (by omega) h1').mono ?_)
  rintro o h2 ⟨f2, rfl, p2⟩
  show Wo T _ _ _
  refine (Wo_run (fun call => by simp only [go_sem, seval]; rfl) ?_)
  show Wc T _ _ _
  cases ht : ts[st2.i]? with
  | none => rw [ht] at hs; cases hs
  | some t =>
    rw [ht] at hs
    simp only at hs
    have hi := (List.getElem?_eq_some_iff.1 ht).1
    refine Wc_seq (Wc_seq (Wc_ops (Wo_pre 1 (fun call => by simp only [go_sem, seval]; rfl) ?_)))
    refine Wo_new (v := .slice (some ⟨h2.next, 0, none⟩) 4 4) (B := .cells (cmpL.flatMap strC) true 1) (by rfl) fun h4 n4 => ?_
    refine Wo_call (Wk_kept (is_ok F (p2.keep n4.kept) ht (pstrs cmpL n4) (by decide)) fun h5 k5 => ?_)
    have k25 := n4.kept.trans k5
    have p5 := p2.keep k25
    have f05 := f2.trans (k25.pfr pb)
    cases hb : isB t cmpL
    · rw [hb] at hs
      simp only [Bool.false_eq_true, if_false, Option.some.injEq] at hs
      refine (Wo_run (fun call => by simp only [go_sem, seval, hb]; rfl) ?_)
      show Wc T _ _ _
      refine Wc_cond true (by first | rfl | assumption) (fun _ => ?_) (fun e => by cases e)
      refine Wc_seq (Wc_ops (Wo_run (fun call => by simp only [go_sem, seval]; rfl) ?_))
      subst hs
      exact Wc_ret ⟨rfl, [.int .i64 e], by simp only [resAll, resV, upd, dstUpd, reduceIte, Nat.reduceEqDiff], f05, rfl, p5⟩
    rw [hb, if_pos rfl] at hs
    refine (Wo_run (fun call => by simp only [go_sem, seval, hb]; rfl) ?_)
    show Wc T _ _ _
    refine Wc_cond false (by first | rfl | assumption) (fun e => by cases e) (fun _ => Wc_skip ?_)
    show Wc T _ _ _
    refine Wc_seq (Wc_ops (Wo_pre 1 (fun call => by simp only [go_sem, seval]; rfl) ?_))
    refine Wo_call (Wk_kept (now_ok F p5 ht) fun h7 k7 => ?_)
    refine Wo_op (v := ptr h7.next 0) (h' := h7.new (.cells z5 true 0)) rfl ?_
    refine Wo_store_new (cs := t.cells) (h := h7) (by first | rfl | assumption) (by first | rfl | assumption) rfl rfl fun h8 n8 => Wo_nil ?_
    show Wc T _ _ _
    have k8 := k7.trans n8.kept
    have p8 := p5.keep k8
    have f08 := f05.trans (k8.pfr pb)
    have hg8 := n8.get
    have hlt8 : h7.next < h8.next := by rw [n8.next]; exact Nat.lt_succ_self _
    have hpb7 : pb < h7.next := by have := p5.lt; have := k7.next; omega
    obtain ⟨tv, lv, nds, hg, _⟩ := p8.rep
    have hw : IntKind.i64.wrap (((st2.i : Nat) : Int) + 1) = ((st2.i + 1 : Nat) : Int) := by rw [wrap64] <;> omega
    obtain ⟨pgo, fgo⟩ := p8.go (i := st2.i + 1) hg
    refine Wc_seq (Wc_ops (Wo_pre 7 (fun call => by simp only [go_sem, seval, hg, hw]; rfl) ?_))
    refine Wo_op (iop_store_at (k := 1) (v := .int .i64 ((st2.i + 1 : Nat) : Int)) (by first | rfl | assumption) (by simp only [ev, upd, dstUpd, reduceIte, Nat.reduceEqDiff]; rfl) hg (by simp)) (Wo_nil ?_)
    show Wc T _ _ _
    have hset : ([tv, Value.int .i64 st2.i, lv].set 1 (.int .i64 ((st2.i + 1 : Nat) : Int))) = [tv, .int .i64 ((st2.i + 1 : Nat) : Int), lv] := rfl
    rw [hset]
    have hg9 : (h8.set pb (.cells [tv, .int .i64 ((st2.i + 1 : Nat) : Int), lv] true 0)).get h7.next = some (.cells t.cells true 0) := by rw [set_get_ne' _ _ (by omega)]; exact hg8
    generalize h8.set pb (.cells [tv, .int .i64 ((st2.i + 1 : Nat) : Int), lv] true 0) = h9 at pgo fgo hg9 ⊢
    have f09 := f08.trans fgo
    have hX9 : ∀ b, X b → b < h9.next := fun b hb => Nat.lt_of_lt_of_le (hX b hb) f09.next
    refine Wc_seq (Wc_ops (Wo_pre 1 (fun call => by simp only [go_sem, seval]; rfl) ?_))
    rcases andS_some hs with ⟨a, er, h1', rfl⟩ | ⟨q, st3, h1', hs⟩
    · refine Wo_call ((hchain X _ h9 0 _ pgo hX9 (by omega) h1').mono ?_)
      rintro o h10 ⟨f10, rfl⟩
      exact ⟨rfl, f09.trans f10, rfl⟩
    refine Wo_call ((hchain X _ h9 0 _ pgo hX9 (by omega) h1').mono ?_)
    rintro o h10 ⟨f10, rfl, p10⟩
    show Wo T _ _ _
    refine (Wo_run (fun call => by simp only [go_sem, seval]; rfl) ?_)
    show Wc T _ _ _
    have f010 := f09.trans f10
    have hX10 : ∀ b, X b → b < h10.next := fun b hb => Nat.lt_of_lt_of_le (hX b hb) f010.next
    have hg10 : h10.get h7.next = some (.cells t.cells true 0) := by
      rw [f10.get _ (by have := fgo.next; omega) (by omega) (fun cs e => by rw [hg9] at e; simp at e)]; exact hg9
    refine Wc_seq (Wc_ops (Wo_pre 7 (fun call => by simp only [go_sem, seval, hg10, Tok.cells]; rfl) ?_))
    refine Wo_new (v := .slice (some ⟨h10.next, 0, none⟩) 2 2) (B := .cells (ints64 [(e : Int), (q : Int)]) true 1) (by rfl) fun h11 n11 => ?_
    refine Wo_node F (p10.keep n11.kept) (f010.trans (n11.kept.pfr pb)) (lit_kids (kids := [(e : Int), (q : Int)]) (c := 2) hX10 n11) hs rfl fun n st' h12 hr f12 p12 => ?_
    refine (Wo_run (fun call => by simp only [go_sem, seval]; rfl) ?_)
    subst hr
    exact Wc_ret ⟨rfl, [.int .i64 n], by simp only [resAll, resV, upd, dstUpd, reduceIte, Nat.reduceEqDiff], f12, rfl, p12⟩
end Go.Idl
end

section
namespace Go.Idl
variable {T : Tbl} {X : Nat → Prop}
theorem back_step (F : Par1 T) (hT : T.fn 65 = some C65) {num : Int → ByteArray} {pb : Nat} {ts : List Tok} {f : Nat} (hfirst : OneOk T pb ts 75 (firstS num ts f)) (hexpr : ∀ g, g ≤ f → OneOk T pb ts 66 (exprS num ts g)) : OneOk T pb ts 65 (backS num ts (f + 1)) := by
  intro X st h r p hX hs
  rw [backS] at hs
  have hfew := p.few
  refine Wk_fn2 hT (by simp [C65]) ?_
  simp only [C65]
  refine Wc_seq (Wc_ops (Wo_run (fun call => by simp only [go_sem, seval]; rfl) ?_))
  show Wc T _ _ _
  refine Wc_seq (Wc_ops (Wo_pre 1 (fun call => by simp only [go_sem, seval]; rfl) ?_))
  rcases andS_some hs with ⟨a, er, h1', rfl⟩ | ⟨e, st2, h1', hs⟩
  · refine Wo_call ((hfirst X st h _ p hX h1').mono ?_)
    rintro o h2 ⟨f2, rfl⟩
    exact ⟨rfl, f2, rfl⟩
  refine Wo_call ((hfirst X st h _ p hX h1').mono ?_)
  rintro o h2 ⟨f2, rfl, p2⟩
  show Wo T _ _ _
  refine (Wo_run (fun call => by simp only [go_sem, seval]; rfl) ?_)
  show Wc T _ _ _
  have loop : ∀ (g : Nat), g ≤ f → ∀ (ev' : Env) (h5 : Heap) (e : Nat) (st2 : PSt), backL num ts g e st2 = some r → ev' 0 = .pointer (some ⟨pb, 0, none⟩) → ev' 3 = .int .i64 ((e : Nat) : Int) → PFr pb h h5 → Par pb ts X h5 st2 →
      Wc T (.loop C65L0) ⟨ev', h5, some []⟩ (fun x s' => match x with
        | .ret => s'.d = some [] ∧ ∃ vs, resAll s'.e s'.h [.tmp 2] = some vs ∧ PPost pb ts X h (fun n : Nat => .ret (.int .i64 n)) r (.ret (tup vs)) s'.h
        | .pan v => s'.d = some [] ∧ PPost pb ts X h (fun n : Nat => .ret (.int .i64 n)) r (.pan v) s'.h
        | _ => False) := by
    intro g
    induction g with
    | zero => intro _ ev' h5 e st2 hm; rw [backL] at hm; cases hm
    | succ g ih =>
      intro hgf ev' h5 e st2 hm e0 e3 f5 p5
      rw [backL] at hm
      cases ht : ts[st2.i]? with
      | none => rw [ht] at hm; cases hm
      | some t =>
        rw [ht] at hm
        simp only at hm
        refine Wc_unroll (Wc_block (Wc_seq (Wc_ops (Wo_pre 1 (fun call => by simp only [go_sem, seval, e0]; rfl) ?_))))
        refine Wo_call (Wk_kept (now_ok F p5 ht) fun h6 k6 => ?_)
        refine Wo_op (v := .int .i64 t.frm) (h' := h6) rfl ?_
        refine (Wo_run (fun call => by simp only [go_sem, seval]; rfl) ?_)
        show Wc T _ _ _
        have p6 := p5.keep k6
        have f06 := f5.trans (k6.pfr pb)
        refine Wc_block (Wc_seq (Wc_ops (Wo_pre 1 (fun call => by simp only [go_sem, seval, e0]; rfl) ?_)))
        cases hk : takeS ts ⟨#[46]⟩ st2 with
        | none => rw [hk] at hm; cases hm
        | some q =>
          obtain ⟨b, st3⟩ := q
          rw [hk] at hm
          refine Wo_call ((take_ok F p6 hk).mono ?_)
          rintro o h7 ⟨f7, p7, rfl⟩
          show Wo T _ _ _
          have f07 := f06.trans f7
          have hX7 : ∀ b, X b → b < h7.next := fun b hb => Nat.lt_of_lt_of_le (hX b hb) f07.next
          refine (Wo_run (fun call => by simp only [go_sem, seval]; rfl) ?_)
          show Wc T _ _ _
          cases b with
          | true =>
            simp only at hm
            refine Wc_cond true (by first | rfl | assumption) (fun _ => ?_) (fun e => by cases e)
            refine Wc_seq (Wc_ops (Wo_pre 1 (fun call => by simp only [go_sem, seval, e0]; rfl) ?_))
            rcases andS_some hm with ⟨a, er, h1', hr⟩ | ⟨tn, st4, h1', hm⟩
            · refine Wo_call ((name_ok F p7 h1').mono ?_)
              rintro o h8 ⟨f8, rfl⟩
              subst hr
              exact ⟨rfl, f07.trans f8, rfl⟩
            refine Wo_call ((name_ok F p7 h1').mono ?_)
            rintro o h8 ⟨f8, rfl, p8⟩
            show Wo T _ _ _
            refine Wo_op (v := ptr h8.next 0) (h' := h8.new (.cells z5 true 0)) rfl ?_
            refine Wo_store_new (cs := tn.cells) (h := h8) (by first | rfl | assumption) (by first | rfl | assumption) rfl rfl fun h9 n9 => Wo_nil ?_
            show Wc T _ _ _
            have p9 := p8.keep n9.kept
            have f09 := (f07.trans f8).trans (n9.kept.pfr pb)
            have hg9 := n9.get
            have hX9 : ∀ b, X b → b < h9.next := fun b hb => Nat.lt_of_lt_of_le (hX b hb) f09.next
            rcases andS_some hm with ⟨a, er, h2', _⟩ | ⟨n, st5, h2', hm⟩
            · obtain ⟨_, _, _, h3'⟩ := mkS_some h2'
              cases h3'
            refine Wc_ops (Wo_pre 5 (fun call => by simp only [go_sem, seval, e0, e3, hg9, Tok.cells]; rfl) ?_)
            refine Wo_new (v := .slice (some ⟨h9.next, 0, none⟩) 1 1) (B := .cells (ints64 [(e : Int)]) true 1) (by rfl) fun h11 n11 => ?_
            refine Wo_node F (p9.keep n11.kept) (f09.trans (n11.kept.pfr pb)) (lit_kids (kids := [(e : Int)]) (c := 1) hX9 n11) h2' rfl fun n' st' h12 hr f12 p12 => ?_
            cases hr
            refine (Wo_run (fun call => by simp only [go_sem, seval]; rfl) ?_)
            exact ih (by omega) _ h12 n st5 hm (by simp only [go_sem, seval, e0] <;> first | rfl | assumption | (symm; assumption)) (by first | rfl | assumption) f12 p12
          | false =>
            simp only at hm
            refine Wc_cond false (by first | rfl | assumption) (fun e => by cases e) (fun _ => ?_)
            refine Wc_seq (Wc_ops (Wo_pre 1 (fun call => by simp only [go_sem, seval, e0]; rfl) ?_))
            cases hk2 : takeS ts ⟨#[91]⟩ st3 with
            | none => rw [hk2] at hm; cases hm
            | some q2 =>
              obtain ⟨b2, st4⟩ := q2
              rw [hk2] at hm
              refine Wo_call ((take_ok F p7 hk2).mono ?_)
              rintro o h8 ⟨f8, p8, rfl⟩
              show Wo T _ _ _
              have f08 := f07.trans f8
              have hX8 : ∀ b, X b → b < h8.next := fun b hb => Nat.lt_of_lt_of_le (hX b hb) f08.next
              refine (Wo_run (fun call => by simp only [go_sem, seval]; rfl) ?_)
              show Wc T _ _ _
              cases b2 with
              | false =>
                simp only [Option.some.injEq] at hm
                refine Wc_cond false (by first | rfl | assumption) (fun e => by cases e) (fun _ => ?_)
                refine Wc_seq (Wc_ops (Wo_run (fun call => by simp only [go_sem, seval, e3]; rfl) ?_))
                subst hm
                exact Wc_ret ⟨rfl, [.int .i64 e], by simp only [resAll, resV, upd, dstUpd, reduceIte, Nat.reduceEqDiff], f08, rfl, p8⟩
              | true =>
                simp only at hm
                refine Wc_cond true (by first | rfl | assumption) (fun _ => ?_) (fun e => by cases e)
                refine Wc_seq (Wc_ops (Wo_pre 1 (fun call => by simp only [go_sem, seval, e0]; rfl) ?_))
                rcases andS_some hm with ⟨a, er, h1', hr⟩ | ⟨q, st5, h1', hm⟩
                · refine Wo_call ((hexpr g (by omega) X _ h8 _ p8 hX8 h1').mono ?_)
                  rintro o h9 ⟨f9, rfl⟩
                  subst hr
                  exact ⟨rfl, f08.trans f9, rfl⟩
                refine Wo_call ((hexpr g (by omega) X _ h8 _ p8 hX8 h1').mono ?_)
                rintro o h9 ⟨f9, rfl, p9⟩
                show Wo T _ _ _
                refine (Wo_run (fun call => by simp only [go_sem, seval]; rfl) ?_)
                show Wc T _ _ _
                have f09 := f08.trans f9
                refine Wc_seq (Wc_ops (Wo_pre 1 (fun call => by simp only [go_sem, seval, e0]; rfl) ?_))
                rcases andS_some hm with ⟨a, er, h1', hr⟩ | ⟨u, st6, h1', hm⟩
                · refine Wo_call ((want_ok F p9 h1').mono ?_)
                  rintro o h10 ⟨f10, rfl⟩
                  subst hr
                  exact ⟨rfl, f09.trans f10, rfl⟩
                refine Wo_call ((want_ok F p9 h1').mono ?_)
                rintro o h10 ⟨f10, rfl, p10⟩
                show Wo T _ _ _
                refine Wo_nil ?_
                show Wc T _ _ _
                have f010 := f09.trans f10
                have hX10 : ∀ b, X b → b < h10.next := fun b hb => Nat.lt_of_lt_of_le (hX b hb) f010.next
                rcases andS_some hm with ⟨a, er, h2', _⟩ | ⟨n, st7, h2', hm⟩
                · obtain ⟨_, _, _, h3'⟩ := mkS_some h2'
                  cases h3'
                refine Wc_ops (Wo_pre 4 (fun call => by simp only [go_sem, seval, e0, e3]; rfl) ?_)
                refine Wo_new (v := .slice (some ⟨h10.next, 0, none⟩) 2 2) (B := .cells (ints64 [(e : Int), (q : Int)]) true 1) (by rfl) fun h11 n11 => ?_
                refine Wo_node F (p10.keep n11.kept) (f010.trans (n11.kept.pfr pb)) (lit_kids (kids := [(e : Int), (q : Int)]) (c := 2) hX10 n11) h2' rfl fun n' st' h12 hr f12 p12 => ?_
                cases hr
                refine (Wo_run (fun call => by simp only [go_sem, seval]; rfl) ?_)
                exact ih (by omega) _ h12 n st7 hm (by simp only [go_sem, seval, e0] <;> first | rfl | assumption | (symm; assumption)) (by first | rfl | assumption) f12 p12
  refine Wc_block ((loop f (Nat.le_refl _) _ h2 e st2 hs (by first | rfl | assumption) (by first | rfl | assumption) f2 p2).mono ?_)
  intro x s' hx
  cases x with
  | normal => exact hx.elim
  | brk i => exact hx.elim
  | ret => exact hx
  | pan v => exact hx
end Go.Idl
end

section
namespace Go.Idl
variable {T : Tbl} {X : Nat → Prop}
theorem ownI.kids {n0 : Nat} {h : Heap} {v : Value} {l : List Int} {h0 : Heap} (o : ownI n0 h v l) (hX : ∀ b, X b → b < n0) : kidsAt X h v l := by
  rcases o with ⟨rfl, rfl⟩ | ⟨b, e1, e2, e3, e4⟩
  · exact .inl ⟨rfl, rfl⟩
  · exact .inr ⟨b, _, e3, e2, e4, fun hx => by have := hX b hx; omega⟩
theorem first_step (F : Par1 T) (W : WordFns T) (hLi : T.fn 35 = some C35) (hT : T.fn 75 = some C75) {num : Int → ByteArray} {pb : Nat} {ts : List Tok} (hnum : ∀ t ∈ ts, ∀ (h : Heap) (K : Out → Heap → Prop), K (.ret (.string (num t.num))) h → Wk T (.fn 82) [.int .i64 t.num, .int .i64 10] h K)
    {f : Nat} (hexpr : OneOk T pb ts 66 (exprS num ts f)) : OneOk T pb ts 75 (firstS num ts (f + 1)) := by
  intro X st h r p hX hs
  rw [firstS] at hs
  have hfew := p.few
  cases ht : ts[st.i]? with
  | none => rw [ht] at hs; cases hs
  | some t =>
    rw [ht] at hs
    simp only at hs
    have htm := List.mem_of_getElem? ht
    have hi := (List.getElem?_eq_some_iff.1 ht).1
    refine Wk_fn2 hT (by simp [C75]) ?_
    simp only [C75]
    refine Wc_seq (Wc_ops (Wo_run (fun call => by simp only [go_sem, seval]; rfl) ?_))
    show Wc T _ _ _
    refine Wc_seq (Wc_ops (Wo_pre 1 (fun call => by simp only [go_sem, seval]; rfl) ?_))
    refine Wo_call (Wk_kept (now_ok F p ht) fun h2 k2 => ?_)
    refine Wo_op (v := ptr h2.next 0) (h' := h2.new (.cells z5 true 0)) rfl ?_
    refine Wo_store_new (cs := t.cells) (h := h2) (by first | rfl | assumption) (by first | rfl | assumption) rfl rfl fun h3 n3 => Wo_nil ?_
    show Wc T _ _ _
    have k3 := k2.trans n3.kept
    have p3 := p.keep k3
    have hg3 := n3.get
    have hlt3 : h2.next < h3.next := by rw [n3.next]; exact Nat.lt_succ_self _
    have hpb2 : pb < h2.next := by have := p.lt; have := k2.next; omega
    have hX3 : ∀ b, X b → b < h3.next := fun b hb => Nat.lt_of_lt_of_le (hX b hb) k3.next
    have hw : IntKind.i64.wrap (((st.i : Nat) : Int) + 1) = ((st.i + 1 : Nat) : Int) := by rw [wrap64] <;> omega
    obtain ⟨tv, lv, nds, hg, _⟩ := p3.rep
    have hset : ([tv, Value.int .i64 st.i, lv].set 1 (.int .i64 ((st.i + 1 : Nat) : Int))) = [tv, .int .i64 ((st.i + 1 : Nat) : Int), lv] := rfl
    obtain ⟨pgo, fgo⟩ := p3.go (i := st.i + 1) hg
    have hg4 : (h3.set pb (.cells [tv, .int .i64 ((st.i + 1 : Nat) : Int), lv] true 0)).get h2.next = some (.cells t.cells true 0) := by rw [set_get_ne' _ _ (by omega)]; exact hg3
    have f04 := (k3.pfr pb).trans fgo
    refine Wc_mid (fun s' => s'.d = some [] ∧ Kept h3 s'.h ∧ s'.e 0 = .pointer (some ⟨pb, 0, none⟩) ∧ (andS (wantS ts ⟨#[40]⟩ st) fun _ st => andS (exprS num ts f st) fun e st => andS (wantS ts ⟨#[41]⟩ st) fun _ st => some (.ok e st)) = some r) ?_ ?_
    · refine Wc_seq (Wc_ops (Wo_run (fun call => by simp only [go_sem, seval, hg3, Tok.cells]; rfl) ?_))
      show Wc T _ _ _
      refine Wc_block ?_
      refine Wc_case (by first | rfl | assumption) (fun k4 => ?_) (fun k4 => ?_)
      · -- a number
        rw [if_pos k4] at hs
        refine Wc_seq (Wc_ops (Wo_pre 7 (fun call => by simp only [go_sem, seval, hg, hw]; rfl) ?_))
        refine Wo_op (iop_store_at (k := 1) (v := .int .i64 ((st.i + 1 : Nat) : Int)) (by first | rfl | assumption) (by simp only [ev, upd, dstUpd, reduceIte, Nat.reduceEqDiff]; rfl) hg (by simp)) (Wo_nil ?_)
        show Wc T _ _ _
        rw [hset]
        generalize h3.set pb (.cells [tv, .int .i64 ((st.i + 1 : Nat) : Int), lv] true 0) = h4 at pgo fgo hg4 f04 ⊢
        obtain ⟨n, st', hn, hr⟩ := mkS_some hs
        refine Wc_seq (Wc_draw ?_)
        refine Wd_P rfl (v := ptr pb 0) (h' := h4) (by rfl) ?_
        refine Wd_P rfl (v := ptr h2.next 4) (h' := h4) (by rfl) ?_
        refine Wd_R rfl (v := .int .i64 t.num) (h' := h4) (by simp only [iop, ev, upd, dstUpd, reduceIte, Nat.reduceEqDiff, ptr, Heap.cell, hg4]; rfl) (fun q hq => by cases hq) ?_
        refine Wd_call (hnum t htm _ _ ⟨fun q _ => .inr (sameAt_refl _ _), ?_⟩)
        refine Wd_P rfl (v := ptr h2.next 2) (h' := h4) (by rfl) ?_
        refine Wd_R rfl (v := .int .i64 t.frm) (h' := h4) (by simp only [iop, ev, upd, dstUpd, reduceIte, Nat.reduceEqDiff, ptr, Heap.cell, hg4]; rfl) (fun q hq => by
          rw [List.mem_singleton] at hq
          subst hq
          exact .inr (sameAt_refl _ _)) ?_
        refine Wd_call ((node_ok F (kv := .slice none 0 0) pgo nil_kids hn).mono ?_)
        rintro o h5 ⟨f5, p5, rfl⟩
        refine ⟨fun q hq => .inl ?_, ?_⟩
        · simp only [List.mem_cons, List.not_mem_nil, or_false] at hq
          rcases hq with rfl | rfl
          · show (5 : Nat) ∈ [3, 2, 1, 5, 4, 0]; decide
          · show (2 : Nat) ∈ [3, 2, 1, 5, 4, 0]; decide
        refine Wd_P rfl (v := .int .i64 n) (h' := h5) (by rfl) (Wd_nil ?_)
        show Wc T _ _ _
        subst hr
        exact Wc_ret ⟨rfl, [.int .i64 n], by simp only [resAll, resV, upd, dstUpd, reduceIte, Nat.reduceEqDiff], f04.trans f5, rfl, p5⟩
      rw [if_neg k4] at hs
      refine Wc_case (by first | rfl | assumption) (fun k1 => ?_) (fun k1 => ?_)
      · -- a name, or a call
        rw [if_pos k1] at hs
        refine Wc_seq (Wc_ops (Wo_pre 7 (fun call => by simp only [go_sem, seval, hg, hw]; rfl) ?_))
        refine Wo_op (iop_store_at (k := 1) (v := .int .i64 ((st.i + 1 : Nat) : Int)) (by first | rfl | assumption) (by simp only [ev, upd, dstUpd, reduceIte, Nat.reduceEqDiff]; rfl) hg (by simp)) (Wo_nil ?_)
        show Wc T _ _ _
        rw [hset]
        generalize h3.set pb (.cells [tv, .int .i64 ((st.i + 1 : Nat) : Int), lv] true 0) = h4 at pgo fgo hg4 f04 ⊢
        cases hk : takeS ts ⟨#[40]⟩ { st with i := st.i + 1 } with
        | none => rw [hk] at hs; cases hs
        | some q =>
          obtain ⟨b, st3⟩ := q
          rw [hk] at hs
          refine Wc_seq (Wc_seq (Wc_ops (Wo_pre 1 (fun call => by simp only [go_sem, seval]; rfl) ?_)))
          refine Wo_call ((take_ok F pgo hk).mono ?_)
          rintro o h5 ⟨f5, p5, rfl⟩
          show Wo T _ _ _
          have f05 := f04.trans f5
          have hX5 : ∀ b, X b → b < h5.next := fun b hb => Nat.lt_of_lt_of_le (hX b hb) f05.next
          have hg5 : h5.get h2.next = some (.cells t.cells true 0) := by
            rw [f5.get _ (by have := fgo.next; omega) (by omega) (fun cs e => by rw [hg4] at e; simp at e)]; exact hg4
          refine (Wo_run (fun call => by simp only [go_sem, seval]; rfl) ?_)
          show Wc T _ _ _
          cases b with
          | false =>
            simp only at hs
            refine Wc_cond true (by first | rfl | assumption) (fun _ => ?_) (fun e => by cases e)
            refine Wc_seq (Wc_ops (Wo_pre 5 (fun call => by simp only [go_sem, seval, hg5, Tok.cells]; rfl) ?_))
            refine Wo_node F p5 f05 nil_kids hs rfl fun n st' h6 hr f6 p6 => ?_
            refine (Wo_run (fun call => by simp only [go_sem, seval]; rfl) ?_)
            subst hr
            exact Wc_ret ⟨rfl, [.int .i64 n], by simp only [resAll, resV, upd, dstUpd, reduceIte, Nat.reduceEqDiff], f6, rfl, p6⟩
          | true =>
            simp only at hs
            refine Wc_cond false (by first | rfl | assumption) (fun e => by cases e) (fun _ => Wc_skip ?_)
            show Wc T _ _ _
            refine Wc_seq (Wc_ops (Wo_pre 1 (fun call => by simp only [go_sem, seval]; rfl) ?_))
            rcases andS_some hs with ⟨a, er, h1', hr⟩ | ⟨kids, st4, h1', hs⟩
            · refine Wo_call ((list_ok F hLi p5 hX5 hexpr h1').mono ?_)
              rintro o h6 ⟨f6, rfl⟩
              subst hr
              exact ⟨rfl, f05.trans f6, rfl⟩
            refine Wo_call ((list_ok F hLi p5 hX5 hexpr h1').mono ?_)
            rintro o h6 ⟨f6, kv, rfl, o6, p6⟩
            show Wo T _ _ _
            have f06 := f05.trans f6
            have hg6 : h6.get h2.next = some (.cells t.cells true 0) := by
              rw [f6.get _ (by have := fgo.next; have := f5.next; omega) (by omega) (fun cs e => by rw [hg5] at e; simp at e)]; exact hg5
            refine (Wo_run (fun call => by simp only [go_sem, seval]; rfl) ?_)
            show Wc T _ _ _
            refine Wc_seq (Wc_ops (Wo_pre 6 (fun call => by simp only [go_sem, seval, hg6, Tok.cells]; rfl) ?_))
            refine Wo_node F (p6.weaken fun b hb => .inl hb) f06 (o6.kids (h0 := h) hX5) hs rfl fun n st' h7 hr f7 p7 => ?_
            refine (Wo_run (fun call => by simp only [go_sem, seval]; rfl) ?_)
            subst hr
            exact Wc_ret ⟨rfl, [.int .i64 n], by simp only [resAll, resV, upd, dstUpd, reduceIte, Nat.reduceEqDiff], f7, rfl, p7⟩
      rw [if_neg k1] at hs
      refine Wc_case (by first | rfl | assumption) (fun k2' => ?_) (fun k2' => Wc_skip ?_)
      · -- a word
        rw [if_pos k2'] at hs
        refine Wc_seq (Wc_draw ?_)
        refine Wd_call ((words_ok W.words).mono ?_)
        rintro o h4 ⟨k4', m, hm, rfl, hmg⟩
        refine ⟨fun q hq => by (cases hq), ?_⟩
        have hg4' : h4.get h2.next = some (.cells t.cells true 0) := by rw [k4'.get _ hlt3]; exact hg3
        refine Wd_P rfl (v := ptr h2.next 1) (h' := h4) (by rfl) ?_
        refine Wd_R rfl (v := .string t.text) (h' := h4) (by simp only [iop, ev, upd, dstUpd, reduceIte, Nat.reduceEqDiff, ptr, Heap.cell, hg4']; rfl) (fun q hq => by
          rw [List.mem_singleton] at hq
          subst hq
          exact .inr (sameAt_below k4' hlt3)) ?_
        have hwd := word_at F W hexpr t.text
        have p4 := p3.keep k4'
        have f04' : PFr pb h h4 := (k3.pfr pb).trans (k4'.pfr pb)
        cases hws : wordS ts (exprS num ts f) t.text with
        | none =>
          rw [hws] at hs hwd
          simp only at hs hwd
          refine Wd_R rfl (v := .nilFunc) (h' := h4) (by simp only [iop, ev, upd, dstUpd, reduceIte, Nat.reduceEqDiff, hmg, keyOf, fit1, if_true, hwd, Bool.false_eq_true]) (fun q hq => by
            rw [List.mem_singleton] at hq
            subst hq
            exact .inl (by show (0 : Nat) ∈ [2, 1, 0]; decide)) ?_
          refine Wd_P rfl (v := .nilFunc) (h' := h4) (by rfl) (Wd_nil ?_)
          show Wc T _ _ _
          refine Wc_seq (Wc_ops (Wo_run (fun call => by simp only [go_sem, seval, nilV, bne]; rfl) ?_))
          show Wc T _ _ _
          refine Wc_cond false (by first | rfl | assumption) (fun e => by cases e) (fun _ => Wc_skip ?_)
          exact ⟨rfl, k4', (by first | rfl | assumption), hs⟩
        | some g =>
          rw [hws] at hs hwd
          simp only at hs hwd
          obtain ⟨fid, hfid, hok⟩ := hwd
          refine Wd_R rfl (v := fnV fid) (h' := h4) (by simp only [iop, ev, upd, dstUpd, reduceIte, Nat.reduceEqDiff, hmg, keyOf, fit1, if_true, hfid, Bool.false_eq_true]) (fun q hq => by
            rw [List.mem_singleton] at hq
            subst hq
            exact .inl (by show (0 : Nat) ∈ [2, 1, 0]; decide)) ?_
          refine Wd_P rfl (v := fnV fid) (h' := h4) (by rfl) (Wd_nil ?_)
          show Wc T _ _ _
          refine Wc_seq (Wc_ops (Wo_run (fun call => by simp only [go_sem, seval, nilV, fnV, bne]; rfl) ?_))
          show Wc T _ _ _
          refine Wc_cond true (by first | rfl | assumption) (fun _ => ?_) (fun e => by cases e)
          obtain ⟨tv', lv', nds', hgq, _⟩ := p4.rep
          have hset' : ([tv', Value.int .i64 st.i, lv'].set 1 (.int .i64 ((st.i + 1 : Nat) : Int))) = [tv', .int .i64 ((st.i + 1 : Nat) : Int), lv'] := rfl
          obtain ⟨pgo', fgo'⟩ := p4.go (i := st.i + 1) hgq
          have hg5 : (h4.set pb (.cells [tv', .int .i64 ((st.i + 1 : Nat) : Int), lv'] true 0)).get h2.next = some (.cells t.cells true 0) := by rw [set_get_ne' _ _ (by omega)]; exact hg4'
          refine Wc_seq (Wc_ops (Wo_pre 7 (fun call => by simp only [go_sem, seval, hgq, hw]; rfl) ?_))
          refine Wo_op (iop_store_at (k := 1) (v := .int .i64 ((st.i + 1 : Nat) : Int)) (by first | rfl | assumption) (by simp only [ev, upd, dstUpd, reduceIte, Nat.reduceEqDiff]; rfl) hgq (by simp)) (Wo_nil ?_)
          show Wc T _ _ _
          rw [hset']
          generalize h4.set pb (.cells [tv', .int .i64 ((st.i + 1 : Nat) : Int), lv'] true 0) = h5 at pgo' fgo' hg5 ⊢
          have f05 := f04'.trans fgo'
          have hX5 : ∀ b, X b → b < h5.next := fun b hb => Nat.lt_of_lt_of_le (hX b hb) f05.next
          refine Wc_seq (Wc_ops (Wo_pre 4 (fun call => by simp only [go_sem, seval, hg5, Tok.cells]; rfl) ?_))
          refine Wo_callv (c := .fn fid) (vs := [ptr pb 0, .int .i64 t.frm]) (by simp only [go_sem, seval, target, fnV] <;> first | rfl | assumption | (symm; assumption)) ((hok X _ h5 _ r pgo' hX5 hs).mono ?_)
          cases r with
          | err a er => rintro o h6 ⟨f6, rfl⟩; exact ⟨rfl, f05.trans f6, rfl⟩
          | ok n st' =>
            rintro o h6 ⟨f6, rfl, p6⟩
            show Wo T _ _ _
            refine (Wo_run (fun call => by simp only [go_sem, seval]; rfl) ?_)
            exact Wc_ret ⟨rfl, [.int .i64 n], by simp only [resAll, resV, upd, dstUpd, reduceIte, Nat.reduceEqDiff], f05.trans f6, rfl, p6⟩
      · rw [if_neg k2'] at hs
        exact ⟨rfl, .refl _, (by first | rfl | assumption), hs⟩
    rintro ⟨e', h', d⟩ ⟨hd, k3', e0, hs⟩
    simp only at hd k3' e0
    rw [hd]
    have p' := p3.keep k3'
    have f0' : PFr pb h h' := (k3.trans k3').pfr pb
    have hX' : ∀ b, X b → b < h'.next := fun b hb => Nat.lt_of_lt_of_le (hX b hb) f0'.next
    refine Wc_seq (Wc_ops (Wo_pre 1 (fun call => by simp only [go_sem, seval, e0]; rfl) ?_))
    rcases andS_some hs with ⟨a, er, h1', hr⟩ | ⟨u, st4, h1', hs⟩
    · refine Wo_call ((want_ok F p' h1').mono ?_)
      rintro o h6 ⟨f6, rfl⟩
      subst hr
      exact ⟨rfl, f0'.trans f6, rfl⟩
    refine Wo_call ((want_ok F p' h1').mono ?_)
    rintro o h6 ⟨f6, rfl, p6⟩
    show Wo T _ _ _
    refine Wo_nil ?_
    show Wc T _ _ _
    have f06 := f0'.trans f6
    have hX6 : ∀ b, X b → b < h6.next := fun b hb => Nat.lt_of_lt_of_le (hX b hb) f06.next
    refine Wc_seq (Wc_ops (Wo_pre 1 (fun call => by simp only [go_sem, seval, e0]; rfl) ?_))
    rcases andS_some hs with ⟨a, er, h1', hr⟩ | ⟨e, st5, h1', hs⟩
    · refine Wo_call ((hexpr X _ h6 _ p6 hX6 h1').mono ?_)
      rintro o h7 ⟨f7, rfl⟩
      subst hr
      exact ⟨rfl, f06.trans f7, rfl⟩
    refine Wo_call ((hexpr X _ h6 _ p6 hX6 h1').mono ?_)
    rintro o h7 ⟨f7, rfl, p7⟩
    show Wo T _ _ _
    refine (Wo_run (fun call => by simp only [go_sem, seval]; rfl) ?_)
    show Wc T _ _ _
    have f07 := f06.trans f7
    refine Wc_seq (Wc_ops (Wo_pre 1 (fun call => by simp only [go_sem, seval, e0]; rfl) ?_))
    rcases andS_some hs with ⟨a, er, h1', hr⟩ | ⟨u2, st6, h1', hs⟩
    · refine Wo_call ((want_ok F p7 h1').mono ?_)
      rintro o h8 ⟨f8, rfl⟩
      subst hr
      exact ⟨rfl, f07.trans f8, rfl⟩
    refine Wo_call ((want_ok F p7 h1').mono ?_)
    rintro o h8 ⟨f8, rfl, p8⟩
    show Wo T _ _ _
    refine Wo_nil ?_
    show Wc T _ _ _
    refine Wc_seq (Wc_ops (Wo_run (fun call => by simp only [go_sem, seval]; rfl) ?_))
    cases hs
    exact Wc_ret ⟨rfl, [.int .i64 e], by simp only [resAll, resV, upd, dstUpd, reduceIte, Nat.reduceEqDiff], f07.trans f8, rfl, p8⟩
end Go.Idl
end

section
namespace Go.Idl
variable {T : Tbl} {X : Nat → Prop}
structure ExpFns (T : Tbl) : Prop where
  p1 : Par1 T
  words : WordFns T
  list : T.fn 35 = some C35
  first : T.fn 75 = some C75
  back : T.fn 65 = some C65
  sign : T.fn 85 = some C85
  chain : T.fn 76 = some C76
  levels : T.fn 84 = some C84
  expr : T.fn 66 = some C66
structure ExpOk (T : Tbl) (pb : Nat) (ts : List Tok) (num : Int → ByteArray) (f : Nat) : Prop where
  first : OneOk T pb ts 75 (firstS num ts f)
  back : OneOk T pb ts 65 (backS num ts f)
  sign : OneOk T pb ts 85 (signS num ts f)
  chain : ChainOk T pb ts (chainS num ts f)
  expr : OneOk T pb ts 66 (exprS num ts f)
theorem exp_all (F : ExpFns T) {num : Int → ByteArray} {pb : Nat} {ts : List Tok} (hnum : ∀ t ∈ ts, ∀ (h : Heap) (K : Out → Heap → Prop), K (.ret (.string (num t.num))) h → Wk T (.fn 82) [.int .i64 t.num, .int .i64 10] h K) : ∀ f g, g ≤ f → ExpOk T pb ts num g := by
  intro f
  induction f with
  | zero =>
    intro g hg
    obtain rfl : g = 0 := by omega
    refine ⟨?_, ?_, ?_, ?_, ?_⟩
    · intro X st h r p hX hs
      rw [firstS] at hs; cases hs
    · intro X st h r p hX hs
      rw [backS] at hs; cases hs
    · intro X st h r p hX hs
      rw [signS] at hs; cases hs
    · intro X st h l r p hX hl hs
      rw [chainS] at hs; cases hs
    · intro X st h r p hX hs
      rw [exprS] at hs; cases hs
  | succ f ih =>
    intro g hg
    rcases Nat.lt_or_eq_of_le hg with hg | rfl
    · exact ih g (by omega)
    · have e := ih f (Nat.le_refl _)
      exact ⟨first_step F.p1 F.words F.list F.first hnum e.expr, back_step F.p1 F.back e.first (fun g hg => (ih g hg).expr), sign_step F.p1 F.sign e.back e.sign, chain_step F.p1 F.levels F.chain e.sign (fun g hg => (ih g hg).chain), expr_step F.p1 F.expr e.chain⟩
end Go.Idl
end

section
namespace Go.Idl
variable {T : Tbl} {X : Nat → Prop}
def closedS (ts : List Tok) (ex : PSt → Option (PR Nat)) (kind pos : Int) (st : PSt) : Option (PR Nat) :=
  andS (ex st) fun e st => andS (wantS ts ⟨#[59]⟩ st) fun _ st => mkS kind ⟨#[]⟩ pos [(e : Int)] st
def letS (ts : List Tok) (ex : PSt → Option (PR Nat)) (st : PSt) : Option (PR Nat) :=
  andS (nameS ts st) fun t st => andS (wantS ts ⟨#[61]⟩ st) fun _ st => andS (ex st) fun e st => andS (wantS ts ⟨#[59]⟩ st) fun _ st => mkS 5 t.text t.frm [(e : Int)] st
def mergeS (ts : List Tok) (f : Nat) (pos : Int) (st : PSt) : Option (PR Nat) :=
  andS (wantS ts ⟨#[40]⟩ st) fun _ st => andS (listS ts ⟨#[41]⟩ (namedS ts) f st) fun kids st => andS (wantS ts ⟨#[59]⟩ st) fun _ st => mkS 13 ⟨#[]⟩ pos kids st
theorem closed_ok (F : Par1 T) (hT : T.fn 81 = some C81) {pb : Nat} {ts : List Tok} {ex : PSt → Option (PR Nat)} (hex : OneOk T pb ts 66 ex) {h : Heap} {st : PSt} {kind pos : Int} {r : PR Nat} (p : Par pb ts X h st) (hX : ∀ b, X b → b < h.next) (hs : closedS ts ex kind pos st = some r) :
    Wk T (.fn 81) [ptr pb 0, .int .i64 kind, .int .i64 pos] h (fun o h' => PPost pb ts X h (fun n : Nat => .ret (.int .i64 n)) r o h') := by
  refine Wk_fn2 hT (by simp [C81]) ?_
  simp only [C81]
  refine Wc_seq (Wc_ops (Wo_run (fun call => by simp only [go_sem, seval]; rfl) ?_))
  show Wc T _ _ _
  refine Wc_seq (Wc_ops (Wo_pre 1 (fun call => by simp only [go_sem, seval]; rfl) ?_))
  rcases andS_some hs with ⟨a, er, h1, rfl⟩ | ⟨e, st2, h1, hs⟩
  · refine Wo_call ((hex X st h _ p hX h1).mono ?_)
    rintro o h3 ⟨f3, rfl⟩
    exact ⟨rfl, f3, rfl⟩
  refine Wo_call ((hex X st h _ p hX h1).mono ?_)
  rintro o h3 ⟨f3, rfl, p3⟩
  show Wo T _ _ _
  refine (Wo_run (fun call => by simp only [go_sem, seval]; rfl) ?_)
  show Wc T _ _ _
  refine Wc_seq (Wc_ops (Wo_pre 1 (fun call => by simp only [go_sem, seval]; rfl) ?_))
  rcases andS_some hs with ⟨a, er, h1, rfl⟩ | ⟨u2, st3, h1, hs⟩
  · refine Wo_call ((want_ok F p3 h1).mono ?_)
    rintro o h4 ⟨f4, rfl⟩
    exact ⟨rfl, f3.trans f4, rfl⟩
  refine Wo_call ((want_ok F p3 h1).mono ?_)
  rintro o h4 ⟨f4, rfl, p4⟩
  show Wo T _ _ _
  refine Wo_nil ?_
  show Wc T _ _ _
  have f04 := f3.trans f4
  have hX4 : ∀ b, X b → b < h4.next := fun b hb => Nat.lt_of_lt_of_le (hX b hb) f04.next
  refine Wc_seq (Wc_ops (Wo_pre 4 (fun call => by simp only [go_sem, seval]; rfl) ?_))
  refine Wo_new (v := .slice (some ⟨h4.next, 0, none⟩) 1 1) (B := .cells (ints64 [(e : Int)]) true 1) (by rfl) fun h5 n5 => ?_
  refine Wo_node F (p4.keep n5.kept) (f04.trans (n5.kept.pfr pb)) (lit_kids (kids := [(e : Int)]) (c := 1) hX4 n5) hs rfl fun n st' h6 hr f6 p6 => ?_
  refine (Wo_run (fun call => by simp only [go_sem, seval]; rfl) ?_)
  subst hr
  exact Wc_ret ⟨rfl, [.int .i64 n], by simp only [resAll, resV, upd, dstUpd, reduceIte, Nat.reduceEqDiff], f6, rfl, p6⟩
theorem let_ok (F : Par1 T) (hT : T.fn 68 = some C68) {pb : Nat} {ts : List Tok} {ex : PSt → Option (PR Nat)} (hex : OneOk T pb ts 66 ex) : WordOk T pb ts 68 (fun _ => letS ts ex) := by
  intro X st h pos r p hX hs
  refine Wk_fn2 hT (by simp [C68]) ?_
  simp only [C68]
  refine Wc_seq (Wc_ops (Wo_run (fun call => by simp only [go_sem, seval]; rfl) ?_))
  show Wc T _ _ _
  refine Wc_seq (Wc_ops (Wo_pre 1 (fun call => by simp only [go_sem, seval]; rfl) ?_))
  rcases andS_some hs with ⟨a, er, h1, rfl⟩ | ⟨t, st1, h1, hs⟩
  · refine Wo_call ((name_ok F p h1).mono ?_)
    rintro o h2 ⟨f2, rfl⟩
    exact ⟨rfl, f2, rfl⟩
  refine Wo_call ((name_ok F p h1).mono ?_)
  rintro o h2 ⟨f2, rfl, p2⟩
  show Wo T _ _ _
  refine Wo_op (v := ptr h2.next 0) (h' := h2.new (.cells z5 true 0)) rfl ?_
  refine Wo_store_new (cs := t.cells) (h := h2) (by first | rfl | assumption) (by first | rfl | assumption) rfl rfl fun h3 n3 => Wo_nil ?_
  show Wc T _ _ _
  have p3 := p2.keep n3.kept
  have f03 := f2.trans (n3.kept.pfr pb)
  have hg3 := n3.get
  have hlt3 : h2.next < h3.next := by rw [n3.next]; exact Nat.lt_succ_self _
  have hpb2 := p2.lt
  have no4 : ∀ cs, h3.get h2.next ≠ some (.cells cs true 4) := fun cs e => by rw [hg3] at e; simp at e
  refine Wc_seq (Wc_ops (Wo_pre 1 (fun call => by simp only [go_sem, seval]; rfl) ?_))
  rcases andS_some hs with ⟨a, er, h1, rfl⟩ | ⟨u, st2, h1, hs⟩
  · refine Wo_call ((want_ok F p3 h1).mono ?_)
    rintro o h4 ⟨f4, rfl⟩
    exact ⟨rfl, f03.trans f4, rfl⟩
  refine Wo_call ((want_ok F p3 h1).mono ?_)
  rintro o h4 ⟨f4, rfl, p4⟩
  show Wo T _ _ _
  refine Wo_nil ?_
  show Wc T _ _ _
  have f04 := f03.trans f4
  have hX4 : ∀ b, X b → b < h4.next := fun b hb => Nat.lt_of_lt_of_le (hX b hb) f04.next
  refine Wc_seq (Wc_ops (Wo_pre 1 (fun call => by simp only [go_sem, seval]; rfl) ?_))
  rcases andS_some hs with ⟨a, er, h1, rfl⟩ | ⟨e, st3, h1, hs⟩
  · refine Wo_call ((hex X _ h4 _ p4 hX4 h1).mono ?_)
    rintro o h5 ⟨f5, rfl⟩
    exact ⟨rfl, f04.trans f5, rfl⟩
  refine Wo_call ((hex X _ h4 _ p4 hX4 h1).mono ?_)
  rintro o h5 ⟨f5, rfl, p5⟩
  show Wo T _ _ _
  refine (Wo_run (fun call => by simp only [go_sem, seval]; rfl) ?_)
  show Wc T _ _ _
  have f05 := f04.trans f5
  refine Wc_seq (Wc_ops (Wo_pre 1 (fun call => by simp only [go_sem, seval]; rfl) ?_))
  rcases andS_some hs with ⟨a, er, h1, rfl⟩ | ⟨u2, st4, h1, hs⟩
  · refine Wo_call ((want_ok F p5 h1).mono ?_)
    rintro o h6 ⟨f6, rfl⟩
    exact ⟨rfl, f05.trans f6, rfl⟩
  refine Wo_call ((want_ok F p5 h1).mono ?_)
  rintro o h6 ⟨f6, rfl, p6⟩
  show Wo T _ _ _
  refine Wo_nil ?_
  show Wc T _ _ _
  have f06 := f05.trans f6
  have f36 := (f4.trans f5).trans f6
  have hX6 : ∀ b, X b → b < h6.next := fun b hb => Nat.lt_of_lt_of_le (hX b hb) f06.next
  have hg6 : h6.get h2.next = some (.cells t.cells true 0) := by rw [f36.get _ hlt3 (by omega) no4]; exact hg3
  refine Wc_seq (Wc_ops (Wo_pre 6 (fun call => by simp only [go_sem, seval, hg6, Tok.cells]; rfl) ?_))
  refine Wo_new (v := .slice (some ⟨h6.next, 0, none⟩) 1 1) (B := .cells (ints64 [(e : Int)]) true 1) (by rfl) fun h7 n7 => ?_
  refine Wo_node F (p6.keep n7.kept) (f06.trans (n7.kept.pfr pb)) (lit_kids (kids := [(e : Int)]) (c := 1) hX6 n7) hs rfl fun n st' h8 hr f8 p8 => ?_
  refine (Wo_run (fun call => by simp only [go_sem, seval]; rfl) ?_)
  subst hr
  exact Wc_ret ⟨rfl, [.int .i64 n], by simp only [resAll, resV, upd, dstUpd, reduceIte, Nat.reduceEqDiff], f8, rfl, p8⟩
theorem merge_ok (F : Par1 T) (hL : T.fn 35 = some C35) (hN : T.fn 36 = some C36) (hT : T.fn 74 = some C74) {pb : Nat} {ts : List Tok} {f : Nat} : WordOk T pb ts 74 (mergeS ts f) := by
  intro X st h pos r p hX hs
  refine Wk_fn2 hT (by simp [C74]) ?_
  simp only [C74]
  refine Wc_seq (Wc_ops (Wo_run (fun call => by simp only [go_sem, seval]; rfl) ?_))
  show Wc T _ _ _
  refine Wc_seq (Wc_ops (Wo_pre 1 (fun call => by simp only [go_sem, seval]; rfl) ?_))
  rcases andS_some hs with ⟨a, er, h1, rfl⟩ | ⟨u, st1, h1, hs⟩
  · refine Wo_call ((want_ok F p h1).mono ?_)
    rintro o h2 ⟨f2, rfl⟩
    exact ⟨rfl, f2, rfl⟩
  refine Wo_call ((want_ok F p h1).mono ?_)
  rintro o h2 ⟨f2, rfl, p2⟩
  show Wo T _ _ _
  refine Wo_nil ?_
  show Wc T _ _ _
  have hX2 : ∀ b, X b → b < h2.next := fun b hb => Nat.lt_of_lt_of_le (hX b hb) f2.next
  refine Wc_seq (Wc_ops (Wo_pre 1 (fun call => by simp only [go_sem, seval]; rfl) ?_))
  rcases andS_some hs with ⟨a, er, h1, rfl⟩ | ⟨kids, st2, h1, hs⟩
  · refine Wo_call ((list_ok F hL p2 hX2 (named_ok F hN) h1).mono ?_)
    rintro o h3 ⟨f3, rfl⟩
    exact ⟨rfl, f2.trans f3, rfl⟩
  refine Wo_call ((list_ok F hL p2 hX2 (named_ok F hN) h1).mono ?_)
  rintro o h3 ⟨f3, kv, rfl, o3, p3⟩
  show Wo T _ _ _
  refine (Wo_run (fun call => by simp only [go_sem, seval]; rfl) ?_)
  show Wc T _ _ _
  have f03 := f2.trans f3
  refine Wc_seq (Wc_ops (Wo_pre 1 (fun call => by simp only [go_sem, seval]; rfl) ?_))
  rcases andS_some hs with ⟨a, er, h1, rfl⟩ | ⟨u2, st3, h1, hs⟩
  · refine Wo_call ((want_ok F p3 h1).mono ?_)
    rintro o h4 ⟨f4, rfl⟩
    exact ⟨rfl, f03.trans f4, rfl⟩
  refine Wo_call ((want_ok F p3 h1).mono ?_)
  rintro o h4 ⟨f4, rfl, p4⟩
  show Wo T _ _ _
  refine Wo_nil ?_
  show Wc T _ _ _
  have o4 := o3.pfr p3 f4
  refine Wc_seq (Wc_ops (Wo_pre 3 (fun call => by simp only [go_sem, seval]; rfl) ?_))
  refine Wo_node F (p4.weaken fun b hb => .inl hb) (f03.trans f4) (o4.kids (h0 := h) hX2) hs rfl fun n st' h7 hr f7 p7 => ?_
  refine (Wo_run (fun call => by simp only [go_sem, seval]; rfl) ?_)
  subst hr
  exact Wc_ret ⟨rfl, [.int .i64 n], by simp only [resAll, resV, upd, dstUpd, reduceIte, Nat.reduceEqDiff], f7, rfl, p7⟩
end Go.Idl
end

section
namespace Go.Idl
variable {T : Tbl} {X : Nat → Prop}
theorem ret_ok (F : Par1 T) (hI : T.fn 81 = some C81) (hT : T.fn 71 = some C71) {pb : Nat} {ts : List Tok} {ex : PSt → Option (PR Nat)} (hex : OneOk T pb ts 66 ex) : WordOk T pb ts 71 (closedS ts ex 9) := by
  intro X st h pos r p hX hs
  refine Wk_fn2 hT (by simp [C71]) ?_
  simp only [C71]
  refine Wc_seq (Wc_ops (Wo_run (fun call => by simp only [go_sem, seval]; rfl) ?_))
  show Wc T _ _ _
  refine Wc_seq (Wc_ops (Wo_pre 2 (fun call => by simp only [go_sem, seval]; rfl) ?_))
  refine Wo_call ((closed_ok F hI hex p hX hs).mono ?_)
  cases r with
  | err a er => rintro o h2 ⟨f2, rfl⟩; exact ⟨rfl, f2, rfl⟩
  | ok n st' =>
    rintro o h2 ⟨f2, rfl, p2⟩
    show Wo T _ _ _
    refine (Wo_run (fun call => by simp only [go_sem, seval]; rfl) ?_)
    exact Wc_ret ⟨rfl, [.int .i64 n], by simp only [resAll, resV, upd, dstUpd, reduceIte, Nat.reduceEqDiff], f2, rfl, p2⟩
theorem out_ok (F : Par1 T) (hI : T.fn 81 = some C81) (hT : T.fn 72 = some C72) {pb : Nat} {ts : List Tok} {ex : PSt → Option (PR Nat)} (hex : OneOk T pb ts 66 ex) : WordOk T pb ts 72 (closedS ts ex 10) := by
  intro X st h pos r p hX hs
  refine Wk_fn2 hT (by simp [C72]) ?_
  simp only [C72]
  refine Wc_seq (Wc_ops (Wo_run (fun call => by simp only [go_sem, seval]; rfl) ?_))
  show Wc T _ _ _
  refine Wc_seq (Wc_ops (Wo_pre 2 (fun call => by simp only [go_sem, seval]; rfl) ?_))
  refine Wo_call ((closed_ok F hI hex p hX hs).mono ?_)
  cases r with
  | err a er => rintro o h2 ⟨f2, rfl⟩; exact ⟨rfl, f2, rfl⟩
  | ok n st' =>
    rintro o h2 ⟨f2, rfl, p2⟩
    show Wo T _ _ _
    refine (Wo_run (fun call => by simp only [go_sem, seval]; rfl) ?_)
    exact Wc_ret ⟨rfl, [.int .i64 n], by simp only [resAll, resV, upd, dstUpd, reduceIte, Nat.reduceEqDiff], f2, rfl, p2⟩
theorem stop_ok (F : Par1 T) (hI : T.fn 81 = some C81) (hT : T.fn 73 = some C73) {pb : Nat} {ts : List Tok} {ex : PSt → Option (PR Nat)} (hex : OneOk T pb ts 66 ex) : WordOk T pb ts 73 (closedS ts ex 11) := by
  intro X st h pos r p hX hs
  refine Wk_fn2 hT (by simp [C73]) ?_
  simp only [C73]
  refine Wc_seq (Wc_ops (Wo_run (fun call => by simp only [go_sem, seval]; rfl) ?_))
  show Wc T _ _ _
  refine Wc_seq (Wc_ops (Wo_pre 2 (fun call => by simp only [go_sem, seval]; rfl) ?_))
  refine Wo_call ((closed_ok F hI hex p hX hs).mono ?_)
  cases r with
  | err a er => rintro o h2 ⟨f2, rfl⟩; exact ⟨rfl, f2, rfl⟩
  | ok n st' =>
    rintro o h2 ⟨f2, rfl, p2⟩
    show Wo T _ _ _
    refine (Wo_run (fun call => by simp only [go_sem, seval]; rfl) ?_)
    exact Wc_ret ⟨rfl, [.int .i64 n], by simp only [resAll, resV, upd, dstUpd, reduceIte, Nat.reduceEqDiff], f2, rfl, p2⟩
def loopS (ex bl : PSt → Option (PR Nat)) (pos : Int) (st : PSt) : Option (PR Nat) := andS (ex st) fun e st => andS (bl st) fun b st => mkS 8 ⟨#[]⟩ pos [(e : Int), (b : Int)] st
def choiceS (ts : List Tok) (ex bl : PSt → Option (PR Nat)) (pos : Int) (st : PSt) : Option (PR Nat) := andS (ex st) fun e st => andS (bl st) fun b st => match takeS ts ⟨#[101, 108, 115, 101]⟩ st with
  | none => none
  | some (true, st) => andS (bl st) fun c st => mkS 7 ⟨#[]⟩ pos [(e : Int), (b : Int), (c : Int)] st
  | some (false, st) => andS (mkS 14 ⟨#[]⟩ 0 [] st) fun c st => mkS 7 ⟨#[]⟩ pos [(e : Int), (b : Int), (c : Int)] st
theorem loop_ok (F : Par1 T) (hT : T.fn 70 = some C70) {pb : Nat} {ts : List Tok} {ex bl : PSt → Option (PR Nat)} (hex : OneOk T pb ts 66 ex) (hbl : OneOk T pb ts 37 bl) : WordOk T pb ts 70 (loopS ex bl) := by
  intro X st h pos r p hX hs
  refine Wk_fn2 hT (by simp [C70]) ?_
  simp only [C70]
  refine Wc_seq (Wc_ops (Wo_run (fun call => by simp only [go_sem, seval]; rfl) ?_))
  show Wc T _ _ _
  refine Wc_seq (Wc_ops (Wo_pre 1 (fun call => by simp only [go_sem, seval]; rfl) ?_))
  rcases andS_some hs with ⟨a, er, h1, rfl⟩ | ⟨e, st1, h1, hs⟩
  · refine Wo_call ((hex X _ h _ p hX h1).mono ?_)
    rintro o h2 ⟨f2, rfl⟩
    exact ⟨rfl, f2, rfl⟩
  refine Wo_call ((hex X _ h _ p hX h1).mono ?_)
  rintro o h2 ⟨f2, rfl, p2⟩
  show Wo T _ _ _
  refine (Wo_run (fun call => by simp only [go_sem, seval]; rfl) ?_)
  show Wc T _ _ _
  have hX2 : ∀ b, X b → b < h2.next := fun b hb => Nat.lt_of_lt_of_le (hX b hb) f2.next
  refine Wc_seq (Wc_ops (Wo_pre 4 (fun call => by simp only [go_sem, seval]; rfl) ?_))
  rcases andS_some hs with ⟨a, er, h1, rfl⟩ | ⟨b, st2, h1, hs⟩
  · refine Wo_call ((hbl X _ h2 _ p2 hX2 h1).mono ?_)
    rintro o h3 ⟨f3, rfl⟩
    exact ⟨rfl, f2.trans f3, rfl⟩
  refine Wo_call ((hbl X _ h2 _ p2 hX2 h1).mono ?_)
  rintro o h3 ⟨f3, rfl, p3⟩
  show Wo T _ _ _
  have f03 := f2.trans f3
  have hX3 : ∀ b, X b → b < h3.next := fun b hb => Nat.lt_of_lt_of_le (hX b hb) f03.next
  refine Wo_new (v := .slice (some ⟨h3.next, 0, none⟩) 2 2) (B := .cells (ints64 [(e : Int), (b : Int)]) true 1) (by rfl) fun h7 n7 => ?_
  refine Wo_node F (p3.keep n7.kept) (f03.trans (n7.kept.pfr pb)) (lit_kids (kids := [(e : Int), (b : Int)]) (c := 2) hX3 n7) hs rfl fun n st' h8 hr f8 p8 => ?_
  refine (Wo_run (fun call => by simp only [go_sem, seval]; rfl) ?_)
  subst hr
  exact Wc_ret ⟨rfl, [.int .i64 n], by simp only [resAll, resV, upd, dstUpd, reduceIte, Nat.reduceEqDiff], f8, rfl, p8⟩
theorem choice_ok (F : Par1 T) (hT : T.fn 69 = some C69) {pb : Nat} {ts : List Tok} {ex bl : PSt → Option (PR Nat)} (hex : OneOk T pb ts 66 ex) (hbl : OneOk T pb ts 37 bl) : WordOk T pb ts 69 (choiceS ts ex bl) := by
  intro X st h pos r p hX hs
  refine Wk_fn2 hT (by simp [C69]) ?_
  simp only [C69]
  refine Wc_seq (Wc_ops (Wo_run (fun call => by simp only [go_sem, seval]; rfl) ?_))
  show Wc T _ _ _
  refine Wc_seq (Wc_ops (Wo_pre 1 (fun call => by simp only [go_sem, seval]; rfl) ?_))
  rcases andS_some hs with ⟨a, er, h1, rfl⟩ | ⟨e, st1, h1, hs⟩
  · refine Wo_call ((hex X _ h _ p hX h1).mono ?_)
    rintro o h2 ⟨f2, rfl⟩
    exact ⟨rfl, f2, rfl⟩
  refine Wo_call ((hex X _ h _ p hX h1).mono ?_)
  rintro o h2 ⟨f2, rfl, p2⟩
  show Wo T _ _ _
  refine (Wo_run (fun call => by simp only [go_sem, seval]; rfl) ?_)
  show Wc T _ _ _
  have hX2 : ∀ b, X b → b < h2.next := fun b hb => Nat.lt_of_lt_of_le (hX b hb) f2.next
  refine Wc_seq (Wc_ops (Wo_pre 1 (fun call => by simp only [go_sem, seval]; rfl) ?_))
  rcases andS_some hs with ⟨a, er, h1, rfl⟩ | ⟨b, st2, h1, hs⟩
  · refine Wo_call ((hbl X _ h2 _ p2 hX2 h1).mono ?_)
    rintro o h3 ⟨f3, rfl⟩
    exact ⟨rfl, f2.trans f3, rfl⟩
  refine Wo_call ((hbl X _ h2 _ p2 hX2 h1).mono ?_)
  rintro o h3 ⟨f3, rfl, p3⟩
  show Wo T _ _ _
  refine (Wo_run (fun call => by simp only [go_sem, seval]; rfl) ?_)
  show Wc T _ _ _
  have f03 := f2.trans f3
  cases hk : takeS ts ⟨#[101, 108, 115, 101]⟩ st2 with
  | none => rw [hk] at hs; cases hs
  | some q =>
    obtain ⟨w, st3⟩ := q
    rw [hk] at hs
    refine Wc_seq (Wc_seq (Wc_ops (Wo_pre 1 (fun call => by simp only [go_sem, seval]; rfl) ?_)))
    refine Wo_call ((take_ok F p3 hk).mono ?_)
    rintro o h4 ⟨f4, p4, rfl⟩
    show Wo T _ _ _
    refine Wo_nil ?_
    show Wc T _ _ _
    have f04 := f03.trans f4
    have hX4 : ∀ b, X b → b < h4.next := fun b hb => Nat.lt_of_lt_of_le (hX b hb) f04.next
    cases w with
    | true =>
      simp only at hs
      refine Wc_cond true (by first | rfl | assumption) (fun _ => ?_) (fun e => by cases e)
      refine Wc_seq (Wc_ops (Wo_pre 5 (fun call => by simp only [go_sem, seval]; rfl) ?_))
      rcases andS_some hs with ⟨a, er, h1, rfl⟩ | ⟨c, st4, h1, hs⟩
      · refine Wo_call ((hbl X _ h4 _ p4 hX4 h1).mono ?_)
        rintro o h5 ⟨f5, rfl⟩
        exact ⟨rfl, f04.trans f5, rfl⟩
      refine Wo_call ((hbl X _ h4 _ p4 hX4 h1).mono ?_)
      rintro o h5 ⟨f5, rfl, p5⟩
      show Wo T _ _ _
      have f05 := f04.trans f5
      have hX5 : ∀ b, X b → b < h5.next := fun b hb => Nat.lt_of_lt_of_le (hX b hb) f05.next
      refine Wo_new (v := .slice (some ⟨h5.next, 0, none⟩) 3 3) (B := .cells (ints64 [(e : Int), (b : Int), (c : Int)]) true 1) (by rfl) fun h7 n7 => ?_
      refine Wo_node F (p5.keep n7.kept) (f05.trans (n7.kept.pfr pb)) (lit_kids (kids := [(e : Int), (b : Int), (c : Int)]) (c := 3) hX5 n7) hs rfl fun n st' h8 hr f8 p8 => ?_
      refine (Wo_run (fun call => by simp only [go_sem, seval]; rfl) ?_)
      subst hr
      exact Wc_ret ⟨rfl, [.int .i64 n], by simp only [resAll, resV, upd, dstUpd, reduceIte, Nat.reduceEqDiff], f8, rfl, p8⟩
    | false =>
      simp only at hs
      refine Wc_cond false (by first | rfl | assumption) (fun e => by cases e) (fun _ => Wc_skip ?_)
      show Wc T _ _ _
      rcases andS_some hs with ⟨a, er, h2', _⟩ | ⟨c, st4, h1, hs⟩
      · obtain ⟨_, _, _, h3'⟩ := mkS_some h2'
        cases h3'
      refine Wc_seq (Wc_ops (Wo_pre 5 (fun call => by simp only [go_sem, seval]; rfl) ?_))
      refine Wo_node F p4 f04 nil_kids h1 rfl fun c' st4' h5 hr f05 p5 => ?_
      cases hr
      have hX5 : ∀ b, X b → b < h5.next := fun b hb => Nat.lt_of_lt_of_le (hX b hb) f05.next
      refine Wo_new (v := .slice (some ⟨h5.next, 0, none⟩) 3 3) (B := .cells (ints64 [(e : Int), (b : Int), (c : Int)]) true 1) (by rfl) fun h7 n7 => ?_
      refine Wo_node F (p5.keep n7.kept) (f05.trans (n7.kept.pfr pb)) (lit_kids (kids := [(e : Int), (b : Int), (c : Int)]) (c := 3) hX5 n7) hs rfl fun n st' h8 hr f8 p8 => ?_
      refine (Wo_run (fun call => by simp only [go_sem, seval]; rfl) ?_)
      subst hr
      exact Wc_ret ⟨rfl, [.int .i64 n], by simp only [resAll, resV, upd, dstUpd, reduceIte, Nat.reduceEqDiff], f8, rfl, p8⟩
end Go.Idl
end

section
namespace Go.Idl
variable {T : Tbl} {X : Nat → Prop}
def stmtM : List (Value × Value) := [(.string ⟨#[108, 101, 116]⟩, fnV 68), (.string ⟨#[105, 102]⟩, fnV 69), (.string ⟨#[119, 104, 105, 108, 101]⟩, fnV 70), (.string ⟨#[114, 101, 116, 117, 114, 110]⟩, fnV 71), (.string ⟨#[111, 117, 116]⟩, fnV 72), (.string ⟨#[115, 116, 111, 112]⟩, fnV 73), (.string ⟨#[109, 101, 114, 103, 101]⟩, fnV 74)]
theorem stmtM_fold : stmtM.foldl mapInG [] = stmtM := by kernel_rfl
theorem stmts_ok (hT : T.fn 64 = some C64) {h : Heap} : Wk T (.fn 64) [] h (fun o h' => Kept h h' ∧ ∃ m, m < h'.next ∧ o = .ret (.map (some m)) ∧ h'.get m = some (.map (.one .str) stmtM)) := by
  refine Wk_fn hT (by simp [C64]) ?_
  simp only [C64]
  refine Wc_seq (Wc_ops (Wo_run (fun call => by simp only [go_sem, seval]; rfl) ?_))
  show Wc T _ _ _
  refine Wc_seq (Wc_ops (Wo_new (v := .map (some h.next)) (B := .map (.one .str) []) rfl fun h1 n1 => ?_))
  refine Wo_mapsG (m := h.next) (by simp only [upd, dstUpd, reduceIte, Nat.reduceEqDiff]) stmtM (by simp [stmtM, keyOf, fit1]) n1.get (rest := [⟨(some 2), .op (.mov (.t 1)), none⟩, ⟨(some 0), .op (.mov (.t 2)), none⟩]) fun h' k1 k2 k3 => ?_
  rw [stmtM_fold] at k3
  refine (Wo_run (fun call => by simp only [go_sem, seval]; rfl) ?_)
  refine Wc_ret ⟨.inr rfl, rfl, [.map (some h.next)], by simp only [resAll, resV, upd, dstUpd, reduceIte, Nat.reduceEqDiff], n1.kept.of_but k1 (Nat.le_refl _), h.next, ?_, rfl, k3⟩
  show h.next < h'.next
  rw [k2, n1.next]; exact Nat.lt_succ_self _
structure StmtFns (T : Tbl) : Prop where
  klet : T.fn 68 = some C68
  kchoice : T.fn 69 = some C69
  kloop : T.fn 70 = some C70
  kret : T.fn 71 = some C71
  kout : T.fn 72 = some C72
  kstop : T.fn 73 = some C73
  kmerge : T.fn 74 = some C74
  closed : T.fn 81 = some C81
  list : T.fn 35 = some C35
  named : T.fn 36 = some C36
  stmts : T.fn 64 = some C64
def swordS (ts : List Tok) (ex bl : PSt → Option (PR Nat)) (f : Nat) (w : ByteArray) : Option (Int → PSt → Option (PR Nat)) :=
  if w = ⟨#[108, 101, 116]⟩ then some (fun _ => letS ts ex) else
  if w = ⟨#[105, 102]⟩ then some (choiceS ts ex bl) else
  if w = ⟨#[119, 104, 105, 108, 101]⟩ then some (loopS ex bl) else
  if w = ⟨#[114, 101, 116, 117, 114, 110]⟩ then some (closedS ts ex 9) else
  if w = ⟨#[111, 117, 116]⟩ then some (closedS ts ex 10) else
  if w = ⟨#[115, 116, 111, 112]⟩ then some (closedS ts ex 11) else
  if w = ⟨#[109, 101, 114, 103, 101]⟩ then some (mergeS ts f) else none
theorem stmt_at (F : Par1 T) (W : StmtFns T) {pb : Nat} {ts : List Tok} {ex bl : PSt → Option (PR Nat)} {f : Nat} (hex : OneOk T pb ts 66 ex) (hbl : OneOk T pb ts 37 bl) (w : ByteArray) :
    match swordS ts ex bl f w with
    | some g => ∃ k, findK [.string w] stmtM = some (fnV k) ∧ WordOk T pb ts k g
    | none => findK [.string w] stmtM = none := by
  unfold swordS
  by_cases h0 : w = ⟨#[108, 101, 116]⟩
  · rw [if_pos h0]; subst h0; exact ⟨_, by kernel_rfl, let_ok F W.klet hex⟩
  rw [if_neg h0]
  by_cases h1 : w = ⟨#[105, 102]⟩
  · rw [if_pos h1]; subst h1; exact ⟨_, by kernel_rfl, choice_ok F W.kchoice hex hbl⟩
  rw [if_neg h1]
  by_cases h2 : w = ⟨#[119, 104, 105, 108, 101]⟩
  · rw [if_pos h2]; subst h2; exact ⟨_, by kernel_rfl, loop_ok F W.kloop hex hbl⟩
  rw [if_neg h2]
  by_cases h3 : w = ⟨#[114, 101, 116, 117, 114, 110]⟩
  · rw [if_pos h3]; subst h3; exact ⟨_, by kernel_rfl, ret_ok F W.closed W.kret hex⟩
  rw [if_neg h3]
  by_cases h4 : w = ⟨#[111, 117, 116]⟩
  · rw [if_pos h4]; subst h4; exact ⟨_, by kernel_rfl, out_ok F W.closed W.kout hex⟩
  rw [if_neg h4]
  by_cases h5 : w = ⟨#[115, 116, 111, 112]⟩
  · rw [if_pos h5]; subst h5; exact ⟨_, by kernel_rfl, stop_ok F W.closed W.kstop hex⟩
  rw [if_neg h5]
  by_cases h6 : w = ⟨#[109, 101, 114, 103, 101]⟩
  · rw [if_pos h6]; subst h6; exact ⟨_, by kernel_rfl, merge_ok F W.list W.named W.kmerge⟩
  rw [if_neg h6]
  simp only [stmtM, findK, seqL, seq1, cellsV, Bool.and_true, decide_eq_true_eq, h0, h1, h2, h3, h4, h5, h6, if_false]
def placeK (k : Int) : Bool := k == 17 || k == 20 || k == 21 || k == 30
mutual
def stmtS (num : Int → ByteArray) (ts : List Tok) : Nat → PSt → Option (PR Nat)
  | 0, _ => none
  | f + 1, st => match ts[st.i]? with
    | none => none
    | some t => match (if t.kind = 2 then swordS ts (exprS num ts f) (blockS num ts f) f t.text else none) with
      | some g => g t.frm { st with i := st.i + 1 }
      | none => andS (backS num ts f st) fun e st => match ts[st.i]?, st.l[e]? with
        | some t, some x =>
          if x.kind = 22 then match takeS ts ⟨#[59]⟩ st with
            | none => none
            | some (true, st) => mkS 12 ⟨#[]⟩ x.pos [(e : Int)] st
            | some (false, st) => some (.err t.frm 60)
          else if placeK x.kind then andS (wantS ts ⟨#[61]⟩ st) fun _ st => andS (exprS num ts f st) fun g st => andS (wantS ts ⟨#[59]⟩ st) fun _ st => mkS 6 ⟨#[]⟩ t.frm [(e : Int), (g : Int)] st
          else some (.err t.frm 60)
        | _, _ => none
def manyS (num : Int → ByteArray) (ts : List Tok) : Nat → List Int → PSt → Option (PR (List Int))
  | 0, _, _ => none
  | f + 1, acc, st => if 1000000 < acc.length then none else match ts[st.i]? with
    | none => none
    | some t => if isB t [⟨#[125]⟩] then some (.ok acc st) else andS (stmtS num ts f st) fun k st => manyS num ts f (acc ++ [(k : Int)]) st
def blockS (num : Int → ByteArray) (ts : List Tok) : Nat → PSt → Option (PR Nat)
  | 0, _ => none
  | f + 1, st => match ts[st.i]? with
    | none => none
    | some t => andS (wantS ts ⟨#[123]⟩ st) fun _ st => andS (manyS num ts f [] st) fun kids st => andS (wantS ts ⟨#[125]⟩ st) fun _ st => mkS 4 ⟨#[]⟩ t.frm kids st
end
end Go.Idl
end

section
namespace Go.Idl
variable {T : Tbl} {X : Nat → Prop}
theorem block_step (F : Par1 T) (hT : T.fn 37 = some C37) {num : Int → ByteArray} {pb : Nat} {ts : List Tok} {f : Nat} (hstmt : ∀ g, g ≤ f → OneOk T pb ts 57 (stmtS num ts g)) : OneOk T pb ts 37 (blockS num ts (f + 1)) := by
  intro X st h r p hX hs
  rw [blockS] at hs
  cases ht : ts[st.i]? with
  | none => rw [ht] at hs; cases hs
  | some t =>
    rw [ht] at hs
    simp only at hs
    refine Wk_fn2 hT (by simp [C37]) ?_
    simp only [C37]
    refine Wc_seq (Wc_ops (Wo_run (fun call => by simp only [go_sem, seval]; rfl) ?_))
    show Wc T _ _ _
    refine Wc_seq (Wc_ops (Wo_pre 1 (fun call => by simp only [go_sem, seval]; rfl) ?_))
    refine Wo_call (Wk_kept (now_ok F p ht) fun h2 k2 => ?_)
    refine Wo_op (v := .int .i64 t.frm) (h' := h2) rfl ?_
    refine (Wo_run (fun call => by simp only [go_sem, seval]; rfl) ?_)
    show Wc T _ _ _
    have p2 := p.keep k2
    refine Wc_seq (Wc_ops (Wo_pre 1 (fun call => by simp only [go_sem, seval]; rfl) ?_))
    rcases andS_some hs with ⟨a, er, h1, rfl⟩ | ⟨u, st1, h1, hs⟩
    · refine Wo_call ((want_ok F p2 h1).mono ?_)
      rintro o h3 ⟨f3, rfl⟩
      exact ⟨rfl, (k2.pfr pb).trans f3, rfl⟩
    refine Wo_call ((want_ok F p2 h1).mono ?_)
    rintro o h3 ⟨f3, rfl, p3⟩
    show Wo T _ _ _
    refine Wo_nil ?_
    show Wc T _ _ _
    refine Wc_seq (Wc_ops (Wo_run (fun call => by simp only [go_sem, seval]; rfl) ?_))
    show Wc T _ _ _
    have f03 := (k2.pfr pb).trans f3
    have loop : ∀ (g : Nat), g ≤ f → ∀ (ev' : Env) (h5 : Heap) (acc : List Int) (st2 : PSt) (q : PR (List Int)), manyS num ts g acc st2 = some q → (∀ a er, q = .err a er → r = .err a er) → ev' 0 = .pointer (some ⟨pb, 0, none⟩) → ev' 3 = .int .i64 t.frm → PFr pb h h5 → ownI h.next h5 (ev' 4) acc → Par pb ts (XO X (ev' 4)) h5 st2 →
        Wc T (.loop C37L0) ⟨ev', h5, some []⟩ (Tb 0 fun x s' => match x with
          | .normal => s'.d = some [] ∧ s'.e 0 = .pointer (some ⟨pb, 0, none⟩) ∧ s'.e 3 = .int .i64 t.frm ∧ ∃ kids st', q = .ok kids st' ∧ PFr pb h s'.h ∧ ownI h.next s'.h (s'.e 4) kids ∧ Par pb ts (XO X (s'.e 4)) s'.h st'
          | .pan v => s'.d = some [] ∧ PPost pb ts X h (fun n : Nat => .ret (.int .i64 n)) r (.pan v) s'.h
          | _ => False) := by
      intro g
      induction g with
      | zero => intro _ ev' h5 acc st2 q hm; rw [manyS] at hm; cases hm
      | succ g ih =>
        intro hgf ev' h5 acc st2 q hm hq e0 e3 f5 o5 p5
        rw [manyS] at hm
        by_cases hacc : 1000000 < acc.length
        · rw [if_pos hacc] at hm; cases hm
        rw [if_neg hacc] at hm
        cases ht2 : ts[st2.i]? with
        | none => rw [ht2] at hm; cases hm
        | some t2 =>
          rw [ht2] at hm
          simp only at hm
          refine Wc_unroll (Wc_seq (Wc_seq (Wc_ops (Wo_pre 1 (fun call => by simp only [go_sem, seval, e0]; rfl) ?_))))
          refine Wo_new (v := .slice (some ⟨h5.next, 0, none⟩) 1 1) (B := .cells [.string ⟨#[125]⟩] true 1) (by rfl) fun h6 n6 => ?_
          refine Wo_call (Wk_kept (is_ok F (p5.keep n6.kept) ht2 (pstr ⟨#[125]⟩ n6) (by simp)) fun h7 k7 => ?_)
          have k57 := n6.kept.trans k7
          have p7 := p5.keep k57
          have f07 := f5.trans (k57.pfr pb)
          have o7 := o5.pfr p5 (k57.pfr pb)
          cases hb : isB t2 [⟨#[125]⟩]
          case true =>
            rw [hb, if_pos rfl] at hm
            cases hm
            refine (Wo_run (fun call => by simp only [go_sem, seval, hb]; rfl) ?_)
            show Wc T _ _ _
            refine Wc_cond false (by first | rfl | assumption) (fun e => by cases e) (fun _ => Wc_exit ?_)
            exact ⟨rfl, (by simp only [go_sem, seval, e0] <;> first | rfl | assumption | (symm; assumption)), (by simp only [go_sem, seval, e3] <;> first | rfl | assumption | (symm; assumption)), acc, st2, rfl, f07, by simp only [upd, dstUpd, reduceIte, Nat.reduceEqDiff]; exact o7, by simp only [upd, dstUpd, reduceIte, Nat.reduceEqDiff]; exact p7⟩
          rw [hb] at hm
          simp only [Bool.false_eq_true, if_false] at hm
          refine (Wo_run (fun call => by simp only [go_sem, seval, hb]; rfl) ?_)
          show Wc T _ _ _
          refine Wc_cond true (by first | rfl | assumption) (fun _ => Wc_skip ?_) (fun e => by cases e)
          show Wc T _ _ _
          have hX7 := XO_lt (fun b hb => Nat.lt_of_lt_of_le (hX b hb) f07.next) o7
          refine Wc_block (Wc_ops (Wo_pre 2 (fun call => by simp only [go_sem, seval, e0]; rfl) ?_))
          rcases andS_some hm with ⟨a, er, h1', hr⟩ | ⟨k, st3, h1', hm⟩
          · refine Wo_call ((hstmt g (by omega) _ _ h7 _ p7 hX7 h1').mono ?_)
            rintro o h8 ⟨f8, rfl⟩
            rw [hq a er hr]
            exact ⟨rfl, f07.trans f8, rfl⟩
          refine Wo_call ((hstmt g (by omega) _ _ h7 _ p7 hX7 h1').mono ?_)
          rintro o h8 ⟨f8, rfl, p8⟩
          show Wo T _ _ _
          have f08 := f07.trans f8
          have o8 := o7.pfr p7 f8
          refine Wo_new (v := .slice (some ⟨h8.next, 0, none⟩) 1 1) (B := .cells [.int .i64 (k : Int)] true 1) (by rfl) fun h9 n9 => ?_
          obtain ⟨v', h10, ha, o10, p10, f10⟩ := list_add (k : Int) p8 o8 f08 (Nat.le_refl _) f08.next (by omega) n9
          refine Wo_op (v := v') (h' := h10) (by simp only [iop, ev, upd, dstUpd, reduceIte, Nat.reduceEqDiff]; exact ha) ?_
          refine (Wo_run (fun call => by simp only [go_sem, seval]; rfl) ?_)
          exact ih (by omega) _ h10 (acc ++ [(k : Int)]) st3 q hm hq (by simp only [go_sem, seval, e0] <;> first | rfl | assumption | (symm; assumption)) (by simp only [go_sem, seval, e3] <;> first | rfl | assumption | (symm; assumption)) f10 (by simp only [upd, dstUpd, reduceIte, Nat.reduceEqDiff]; exact o10) (by simp only [upd, dstUpd, reduceIte, Nat.reduceEqDiff]; exact p10)
    rcases andS_some hs with ⟨a, er, h1, hr⟩ | ⟨kids, st2, h1, hs⟩
    · refine Wc_seq (Wc_block ((loop f (Nat.le_refl _) _ h3 [] st1 (.err a er) h1 (fun a' er' e => by cases e; exact hr) (by first | rfl | assumption) (by first | rfl | assumption) f03 (.inl ⟨rfl, (by first | rfl | assumption)⟩) (by simp only [upd, dstUpd, reduceIte, Nat.reduceEqDiff]; exact p3.nil)).mono ?_))
      intro x s' hx
      cases x with
      | normal => obtain ⟨_, _, _, _, _, e, _⟩ := hx; cases e
      | brk i =>
        simp only [Tb] at hx ⊢
        split at hx
        · obtain ⟨_, _, _, _, _, e, _⟩ := hx; cases e
        · exact hx.elim
      | ret => exact hx.elim
      | pan v => exact hx
    refine Wc_seq (Wc_block ((loop f (Nat.le_refl _) _ h3 [] st1 (.ok kids st2) h1 (fun a' er' e => by cases e) (by first | rfl | assumption) (by first | rfl | assumption) f03 (.inl ⟨rfl, (by first | rfl | assumption)⟩) (by simp only [upd, dstUpd, reduceIte, Nat.reduceEqDiff]; exact p3.nil)).mono ?_))
    have rest : ∀ s' : St, (s'.d = some [] ∧ s'.e 0 = .pointer (some ⟨pb, 0, none⟩) ∧ s'.e 3 = .int .i64 t.frm ∧ ∃ kids' st', (PR.ok kids st2 : PR (List Int)) = .ok kids' st' ∧ PFr pb h s'.h ∧ ownI h.next s'.h (s'.e 4) kids' ∧ Par pb ts (XO X (s'.e 4)) s'.h st') → Wc T (.seq (.ops [⟨(some 19), .op (.mov (.t 0)), none⟩, ⟨(some 20), .call 34 [(.t 19), (.c (.string ⟨#[125]⟩))], none⟩])
        (.seq (.ops [⟨(some 21), .op (.mov (.t 0)), none⟩, ⟨(some 22), .op (.mov (.t 3)), none⟩, ⟨(some 23), .op (.mov (.t 4)), none⟩, ⟨(some 24), .call 20 [(.t 21), (.c (.int .i64 4)), (.c (.string ⟨#[]⟩)), (.t 22), (.t 23)], none⟩, ⟨(some 2), .op (.mov (.t 24)), none⟩]) .ret)) s' (Fin2 C37 fun o h' => PPost pb ts X h (fun n : Nat => .ret (.int .i64 n)) r o h') := by
      rintro ⟨e', h', d'⟩ ⟨hd, e0, e3, kids', st', hr, f6, o6, p6⟩
      cases hr
      simp only at hd e0 e3 f6 o6 p6
      rw [hd]
      generalize hv4 : e' 4 = kv at o6 p6
      refine Wc_seq (Wc_ops (Wo_pre 1 (fun call => by simp only [go_sem, seval, e0]; rfl) ?_))
      rcases andS_some hs with ⟨a, er, h1, rfl⟩ | ⟨u2, st3, h1, hs⟩
      · refine Wo_call ((want_ok F p6 h1).mono ?_)
        rintro o h7 ⟨f7, rfl⟩
        exact ⟨rfl, f6.trans f7, rfl⟩
      refine Wo_call ((want_ok F p6 h1).mono ?_)
      rintro o h7 ⟨f7, rfl, p7⟩
      show Wo T _ _ _
      refine Wo_nil ?_
      show Wc T _ _ _
      refine Wc_seq (Wc_ops (Wo_pre 3 (fun call => by simp only [go_sem, seval, e0, e3, hv4]; rfl) ?_))
      refine Wo_node F (p7.weaken fun b hb => .inl hb) (f6.trans f7) ((o6.pfr p6 f7).kids (h0 := h) hX) hs (by first | rfl | assumption) fun n st'' h8 hr8 f8 p8 => ?_
      refine (Wo_run (fun call => by simp only [go_sem, seval]; rfl) ?_)
      subst hr8
      exact Wc_ret ⟨rfl, [.int .i64 n], by simp only [C37, resAll, resV, upd, dstUpd, reduceIte, Nat.reduceEqDiff], f8, rfl, p8⟩
    intro x s' hx
    cases x with
    | normal => exact rest s' hx
    | brk i =>
      simp only [Tb] at hx ⊢
      split at hx
      · rename_i hi
        rw [if_pos hi]
        exact rest s' hx
      · exact hx.elim
    | ret => exact hx.elim
    | pan v => exact hx
end Go.Idl
end

section
namespace Go.Idl
variable {T : Tbl} {X : Nat → Prop}
theorem Par.node {pb : Nat} {ts : List Tok} {h : Heap} {st : PSt} (p : Par pb ts X h st) {e : Nat} {x : PN} (hx : st.l[e]? = some x) : ∃ tv b n c cs, h.get pb = some (.cells [tv, .int .i64 st.i, .slice (some ⟨b, 0, none⟩) n c] true 0) ∧ e < n ∧ h.get b = some (.cells cs true 4) ∧ cs[e * 4]? = some (.int .i64 x.kind) ∧ cs[e * 4 + 3]? = some (.int .i64 x.pos) := by
  obtain ⟨tv, lv, nds, h1, h2, h3, h4, h5⟩ := p.rep
  rw [← h5, List.getElem?_map] at hx
  obtain ⟨nd, hnd, rfl⟩ := Option.map_eq_some_iff.1 hx
  obtain ⟨b, c, rfl, _, _, hg, hc⟩ := h3.load nd_len hnd
  have hr := row_at nd_len hnd
  have get : ∀ k, k < 4 → (nds.flatMap Nd.cells)[e * 4 + k]? = nd.cells[k]? := fun k hk => by
    rw [← hr, List.getElem?_take, if_pos hk, List.getElem?_drop]
  exact ⟨tv, b, _, c, _, h1, (List.getElem?_eq_some_iff.1 hnd).1, hg, get 0 (by omega), get 3 (by omega)⟩
theorem stmt_step (F : Par1 T) (W : StmtFns T) (hT : T.fn 57 = some C57) {num : Int → ByteArray} {pb : Nat} {ts : List Tok} {f : Nat} (hex : OneOk T pb ts 66 (exprS num ts f)) (hback : OneOk T pb ts 65 (backS num ts f)) (hbl : OneOk T pb ts 37 (blockS num ts f)) : OneOk T pb ts 57 (stmtS num ts (f + 1)) := by
  intro X st h r p hX hs
  rw [stmtS] at hs
  have hfew := p.few
  cases ht : ts[st.i]? with
  | none => rw [ht] at hs; cases hs
  | some t =>
    rw [ht] at hs
    simp only at hs
    have hi := (List.getElem?_eq_some_iff.1 ht).1
    refine Wk_fn2 hT (by simp [C57]) ?_
    simp only [C57]
    refine Wc_seq (Wc_ops (Wo_run (fun call => by simp only [go_sem, seval]; rfl) ?_))
    show Wc T _ _ _
    refine Wc_seq (Wc_ops (Wo_pre 1 (fun call => by simp only [go_sem, seval]; rfl) ?_))
    refine Wo_call (Wk_kept (now_ok F p ht) fun h2 k2 => ?_)
    refine Wo_op (v := ptr h2.next 0) (h' := h2.new (.cells z5 true 0)) rfl ?_
    refine Wo_store_new (cs := t.cells) (h := h2) (by first | rfl | assumption) (by first | rfl | assumption) rfl rfl fun h3 n3 => Wo_nil ?_
    show Wc T _ _ _
    have k3 := k2.trans n3.kept
    have p3 := p.keep k3
    have hg3 := n3.get
    have hlt3 : h2.next < h3.next := by rw [n3.next]; exact Nat.lt_succ_self _
    have hpb2 : pb < h2.next := by have := p.lt; have := k2.next; omega
    have hw : IntKind.i64.wrap (((st.i : Nat) : Int) + 1) = ((st.i + 1 : Nat) : Int) := by rw [wrap64] <;> omega
    refine Wc_mid (fun s' => s'.d = some [] ∧ Kept h3 s'.h ∧ s'.e 0 = .pointer (some ⟨pb, 0, none⟩) ∧ (if t.kind = 2 then swordS ts (exprS num ts f) (blockS num ts f) f t.text else none) = none) ?_ ?_
    · refine Wc_seq (Wc_draw ?_)
      refine Wd_call ((stmts_ok W.stmts).mono ?_)
      rintro o h4 ⟨k4', m, hm, rfl, hmg⟩
      refine ⟨fun q hq => by (cases hq), ?_⟩
      have hg4' : h4.get h2.next = some (.cells t.cells true 0) := by rw [k4'.get _ hlt3]; exact hg3
      refine Wd_P rfl (v := ptr h2.next 1) (h' := h4) (by rfl) ?_
      refine Wd_R rfl (v := .string t.text) (h' := h4) (by simp only [iop, ev, upd, dstUpd, reduceIte, Nat.reduceEqDiff, ptr, Heap.cell, hg4']; rfl) (fun q hq => by
        rw [List.mem_singleton] at hq
        subst hq
        exact .inr (sameAt_below k4' hlt3)) ?_
      have hwd := stmt_at F W (f := f) hex hbl t.text
      have p4 := p3.keep k4'
      have f04' : PFr pb h h4 := (k3.pfr pb).trans (k4'.pfr pb)
      cases hws : swordS ts (exprS num ts f) (blockS num ts f) f t.text with
      | none =>
        rw [hws] at hwd
        simp only at hwd
        refine Wd_R rfl (v := .nilFunc) (h' := h4) (by simp only [iop, ev, upd, dstUpd, reduceIte, Nat.reduceEqDiff, hmg, keyOf, fit1, if_true, hwd, Bool.false_eq_true]) (fun q hq => by
          rw [List.mem_singleton] at hq
          subst hq
          exact .inl (by show (0 : Nat) ∈ [2, 1, 0]; decide)) ?_
        refine Wd_P rfl (v := .nilFunc) (h' := h4) (by rfl) (Wd_nil ?_)
        show Wc T _ _ _
        have fin : ∀ e : Env, e 0 = .pointer (some ⟨pb, 0, none⟩) → some ([] : List Dfr) = some [] ∧ Kept h3 h4 ∧ e 0 = .pointer (some ⟨pb, 0, none⟩) ∧ (if t.kind = 2 then (none : Option (Int → PSt → Option (PR Nat))) else none) = none := fun e he => ⟨rfl, k4', he, by split <;> rfl⟩
        cases k2b : (t.kind == 2)
        · refine Wc_seq (Wc_ops (Wo_run (fun call => by simp only [go_sem, seval, hg4', Tok.cells, k2b]; rfl) ?_))
          show Wc T _ _ _
          refine Wc_cond false (by first | rfl | assumption) (fun e => by cases e) (fun _ => Wc_skip ?_)
          exact fin _ (by first | rfl | assumption)
        · refine Wc_seq (Wc_ops (Wo_run (fun call => by simp only [go_sem, seval, hg4', Tok.cells, k2b, nilV, bne]; rfl) ?_))
          show Wc T _ _ _
          refine Wc_cond false (by first | rfl | assumption) (fun e => by cases e) (fun _ => Wc_skip ?_)
          exact fin _ (by first | rfl | assumption)
      | some g =>
        rw [hws] at hs hwd
        simp only at hwd
        obtain ⟨fid, hfid, hok⟩ := hwd
        refine Wd_R rfl (v := fnV fid) (h' := h4) (by simp only [iop, ev, upd, dstUpd, reduceIte, Nat.reduceEqDiff, hmg, keyOf, fit1, if_true, hfid, Bool.false_eq_true]) (fun q hq => by
          rw [List.mem_singleton] at hq
          subst hq
          exact .inl (by show (0 : Nat) ∈ [2, 1, 0]; decide)) ?_
        refine Wd_P rfl (v := fnV fid) (h' := h4) (by rfl) (Wd_nil ?_)
        show Wc T _ _ _
        by_cases k2' : t.kind = 2
        case neg =>
          have k2b : (t.kind == 2) = false := beq_eq_false_iff_ne.2 k2'
          refine Wc_seq (Wc_ops (Wo_run (fun call => by simp only [go_sem, seval, hg4', Tok.cells, k2b]; rfl) ?_))
          show Wc T _ _ _
          refine Wc_cond false (by first | rfl | assumption) (fun e => by cases e) (fun _ => Wc_skip ?_)
          exact ⟨rfl, k4', (by first | rfl | assumption), by rw [if_neg k2']⟩
        have k2b : (t.kind == 2) = true := beq_iff_eq.2 k2'
        rw [if_pos k2'] at hs
        simp only at hs
        refine Wc_seq (Wc_ops (Wo_run (fun call => by simp only [go_sem, seval, hg4', Tok.cells, k2b, nilV, fnV, bne]; rfl) ?_))
        show Wc T _ _ _
        refine Wc_cond true (by first | rfl | assumption) (fun _ => ?_) (fun e => by cases e)
        obtain ⟨tv', lv', nds', hgq, _⟩ := p4.rep
        have hset' : ([tv', Value.int .i64 st.i, lv'].set 1 (.int .i64 ((st.i + 1 : Nat) : Int))) = [tv', .int .i64 ((st.i + 1 : Nat) : Int), lv'] := rfl
        obtain ⟨pgo', fgo'⟩ := p4.go (i := st.i + 1) hgq
        have hg5 : (h4.set pb (.cells [tv', .int .i64 ((st.i + 1 : Nat) : Int), lv'] true 0)).get h2.next = some (.cells t.cells true 0) := by rw [set_get_ne' _ _ (by omega)]; exact hg4'
        refine Wc_seq (Wc_ops (Wo_pre 7 (fun call => by simp only [go_sem, seval, hgq, hw]; rfl) ?_))
        refine Wo_op (iop_store_at (k := 1) (v := .int .i64 ((st.i + 1 : Nat) : Int)) (by first | rfl | assumption) (by simp only [ev, upd, dstUpd, reduceIte, Nat.reduceEqDiff]; rfl) hgq (by simp)) (Wo_nil ?_)
        show Wc T _ _ _
        rw [hset']
        generalize h4.set pb (.cells [tv', .int .i64 ((st.i + 1 : Nat) : Int), lv'] true 0) = h5 at pgo' fgo' hg5 ⊢
        have f05 := f04'.trans fgo'
        have hX5 : ∀ b, X b → b < h5.next := fun b hb => Nat.lt_of_lt_of_le (hX b hb) f05.next
        refine Wc_seq (Wc_ops (Wo_pre 4 (fun call => by simp only [go_sem, seval, hg5, Tok.cells]; rfl) ?_))
        refine Wo_callv (c := .fn fid) (vs := [ptr pb 0, .int .i64 t.frm]) (by simp only [go_sem, seval, target, fnV] <;> first | rfl | assumption | (symm; assumption)) ((hok X _ h5 _ r pgo' hX5 hs).mono ?_)
        cases r with
        | err a er => rintro o h6 ⟨f6, rfl⟩; exact ⟨rfl, f05.trans f6, rfl⟩
        | ok n st' =>
          rintro o h6 ⟨f6, rfl, p6⟩
          show Wo T _ _ _
          refine (Wo_run (fun call => by simp only [go_sem, seval]; rfl) ?_)
          exact Wc_ret ⟨rfl, [.int .i64 n], by simp only [resAll, resV, upd, dstUpd, reduceIte, Nat.reduceEqDiff], f05.trans f6, rfl, p6⟩
    rintro ⟨e', h', d⟩ ⟨hd, k3', e0, hnone⟩
    simp only at hd k3' e0
    rw [hd]
    rw [hnone] at hs
    simp only at hs
    have p' := p3.keep k3'
    have f0' : PFr pb h h' := (k3.trans k3').pfr pb
    have hX' : ∀ b, X b → b < h'.next := fun b hb => Nat.lt_of_lt_of_le (hX b hb) f0'.next
    refine Wc_seq (Wc_ops (Wo_pre 1 (fun call => by simp only [go_sem, seval, e0]; rfl) ?_))
    rcases andS_some hs with ⟨a, er, h1', hr⟩ | ⟨e, st2, h1', hs⟩
    · refine Wo_call ((hback X _ h' _ p' hX' h1').mono ?_)
      rintro o h6 ⟨f6, rfl⟩
      subst hr
      exact ⟨rfl, f0'.trans f6, rfl⟩
    refine Wo_call ((hback X _ h' _ p' hX' h1').mono ?_)
    rintro o h6 ⟨f6, rfl, p6⟩
    show Wo T _ _ _
    refine (Wo_run (fun call => by simp only [go_sem, seval]; rfl) ?_)
    show Wc T _ _ _
    have f06 := f0'.trans f6
    cases ht2 : ts[st2.i]? with
    | none => rw [ht2] at hs; cases hs
    | some t2 =>
      cases hx : st2.l[e]? with
      | none => rw [ht2, hx] at hs; cases hs
      | some x =>
        rw [ht2, hx] at hs
        simp only at hs
        refine Wc_seq (Wc_ops (Wo_pre 1 (fun call => by simp only [go_sem, seval, e0]; rfl) ?_))
        refine Wo_call (Wk_kept (now_ok F p6 ht2) fun h7 k7 => ?_)
        refine Wo_op (v := .int .i64 t2.frm) (h' := h7) rfl ?_
        refine (Wo_run (fun call => by simp only [go_sem, seval]; rfl) ?_)
        show Wc T _ _ _
        have p7 := p6.keep k7
        have f07 := f06.trans (k7.pfr pb)
        have hX7 : ∀ b, X b → b < h7.next := fun b hb => Nat.lt_of_lt_of_le (hX b hb) f07.next
        obtain ⟨tv, bb, n, c, cs, hgp, hen, hgb, hck, hcp⟩ := p7.node hx
        refine Wc_mid (fun s' => s'.d = some [] ∧ PFr pb h s'.h ∧ Par pb ts X s'.h st2 ∧ s'.e 0 = .pointer (some ⟨pb, 0, none⟩) ∧ s'.e 5 = .int .i64 ((e : Nat) : Int) ∧ s'.e 6 = .int .i64 t2.frm ∧ (andS (wantS ts ⟨#[61]⟩ st2) fun _ st => andS (exprS num ts f st) fun g st => andS (wantS ts ⟨#[59]⟩ st) fun _ st => mkS 6 ⟨#[]⟩ t2.frm [(e : Int), (g : Int)] st) = some r) ?_ ?_
        · have hck' : cs[e * 4 + 0]? = some (.int .i64 x.kind) := hck
          refine Wc_seq (Wc_ops (Wo_run (fun call => by simp only [go_sem, seval, e0, hgp, idx_ok hen, hgb, hck]; rfl) ?_))
          show Wc T _ _ _
          refine Wc_block ?_
          by_cases k22 : x.kind = 22
          · have kb : (x.kind == 22) = true := beq_iff_eq.2 k22
            rw [if_pos k22] at hs
            cases hk : takeS ts ⟨#[59]⟩ st2 with
            | none => rw [hk] at hs; cases hs
            | some q =>
              obtain ⟨w, st3⟩ := q
              rw [hk] at hs
              refine Wc_seq (Wc_ops (Wo_pre 4 (fun call => by simp only [go_sem, seval, e0, kb]; rfl) ?_))
              refine Wo_take (by simp only [upd, dstUpd, reduceIte, Nat.reduceEqDiff, gval_bool]; rfl) (Wo_call ((take_ok F p7 hk).mono ?_))
              rintro o h8 ⟨f8, p8, rfl⟩
              show Wo T _ _ _
              have f08 := f07.trans f8
              have hX8 : ∀ b, X b → b < h8.next := fun b hb => Nat.lt_of_lt_of_le (hX b hb) f08.next
              refine (Wo_run (fun call => by simp only [go_sem, seval]; rfl) ?_)
              show Wc T _ _ _
              cases w with
              | true =>
                simp only at hs
                have hst3 : st3.l = st2.l := by
                  rw [takeS, ht2] at hk
                  simp only [Option.map_some, Option.some.injEq] at hk
                  split at hk <;> cases hk
                  rfl
                obtain ⟨tv', bb', n', c', cs', hgp', hen', hgb', hck', hcp'⟩ := p8.node (by rw [hst3]; exact hx)
                refine Wc_cond true (by first | rfl | assumption) (fun _ => ?_) (fun e => by cases e)
                refine Wc_seq (Wc_ops (Wo_pre 10 (fun call => by simp only [go_sem, seval, e0, hgp', idx_ok hen', hgb', hcp']; rfl) ?_))
                refine Wo_new (v := .slice (some ⟨h8.next, 0, none⟩) 1 1) (B := .cells (ints64 [(e : Int)]) true 1) (by rfl) fun h9 n9 => ?_
                refine Wo_node F (p8.keep n9.kept) (f08.trans (n9.kept.pfr pb)) (lit_kids (kids := [(e : Int)]) (c := 1) hX8 n9) hs (by first | rfl | assumption) fun n st' h10 hr f10 p10 => ?_
                refine (Wo_run (fun call => by simp only [go_sem, seval]; rfl) ?_)
                subst hr
                exact Wc_ret ⟨rfl, [.int .i64 n], by simp only [resAll, resV, upd, dstUpd, reduceIte, Nat.reduceEqDiff], f10, rfl, p10⟩
              | false =>
                simp only [Option.some.injEq] at hs
                have hst3 : st3 = st2 := by
                  rw [takeS, ht2] at hk
                  simp only [Option.map_some, Option.some.injEq] at hk
                  split at hk <;> cases hk
                  rfl
                subst hst3
                refine Wc_cond false (by first | rfl | assumption) (fun e => by cases e) (fun _ => ?_)
                have b1 : (x.kind != 17) = true := by rw [k22]; rfl
                have b2 : (x.kind != 20) = true := by rw [k22]; rfl
                have b3 : (x.kind != 21) = true := by rw [k22]; rfl
                have b4 : (x.kind != 30) = true := by rw [k22]; rfl
                refine Wc_seq (Wc_ops (Wo_run (fun call => by simp only [go_sem, seval, b1, b2, b3, b4]; rfl) ?_))
                show Wc T _ _ _
                refine Wc_cond true (by first | rfl | assumption) (fun _ => ?_) (fun e => by cases e)
                refine Wc_ops (Wo_pre 1 (fun call => by simp only [go_sem, seval, e0]; rfl) ?_)
                refine Wo_call ((fail_ok F p8 ht2).mono ?_)
                rintro o h9 ⟨k9, rfl⟩
                show To _ _ _
                subst hs
                exact ⟨rfl, f08.trans (k9.pfr pb), rfl⟩
          have kb : (x.kind == 22) = false := beq_eq_false_iff_ne.2 k22
          rw [if_neg k22] at hs
          refine Wc_seq (Wc_ops (Wo_run (fun call => by simp only [go_sem, seval, kb]; rfl) ?_))
          show Wc T _ _ _
          refine Wc_cond false (by first | rfl | assumption) (fun e => by cases e) (fun _ => ?_)
          refine Wc_mid (fun s' => s'.d = some [] ∧ s'.h = h7 ∧ s'.e 0 = .pointer (some ⟨pb, 0, none⟩) ∧ s'.e 5 = .int .i64 ((e : Nat) : Int) ∧ s'.e 6 = .int .i64 t2.frm ∧ s'.e 66 = .bool (!placeK x.kind)) ?_ ?_
          · cases b1 : (x.kind == 17) <;> cases b2 : (x.kind == 20) <;> cases b3 : (x.kind == 21) <;> cases b4 : (x.kind == 30) <;> (refine Wc_ops (Wo_run (fun call => by simp only [go_sem, seval, bne, b1, b2, b3, b4]; rfl) ?_); exact ⟨rfl, rfl, (by simp only [go_sem, seval, e0] <;> first | rfl | assumption | (symm; assumption)), (by first | rfl | assumption), (by first | rfl | assumption), by simp only [upd, dstUpd, reduceIte, Nat.reduceEqDiff, placeK, b1, b2, b3, b4]; rfl⟩)
          rintro ⟨e', h8, d⟩ ⟨hd, hh, e0, e5, e6, e66⟩
          simp only at hd hh e0 e5 e6 e66
          rw [hd, hh]
          cases hp : placeK x.kind
          · rw [hp] at hs e66
            simp only [Bool.false_eq_true, if_false, Option.some.injEq] at hs
            refine Wc_cond true e66 (fun _ => ?_) (fun e => by cases e)
            refine Wc_ops (Wo_pre 1 (fun call => by simp only [go_sem, seval, e0]; rfl) ?_)
            refine Wo_call ((fail_ok F p7 ht2).mono ?_)
            rintro o h9 ⟨k9, rfl⟩
            show To _ _ _
            subst hs
            exact ⟨rfl, f07.trans (k9.pfr pb), rfl⟩
          · rw [hp] at hs e66
            rw [if_pos rfl] at hs
            refine Wc_cond false e66 (fun e => by cases e) (fun _ => Wc_skip ?_)
            exact ⟨rfl, f07, p7, e0, e5, e6, hs⟩
        rintro ⟨e', h8, d⟩ ⟨hd, f08, p8, e0, e5, e6, hs⟩
        simp only at hd f08 p8 e0 e5 e6
        rw [hd]
        refine Wc_seq (Wc_ops (Wo_pre 1 (fun call => by simp only [go_sem, seval, e0]; rfl) ?_))
        rcases andS_some hs with ⟨a, er, h1', hr⟩ | ⟨u, st4, h1', hs⟩
        · refine Wo_call ((want_ok F p8 h1').mono ?_)
          rintro o h9 ⟨f9, rfl⟩
          subst hr
          exact ⟨rfl, f08.trans f9, rfl⟩
        refine Wo_call ((want_ok F p8 h1').mono ?_)
        rintro o h9 ⟨f9, rfl, p9⟩
        show Wo T _ _ _
        refine Wo_nil ?_
        show Wc T _ _ _
        have f09 := f08.trans f9
        have hX9 : ∀ b, X b → b < h9.next := fun b hb => Nat.lt_of_lt_of_le (hX b hb) f09.next
        refine Wc_seq (Wc_ops (Wo_pre 1 (fun call => by simp only [go_sem, seval, e0]; rfl) ?_))
        rcases andS_some hs with ⟨a, er, h1', hr⟩ | ⟨g, st5, h1', hs⟩
        · refine Wo_call ((hex X _ h9 _ p9 hX9 h1').mono ?_)
          rintro o h10 ⟨f10, rfl⟩
          subst hr
          exact ⟨rfl, f09.trans f10, rfl⟩
        refine Wo_call ((hex X _ h9 _ p9 hX9 h1').mono ?_)
        rintro o h10 ⟨f10, rfl, p10⟩
        show Wo T _ _ _
        refine (Wo_run (fun call => by simp only [go_sem, seval]; rfl) ?_)
        show Wc T _ _ _
        have f010 := f09.trans f10
        refine Wc_seq (Wc_ops (Wo_pre 1 (fun call => by simp only [go_sem, seval, e0]; rfl) ?_))
        rcases andS_some hs with ⟨a, er, h1', hr⟩ | ⟨u, st6, h1', hs⟩
        · refine Wo_call ((want_ok F p10 h1').mono ?_)
          rintro o h11 ⟨f11, rfl⟩
          subst hr
          exact ⟨rfl, f010.trans f11, rfl⟩
        refine Wo_call ((want_ok F p10 h1').mono ?_)
        rintro o h11 ⟨f11, rfl, p11⟩
        show Wo T _ _ _
        refine Wo_nil ?_
        show Wc T _ _ _
        have f011 := f010.trans f11
        have hX11 : ∀ b, X b → b < h11.next := fun b hb => Nat.lt_of_lt_of_le (hX b hb) f011.next
        refine Wc_seq (Wc_ops (Wo_pre 4 (fun call => by simp only [go_sem, seval, e0, e5, e6]; rfl) ?_))
        refine Wo_new (v := .slice (some ⟨h11.next, 0, none⟩) 2 2) (B := .cells (ints64 [(e : Int), (g : Int)]) true 1) (by simp only [iop, evps, List.map_cons, List.map_nil, ev, upd, dstUpd, reduceIte, Nat.reduceEqDiff]; rfl) fun h12 n12 => ?_
        refine Wo_node F (p11.keep n12.kept) (f011.trans (n12.kept.pfr pb)) (lit_kids (kids := [(e : Int), (g : Int)]) (c := 2) hX11 n12) hs (by simp only [go_sem, seval, List.map_cons, List.map_nil, ev] <;> first | rfl | assumption | (symm; assumption)) fun n st' h13 hr f13 p13 => ?_
        refine (Wo_run (fun call => by simp only [go_sem, seval]; rfl) ?_)
        subst hr
        exact Wc_ret ⟨rfl, [.int .i64 n], by simp only [resAll, resV, upd, dstUpd, reduceIte, Nat.reduceEqDiff], f13, rfl, p13⟩
end Go.Idl
end

section
namespace Go.Idl
variable {T : Tbl} {X : Nat → Prop}
structure StFns (T : Tbl) : Prop where
  ex : ExpFns T
  words : StmtFns T
  stmt : T.fn 57 = some C57
  block : T.fn 37 = some C37
theorem stmt_all (F : StFns T) {num : Int → ByteArray} {pb : Nat} {ts : List Tok} (hnum : ∀ t ∈ ts, ∀ (h : Heap) (K : Out → Heap → Prop), K (.ret (.string (num t.num))) h → Wk T (.fn 82) [.int .i64 t.num, .int .i64 10] h K) : ∀ f g, g ≤ f → OneOk T pb ts 57 (stmtS num ts g) ∧ OneOk T pb ts 37 (blockS num ts g) := by
  intro f
  induction f with
  | zero =>
    intro g hg
    obtain rfl : g = 0 := by omega
    refine ⟨?_, ?_⟩
    · intro X st h r p hX hs
      rw [stmtS] at hs; cases hs
    · intro X st h r p hX hs
      rw [blockS] at hs; cases hs
  | succ f ih =>
    intro g hg
    rcases Nat.lt_or_eq_of_le hg with hg | rfl
    · exact ih g (by omega)
    · have e := exp_all F.ex (pb := pb) hnum f f (Nat.le_refl _)
      exact ⟨stmt_step F.ex.p1 F.words F.stmt e.expr e.back (ih f (Nat.le_refl _)).2, block_step F.ex.p1 F.block fun g hg => (ih g hg).1⟩
end Go.Idl
end

section
namespace Go.Idl
variable {T : Tbl} {X : Nat → Prop}
def recS (ts : List Tok) (f : Nat) (st : PSt) : Option (PR Nat) := andS (nameS ts st) fun t st => andS (wantS ts ⟨#[123]⟩ st) fun _ st => andS (listS ts ⟨#[125]⟩ (namedS ts) f st) fun kids st => mkS 2 t.text t.frm kids st
def fnS (ts : List Tok) (bl : PSt → Option (PR Nat)) (f : Nat) (st : PSt) : Option (PR Nat) := andS (wantS ts ⟨#[102, 110]⟩ st) fun _ st => andS (nameS ts st) fun t st => andS (wantS ts ⟨#[40]⟩ st) fun _ st => andS (listS ts ⟨#[41]⟩ (namedS ts) f st) fun kids st => if 1000000 < kids.length then none else andS (bl st) fun b st => mkS 3 t.text t.frm (kids ++ [(b : Int)]) st
def declS (ts : List Tok) (bl : PSt → Option (PR Nat)) (f : Nat) (st : PSt) : Option (PR Nat) := match takeS ts ⟨#[114, 101, 99]⟩ st with
  | none => none
  | some (true, st) => recS ts f st
  | some (false, st) => fnS ts bl f st
theorem decl_ok (F : Par1 T) (hL : T.fn 35 = some C35) (hN : T.fn 36 = some C36) (hT : T.fn 19 = some C19) {pb : Nat} {ts : List Tok} {bl : PSt → Option (PR Nat)} (hbl : OneOk T pb ts 37 bl) {f : Nat} : OneOk T pb ts 19 (declS ts bl f) := by
  intro X st h r p hX hs
  rw [declS] at hs
  refine Wk_fn2 hT (by simp [C19]) ?_
  simp only [C19]
  refine Wc_seq (Wc_ops (Wo_run (fun call => by simp only [go_sem, seval]; rfl) ?_))
  show Wc T _ _ _
  cases hk : takeS ts ⟨#[114, 101, 99]⟩ st with
  | none => rw [hk] at hs; cases hs
  | some q =>
    obtain ⟨w, st1⟩ := q
    rw [hk] at hs
    refine Wc_seq (Wc_seq (Wc_ops (Wo_pre 1 (fun call => by simp only [go_sem, seval]; rfl) ?_)))
    refine Wo_call ((take_ok F p hk).mono ?_)
    rintro o h1 ⟨f1, p1, rfl⟩
    show Wo T _ _ _
    refine Wo_nil ?_
    show Wc T _ _ _
    cases w with
    | true =>
      simp only [recS] at hs
      refine Wc_cond true (by first | rfl | assumption) (fun _ => ?_) (fun e => by cases e)
      refine Wc_seq (Wc_ops (Wo_pre 1 (fun call => by simp only [go_sem, seval]; rfl) ?_))
      rcases andS_some hs with ⟨a, er, h1', rfl⟩ | ⟨t, st2, h1', hs⟩
      · refine Wo_call ((name_ok F p1 h1').mono ?_)
        rintro o h2 ⟨f2, rfl⟩
        exact ⟨rfl, f1.trans f2, rfl⟩
      refine Wo_call ((name_ok F p1 h1').mono ?_)
      rintro o h2 ⟨f2, rfl, p2⟩
      show Wo T _ _ _
      refine Wo_op (v := ptr h2.next 0) (h' := h2.new (.cells z5 true 0)) rfl ?_
      refine Wo_store_new (cs := t.cells) (h := h2) (by first | rfl | assumption) (by first | rfl | assumption) rfl rfl fun h3 n3 => Wo_nil ?_
      show Wc T _ _ _
      have p3 := p2.keep n3.kept
      have f03 := (f1.trans f2).trans (n3.kept.pfr pb)
      have hg3 := n3.get
      have hlt3 : h2.next < h3.next := by rw [n3.next]; exact Nat.lt_succ_self _
      have hpb2 := p2.lt
      have no4 : ∀ cs, h3.get h2.next ≠ some (.cells cs true 4) := fun cs e => by rw [hg3] at e; simp at e
      refine Wc_seq (Wc_ops (Wo_pre 1 (fun call => by simp only [go_sem, seval]; rfl) ?_))
      rcases andS_some hs with ⟨a, er, h1', rfl⟩ | ⟨u, st3, h1', hs⟩
      · refine Wo_call ((want_ok F p3 h1').mono ?_)
        rintro o h4 ⟨f4, rfl⟩
        exact ⟨rfl, f03.trans f4, rfl⟩
      refine Wo_call ((want_ok F p3 h1').mono ?_)
      rintro o h4 ⟨f4, rfl, p4⟩
      show Wo T _ _ _
      refine Wo_nil ?_
      show Wc T _ _ _
      have f04 := f03.trans f4
      have hX4 : ∀ b, X b → b < h4.next := fun b hb => Nat.lt_of_lt_of_le (hX b hb) f04.next
      refine Wc_seq (Wc_ops (Wo_pre 1 (fun call => by simp only [go_sem, seval]; rfl) ?_))
      rcases andS_some hs with ⟨a, er, h1', rfl⟩ | ⟨kids, st4, h1', hs⟩
      · refine Wo_call ((list_ok F hL p4 hX4 (named_ok F hN) h1').mono ?_)
        rintro o h5 ⟨f5, rfl⟩
        exact ⟨rfl, f04.trans f5, rfl⟩
      refine Wo_call ((list_ok F hL p4 hX4 (named_ok F hN) h1').mono ?_)
      rintro o h5 ⟨f5, kv, rfl, o5, p5⟩
      show Wo T _ _ _
      refine (Wo_run (fun call => by simp only [go_sem, seval]; rfl) ?_)
      show Wc T _ _ _
      have hg5 : h5.get h2.next = some (.cells t.cells true 0) := by rw [(f4.trans f5).get _ hlt3 (by omega) no4]; exact hg3
      refine Wc_seq (Wc_ops (Wo_pre 6 (fun call => by simp only [go_sem, seval, hg5, Tok.cells]; rfl) ?_))
      refine Wo_node F (p5.weaken fun b hb => .inl hb) (f04.trans f5) (o5.kids (h0 := h) hX4) hs rfl fun n st' h7 hr f7 p7 => ?_
      refine (Wo_run (fun call => by simp only [go_sem, seval]; rfl) ?_)
      subst hr
      exact Wc_ret ⟨rfl, [.int .i64 n], by simp only [resAll, resV, upd, dstUpd, reduceIte, Nat.reduceEqDiff], f7, rfl, p7⟩
    | false =>
      simp only [fnS] at hs
      refine Wc_cond false (by first | rfl | assumption) (fun e => by cases e) (fun _ => Wc_skip ?_)
      show Wc T _ _ _
      refine Wc_seq (Wc_ops (Wo_pre 1 (fun call => by simp only [go_sem, seval]; rfl) ?_))
      rcases andS_some hs with ⟨a, er, h1', rfl⟩ | ⟨u, st2, h1', hs⟩
      · refine Wo_call ((want_ok F p1 h1').mono ?_)
        rintro o h2 ⟨f2, rfl⟩
        exact ⟨rfl, f1.trans f2, rfl⟩
      refine Wo_call ((want_ok F p1 h1').mono ?_)
      rintro o h2 ⟨f2, rfl, p2⟩
      show Wo T _ _ _
      refine Wo_nil ?_
      show Wc T _ _ _
      have f02 := f1.trans f2
      refine Wc_seq (Wc_ops (Wo_pre 1 (fun call => by simp only [go_sem, seval]; rfl) ?_))
      rcases andS_some hs with ⟨a, er, h1', rfl⟩ | ⟨t, st3, h1', hs⟩
      · refine Wo_call ((name_ok F p2 h1').mono ?_)
        rintro o h3 ⟨f3, rfl⟩
        exact ⟨rfl, f02.trans f3, rfl⟩
      refine Wo_call ((name_ok F p2 h1').mono ?_)
      rintro o h3 ⟨f3, rfl, p3⟩
      show Wo T _ _ _
      refine Wo_op (v := ptr h3.next 0) (h' := h3.new (.cells z5 true 0)) rfl ?_
      refine Wo_store_new (cs := t.cells) (h := h3) (by first | rfl | assumption) (by first | rfl | assumption) rfl rfl fun h4 n4 => Wo_nil ?_
      show Wc T _ _ _
      have p4 := p3.keep n4.kept
      have f04 := (f02.trans f3).trans (n4.kept.pfr pb)
      have hg4 := n4.get
      have hlt4 : h3.next < h4.next := by rw [n4.next]; exact Nat.lt_succ_self _
      have hpb3 := p3.lt
      have no4 : ∀ cs, h4.get h3.next ≠ some (.cells cs true 4) := fun cs e => by rw [hg4] at e; simp at e
      refine Wc_seq (Wc_ops (Wo_pre 1 (fun call => by simp only [go_sem, seval]; rfl) ?_))
      rcases andS_some hs with ⟨a, er, h1', rfl⟩ | ⟨u, st4, h1', hs⟩
      · refine Wo_call ((want_ok F p4 h1').mono ?_)
        rintro o h5 ⟨f5, rfl⟩
        exact ⟨rfl, f04.trans f5, rfl⟩
      refine Wo_call ((want_ok F p4 h1').mono ?_)
      rintro o h5 ⟨f5, rfl, p5⟩
      show Wo T _ _ _
      refine Wo_nil ?_
      show Wc T _ _ _
      have f05 := f04.trans f5
      have hX5 : ∀ b, X b → b < h5.next := fun b hb => Nat.lt_of_lt_of_le (hX b hb) f05.next
      refine Wc_seq (Wc_ops (Wo_pre 1 (fun call => by simp only [go_sem, seval]; rfl) ?_))
      rcases andS_some hs with ⟨a, er, h1', rfl⟩ | ⟨kids, st5, h1', hs⟩
      · refine Wo_call ((list_ok F hL p5 hX5 (named_ok F hN) h1').mono ?_)
        rintro o h6 ⟨f6, rfl⟩
        exact ⟨rfl, f05.trans f6, rfl⟩
      refine Wo_call ((list_ok F hL p5 hX5 (named_ok F hN) h1').mono ?_)
      rintro o h6 ⟨f6, kv, rfl, o6, p6⟩
      show Wo T _ _ _
      refine (Wo_run (fun call => by simp only [go_sem, seval]; rfl) ?_)
      show Wc T _ _ _
      by_cases hkl : 1000000 < kids.length
      · rw [if_pos hkl] at hs; cases hs
      rw [if_neg hkl] at hs
      have f06 := f05.trans f6
      have hX6 := XO_lt (fun b hb => Nat.lt_of_lt_of_le (hX b hb) f06.next) o6
      refine Wc_seq (Wc_ops (Wo_pre 2 (fun call => by simp only [go_sem, seval]; rfl) ?_))
      rcases andS_some hs with ⟨a, er, h1', rfl⟩ | ⟨b, st6, h1', hs⟩
      · refine Wo_call ((hbl _ _ h6 _ p6 hX6 h1').mono ?_)
        rintro o h7 ⟨f7, rfl⟩
        exact ⟨rfl, f06.trans f7, rfl⟩
      refine Wo_call ((hbl _ _ h6 _ p6 hX6 h1').mono ?_)
      rintro o h7 ⟨f7, rfl, p7⟩
      show Wo T _ _ _
      have o7 := o6.pfr p6 f7
      have f57 := f6.trans f7
      refine Wo_new (v := .slice (some ⟨h7.next, 0, none⟩) 1 1) (B := .cells [.int .i64 (b : Int)] true 1) (by rfl) fun h8 n8 => ?_
      obtain ⟨v', h9, ha, o9, p9, f9⟩ := list_add (b : Int) p7 o7 f57 (Nat.le_refl _) f57.next (by omega) n8
      refine Wo_op (v := v') (h' := h9) (by simp only [iop, ev, upd, dstUpd, reduceIte, Nat.reduceEqDiff]; exact ha) ?_
      refine (Wo_run (fun call => by simp only [go_sem, seval]; rfl) ?_)
      show Wc T _ _ _
      have hg9 : h9.get h3.next = some (.cells t.cells true 0) := by rw [(f5.trans f9).get _ hlt4 (by omega) no4]; exact hg4
      refine Wc_seq (Wc_ops (Wo_pre 6 (fun call => by simp only [go_sem, seval, hg9, Tok.cells]; rfl) ?_))
      refine Wo_node F (p9.weaken fun b hb => .inl hb) (f05.trans f9) (o9.kids (h0 := h) hX5) hs rfl fun n st' h10 hr f10 p10 => ?_
      refine (Wo_run (fun call => by simp only [go_sem, seval]; rfl) ?_)
      subst hr
      exact Wc_ret ⟨rfl, [.int .i64 n], by simp only [resAll, resV, upd, dstUpd, reduceIte, Nat.reduceEqDiff], f10, rfl, p10⟩
end Go.Idl
end
