/- Regions whose order is open: what each kind of operation looks at; cut maps; heaps in part. -/
import Derived.Test.YtfdpknfndjllgaaI5
namespace Go.Idl
set_option linter.unusedVariables false
set_option linter.unusedSimpArgs false

theorem quiet_of_kd {P : Program} {op : Op} {q : IOp} (hc : cop P op = some q) (hk : kdOp q = .P ∨ kdOp q = .R) : loudOp op = false := by
  have no : ∀ {o : Option IOp} {f : Opd → IOp}, True := fun {_ _} => trivial
  cases hl : loudOp op with
  | false => rfl
  | true =>
    exfalso
    unfold loudOp at hl
    split at hl
    case h_1 => simp only [cop] at hc; obtain ⟨a, _, rfl⟩ := opt_map hc; simp [kdOp] at hk
    case h_2 => simp only [cop] at hc; obtain ⟨a, _, rfl⟩ := opt_map hc; simp [kdOp] at hk
    case h_3 =>
      simp only [cop] at hc
      split at hc
      · split at hc
        · split at hc
          · obtain ⟨a, _, rfl⟩ := opt_map hc; simp [kdOp] at hk
          · cases hc
        · cases hc
      · cases hc
    case h_4 =>
      simp only [cop] at hc
      split at hc
      · cases hc; simp [kdOp] at hk
      · cases hc
    case h_5 =>
      simp only [cop] at hc
      split at hc
      · split at hc
        · cases hc; simp [kdOp] at hk
        · cases hc; simp [kdOp] at hk
        · cases hc
      · cases hc
    case h_6 =>
      simp only [cop] at hc
      split at hc
      · split at hc
        · split at hc
          · cases hc; simp [kdOp] at hk
          · cases hc
        · cases hc
      · cases hc
    case h_7 =>
      simp only [cop] at hc
      split at hc
      · split at hc
        · cases hc; simp [kdOp] at hk
        · cases hc
      · cases hc
    case h_8 =>
      simp only [cop] at hc
      split at hc
      · split at hc
        · cases hc; simp [kdOp] at hk
        · cases hc
      · cases hc
    case h_9 =>
      simp only [cop] at hc
      split at hc
      · obtain ⟨a, _, rfl⟩ := opt_map hc; simp [kdOp] at hk
      · cases hc
    case h_10 x b =>
      cases b
      · simp [cop] at hc
      · simp only [cop] at hc; obtain ⟨a, _, rfl⟩ := opt_map hc; simp [kdOp] at hk
    case h_11 =>
      simp only [cop, cbuiltin] at hc
      repeat' (split at hc)
      all_goals first
        | (cases hc; done)
        | (cases hc; simp [kdOp] at hk; done)
        | simp_all
    case h_12 => cases hl

theorem iop_P {q : IOp} {e : Env} {h h' : Heap} {v : Value} (hk : kdOp q = .P) (hi : iop q e h = some (v, h')) : h' = h ∧ ∀ K, iop q e K = some (v, K) := by
  cases q <;> first | (simp [kdOp] at hk; done) | skip
  case len k x =>
    cases k <;> first | (simp [kdOp] at hk; done) | skip
    all_goals
      simp only [iop] at hi ⊢
      first
        | (cases hi; exact ⟨rfl, fun K => rfl⟩; done)
        | (generalize ev e x = y at *
           cases y <;> first | (cases hi; done) | (cases hi; exact ⟨rfl, fun K => rfl⟩))
  case minmax mx x y =>
    simp only [iop] at hi ⊢
    generalize ev e x = a at *
    generalize ev e y = b at *
    cases a <;> first | (cases hi; done) | skip
    cases b <;> first | (cases hi; done) | skip
    simp only at hi ⊢
    split at hi
    · rename_i hkk; cases hi; exact ⟨rfl, fun K => if_pos hkk⟩
    · cases hi
  all_goals
    simp only [iop] at hi ⊢
    repeat' (split at hi)
    all_goals first
      | (cases hi; done)
      | (cases hi; exact ⟨rfl, fun K => by first | rfl | simp_all⟩)
      | (obtain ⟨u, hu, hp⟩ := opt_map hi; cases hp; refine ⟨rfl, fun K => ?_⟩; first | simp [hu] | simp_all)
      | skip

theorem cells_cell {h K : Heap} {b o : Nat} (hs : h.cells b o 1 = K.cells b o 1) {v : Value} (hc : h.cell b o = some v) : K.cell b o = some v := by
  unfold Heap.cell Heap.cells at *
  cases h1 : h.get b with
  | none => rw [h1] at hc; simp at hc
  | some x =>
    rw [h1] at hc hs
    cases x <;> simp only [reduceCtorEq] at hc
    rename_i cs own esz
    have hlt : o < cs.length := (List.getElem?_eq_some_iff.1 hc).1
    simp only [if_pos (show o + 1 ≤ cs.length by omega)] at hs
    cases h2 : K.get b with
    | none => rw [h2] at hs; simp at hs
    | some y =>
      rw [h2] at hs
      cases y <;> simp only [reduceCtorEq] at hs
      rename_i cs2 own2 esz2
      simp only at hs ⊢
      split at hs
      case isFalse => cases hs
      rename_i hle
      have := congrArg (fun l => l.bind (fun l => l[0]?)) hs
      simp only [Option.bind_some] at this
      rw [List.getElem?_take, if_pos (by omega), List.getElem?_drop, List.getElem?_take, if_pos (by omega), List.getElem?_drop] at this
      simp only [Nat.add_zero] at this
      rw [← this]; exact hc

def Loc.blk? : Loc → Option Nat
  | .cells b _ _ | .blk b | .sz b _ => some b
  | .none => Option.none

theorem iop_loc {q : IOp} {e : Env} {h h' : Heap} {v : Value} (hk : kdOp q = .R) (hi : iop q e h = some (v, h')) : ∀ b, (locOp q e).blk? = some b → h.get b ≠ none := by
  intro b0 hb hn
  cases q <;> first | (simp [kdOp] at hk; done) | skip
  case load n a =>
    simp only [iop] at hi
    split at hi
    case h_2 => cases hi
    rename_i b o ha
    have : b = b0 := by cases n <;> simpa [locOp, ha, Loc.blk?] using hb
    subst this
    split at hi <;> simp [Heap.cell, Heap.cells, hn] at hi
  case lookup kk z ok m k =>
    simp only [iop] at hi
    cases hm : ev e m with
    | map a =>
      cases a with
      | none => simp [locOp, hm, Loc.blk?] at hb
      | some b =>
        have : b = b0 := by simpa [locOp, hm, Loc.blk?] using hb
        subst this
        simp [hm, hn] at hi
    | _ => simp [locOp, hm, Loc.blk?] at hb
  case len k x =>
    cases k <;> first | (simp [kdOp] at hk; done) | skip
    simp only [iop] at hi
    cases hm : ev e x with
    | map a =>
      cases a with
      | none => simp [locOp, hm, Loc.blk?] at hb
      | some b =>
        have : b = b0 := by simpa [locOp, hm, Loc.blk?] using hb
        subst this
        simp [hm, hn] at hi
    | _ => simp [locOp, hm, Loc.blk?] at hb
  case sub k x lo hi' mx =>
    simp only [iop] at hi
    cases k with
    | str => simp [locOp, Loc.blk?] at hb
    | sl size =>
      cases hx : ev e x with
      | slice a len cap =>
        cases a with
        | none => simp [locOp, hx, Loc.blk?] at hb
        | some p =>
          have : p.block = b0 := by simpa [locOp, hx, Loc.blk?] using hb
          have hz : okSzO h size (some p) = false := by simp [okSzO, okSz, this, hn]
          simp only [hx, hz, Bool.not_false, Bool.or_true, if_true] at hi
          repeat' (split at hi)
          all_goals cases hi
      | _ => simp [locOp, hx, Loc.blk?] at hb
    | ar n size =>
      cases hx : ev e x with
      | pointer a =>
        cases a with
        | none => simp [locOp, hx, Loc.blk?] at hb
        | some p =>
          have : p.block = b0 := by simpa [locOp, hx, Loc.blk?] using hb
          have hz : okSz h p.block 0 = false := by simp [okSz, this, hn]
          simp only [hx, hz, Bool.false_eq_true, if_false] at hi
          repeat' (split at hi)
          all_goals cases hi
      | _ => simp [locOp, hx, Loc.blk?] at hb

theorem iop_R {q : IOp} {e : Env} {h h' : Heap} {v : Value} (hk : kdOp q = .R) (hi : iop q e h = some (v, h')) : h' = h ∧ ∀ K, sameAt h K (locOp q e) → iop q e K = some (v, K) := by
  cases q <;> first | (simp [kdOp] at hk; done) | skip
  case load n a =>
    simp only [iop] at hi ⊢
    split at hi
    case h_2 => cases hi
    rename_i b o ha
    split at hi
    · obtain ⟨u, hu, hp⟩ := opt_map hi
      cases hp
      refine ⟨rfl, fun K hs => ?_⟩
      simp only [locOp, ha, sameAt] at hs
      simp only [cells_cell hs hu, Option.map_some]
    · obtain ⟨u, hu, hp⟩ := opt_map hi
      cases hp
      refine ⟨rfl, fun K hs => ?_⟩
      simp only [locOp, ha, sameAt] at hs
      simp only [← hs, hu, Option.map_some]
  case lookup kk z ok m k =>
    simp only [iop] at hi ⊢
    cases hm : ev e m with
    | map a =>
      cases a with
      | none =>
        simp only [hm] at hi ⊢
        repeat' (split at hi)
        all_goals first
          | (cases hi; done)
          | (cases hi; refine ⟨rfl, fun K hs => ?_⟩; simp_all)
      | some b =>
        simp only [hm] at hi ⊢
        have e2 : ∀ K, sameAt h K (locOp (.lookup kk z ok m k) e) → K.get b = h.get b := fun K hs => by simp only [locOp, hm, sameAt] at hs; exact hs.symm
        split at hi
        case h_2 => cases hi
        rename_i es k' h1 h2
        refine ⟨by split at hi <;> cases hi <;> rfl, fun K hs => ?_⟩
        rw [e2 K hs, h1, h2]
        simp only
        split at hi <;> cases hi <;> rename_i hf <;> simp [hf]
    | _ => simp [hm] at hi
  case len k x =>
    cases k <;> first | (simp [kdOp] at hk; done) | skip
    simp only [iop] at hi ⊢
    split at hi <;> first | (cases hi; done) | skip
    all_goals first | (cases ‹LenK.mp = _›; done) | skip
    · rename_i hx; cases hi; exact ⟨rfl, fun K hs => by simp [hx]⟩
    · rename_i b _ hx
      split at hi
      · rename_i hg
        cases hi
        refine ⟨rfl, fun K hs => ?_⟩
        simp only [locOp, hx, sameAt] at hs
        simp [hx, ← hs, hg]
      · cases hi
  case sub k x lo hi' mx =>
    have hcong : ∀ K, sameAt h K (locOp (.sub k x lo hi' mx) e) → iop (.sub k x lo hi' mx) e K = (iop (.sub k x lo hi' mx) e h).map fun p => (p.1, K) := by
      intro K hs
      simp only [iop]
      cases k with
      | str =>
        cases ev e x <;> try rfl
        simp only
        split
        · split
          · split <;> rfl
          · rfl
        · rfl
      | sl size =>
        cases hx : ev e x <;> try rfl
        rename_i a len cap
        have hz : okSzO K size a = okSzO h size a := by
          cases a with
          | none => rfl
          | some p => simp only [locOp, hx, sameAt] at hs; simp only [okSzO]; exact hs.symm
        simp only [hz]
        clear hz
        split
        · rfl
        · split
          · split
            · split <;> rfl
            · rfl
          · rfl
      | ar n size =>
        cases hx : ev e x <;> try rfl
        rename_i a
        cases a with
        | none => rfl
        | some p =>
          simp only
          have hz : okSz K p.block 0 = okSz h p.block 0 := by simp only [locOp, hx, sameAt] at hs; exact hs.symm
          simp only [hz]
          clear hz
          split
          · split
            · split
              · split <;> rfl
              · rfl
            · rfl
          · rfl
    have hh : h' = h := by
      have := hcong h (by unfold sameAt; split <;> first | rfl | trivial)
      rw [hi] at this
      simp only [Option.map_some, Option.some.injEq, Prod.mk.injEq] at this
      exact this.2
    refine ⟨hh, fun K hs => ?_⟩
    rw [hcong K hs, hi]; rfl

def mineB : Blk → Bool
  | .cells _ true _ | .map _ _ | .siter _ _ | .loop _ | .dfr => true
  | _ => false

theorem mine_of {h : Heap} {b : Nat} {o : Blk} (hg : h.get b = some o) : mine h b ↔ mineB o = true := by
  unfold mine mineB
  rw [hg]
  cases o with
  | cells cs own esz => cases own <;> simp
  | _ => simp

theorem iop_A {q : IOp} {e : Env} {h h' : Heap} {v : Value} (hk : kdOp q = .A) (hi : iop q e h = some (v, h')) : ∃ o, h' = h.new o ∧ mineB o = true ∧ ∀ K : Heap, K.next = h.next → iop q e K = some (v, K.new o) := by
  cases q <;> first | (simp [kdOp] at hk; done) | skip
  case len k x => cases k <;> simp [kdOp] at hk
  case mkmap kk => simp only [iop] at hi ⊢; cases hi; exact ⟨_, rfl, rfl, fun K hK => by rw [hK]⟩
  case alloc z => simp only [iop] at hi ⊢; cases hi; exact ⟨_, rfl, rfl, fun K hK => by rw [hK]⟩
  all_goals
    simp only [iop] at hi ⊢
    repeat' (split at hi)
    all_goals first
      | (cases hi; done)
      | (cases hi; exact ⟨_, rfl, rfl, fun K hK => by first | (rw [hK]; done) | simp_all⟩)
      | (obtain ⟨u, hu, hp⟩ := opt_map hi; cases hp; exact ⟨_, rfl, rfl, fun K hK => by simp [hu, hK]⟩)
      | skip

/-! ### A map, cut -/

def cut (ι : Inj) (p : Nat) : Inj := fun b => if b < p then ι b else none

theorem cut_lt {ι : Inj} {p b : Nat} (h : b < p) : cut ι p b = ι b := by simp [cut, h]
theorem cut_some {ι : Inj} {p b : Nat} {i : BI} (h : cut ι p b = some i) : b < p ∧ ι b = some i := by
  unfold cut at h
  split at h
  · exact ⟨by assumption, h⟩
  · cases h
theorem cut_le (ι : Inj) (p : Nat) : (cut ι p).le ι := fun b i h => (cut_some h).2
theorem cut_mono {ι ι' : Inj} (h : ι.le ι') {p q : Nat} (hpq : p ≤ q) : (cut ι p).le (cut ι' q) := fun b i hb => by
  obtain ⟨h1, h2⟩ := cut_some hb
  rw [cut_lt (by omega)]; exact h b i h2

theorem Rep.cut {ι ι2 : Inj} {p : Nat} (hd : ∀ b i, ι2 b = some i → b < p) {v v' : Value} (h : Rep ι v v') : ∀ {u : Value}, Rep ι2 v u → Rep (Idl.cut ι p) v v' := by
  induction h with
  | bool b => intro u _; exact .bool b
  | int k n => intro u _; exact .int k n
  | string s => intro u _; exact .string s
  | pnil => intro u _; exact .pnil
  | ptr h => intro u hu; cases hu with | ptr h2 => exact .ptr (by rw [cut_lt (hd _ _ h2)]; exact h)
  | snil => intro u _; exact .snil
  | slice h h1 h2 h3 h4 => intro u hu; cases hu with | slice g => exact .slice (by rw [cut_lt (hd _ _ g)]; exact h) h1 h2 h3 h4
  | mnil => intro u _; exact .mnil
  | map h => intro u hu; cases hu with | map h2 => exact .map (by rw [cut_lt (hd _ _ h2)]; exact h)
  | @func f x y x' y' h1 _ h2 _ ih1 ih2 =>
    intro u hu
    cases hu with
    | @func _ _ _ a' b' g1 g2 g3 g4 =>
      refine .func h1 (fun k v v' e1 e2 => ?_) h2 fun k v v' e1 e2 => ?_
      · have hk : k < a'.size := by rw [← g1]; exact (Array.getElem?_eq_some_iff.1 e1).1
        exact ih1 k v v' e1 e2 (g2 k v _ e1 (Array.getElem?_eq_getElem hk))
      · have hk : k < b'.size := by rw [← g3]; exact (Array.getElem?_eq_some_iff.1 e1).1
        exact ih2 k v v' e1 e2 (g4 k v _ e1 (Array.getElem?_eq_getElem hk))
  | yld h => intro u hu; cases hu with | yld h2 => exact .yld (by rw [cut_lt (hd _ _ h2)]; exact h)
  | nilFunc => intro u _; exact .nilFunc
  | iface _ ih => intro u hu; cases hu with | iface h2 => exact .iface (ih h2)
  | nilIface => intro u _; exact .nilIface
  | @agg x x' h1 hf _ ih =>
    intro u hu
    cases hu with
    | @agg _ a' g1 g2 g3 =>
      refine .agg h1 hf fun k v v' e1 e2 => ?_
      have hk : k < a'.size := by rw [← g1]; exact (Array.getElem?_eq_some_iff.1 e1).1
      exact ih k v v' e1 e2 (g3 k v _ e1 (Array.getElem?_eq_getElem hk))
  | @tuple x x' h1 _ ih =>
    intro u hu
    cases hu with
    | @tuple _ a' g1 g3 =>
      refine .tuple h1 fun k v v' e1 e2 => ?_
      have hk : k < a'.size := by rw [← g1]; exact (Array.getElem?_eq_some_iff.1 e1).1
      exact ih k v v' e1 e2 (g3 k v _ e1 (Array.getElem?_eq_getElem hk))

/-! ### The heap in part -/

theorem brel_mine {C : Nat → IC → Code → Prop} {base : Nat} {ι : Inj} {i : BI} {o : Blk} {o' : Obj} (h : BRel C base ι i o o') (hm : mineB o = true) : base ≤ i.blk := by
  cases o <;> simp only [mineB, Bool.false_eq_true] at hm
  case cells cs own esz =>
    cases own <;> simp only [Bool.false_eq_true] at hm
    cases o' <;> simp only [BRel] at h
    exact (h.2.2.2.2.1 trivial).2
  case map => cases o' <;> simp only [BRel] at h; exact h.1
  case siter => cases o' <;> simp only [BRel] at h; exact h.1
  case loop => cases o' <;> simp only [BRel] at h; exact h.1
  case dfr =>
    unfold BRel at h
    split at h <;> simp_all

theorem brel_other {C : Nat → IC → Code → Prop} {base : Nat} {ι : Inj} {i : BI} {o : Blk} {o' : Obj} (h : BRel C base ι i o o') (hm : mineB o = false) (hd : o ≠ .dead) : i.blk < base := by
  cases o <;> simp only [mineB, reduceCtorEq] at hm
  case cells cs own esz =>
    cases own <;> simp only [reduceCtorEq] at hm
    cases o' <;> simp only [BRel] at h
    exact h.2.2.2.2.2 trivial
  case dead => exact (hd rfl).elim

/-- A world in which every block stands as it did. -/
def Grew (w w' : World) : Prop := w.heap.size ≤ w'.heap.size ∧ ∀ k, k < w.heap.size → w'.heap[k]? = w.heap[k]?

theorem Sim.grew {C : Nat → IC → Code → Prop} {base : Nat} {ι : Inj} {h : Heap} {w w' : World} (hs : Sim C base ι h w) (hg : Grew w w') : Sim C base ι h w' :=
  ⟨hs.dom, hs.vac, fun b o i h1 h2 => by
    obtain ⟨o', ho, hr⟩ := hs.blk b o i h1 h2
    exact ⟨o', by rw [hg.2 _ (Array.getElem?_eq_some_iff.1 ho).1]; exact ho, hr⟩, hs.inj⟩

theorem live_of {h : Heap} {b : Nat} {o : Blk} (hg : h.get b = some o) (hd : o ≠ .dead) : live h b := by
  unfold live; rw [hg]; cases o <;> first | exact (hd rfl).elim | trivial
theorem live_some {h : Heap} {b : Nat} (hl : live h b) : ∃ o, h.get b = some o ∧ o ≠ .dead := by
  unfold live at hl
  split at hl
  · exact hl.elim
  · exact hl.elim
  · rename_i x hd
    cases hg : h.get b with
    | none => exact (hd hg).elim
    | some o => exact ⟨o, rfl, fun e => by subst e; exact x hg⟩

end Go.Idl
