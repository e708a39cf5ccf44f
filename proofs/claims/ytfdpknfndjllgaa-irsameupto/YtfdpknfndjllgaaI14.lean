/- More rules for proofs. -/
import Derived.Test.YtfdpknfndjllgaaI13
namespace Go.Idl
set_option linter.unusedVariables false
set_option linter.unusedSimpArgs false

variable {T : Tbl}

theorem Wo_run {T : Tbl} {l : List Step} {s s' : St} {Q : Option Value → St → Prop} (h : ∀ call : CallF, iops call l s = some (none, s')) (k : Q none s') : Wo T l s Q := ⟨0, none, s', h _, k⟩

theorem iops_append (call : CallF) : ∀ (a b : List Step) {s s' : St}, iops call a s = some (none, s') → iops call (a ++ b) s = iops call b s'
  | [], b, s, s', h => by simp only [iops, Option.some.injEq, Prod.mk.injEq, true_and] at h; subst h; rfl
  | x :: a, b, s, s', h => by
    simp only [iops] at h
    simp only [List.cons_append, iops]
    split
    · rename_i hw
      rw [if_pos hw] at h
      split
      · rename_i s1 hs; rw [hs] at h; exact iops_append call a b h
      · rename_i hs
        exfalso
        split at h
        · rename_i s1 h1; exact hs s1 h1
        · exact hs _ h
    · rename_i hw
      rw [if_neg hw] at h
      exact iops_append call a b h

/-- The first n operations, none of them a call. -/
theorem Wo_pre (n : Nat) {l : List Step} {s s' : St} {Q : Option Value → St → Prop} (h : ∀ call : CallF, iops call (l.take n) s = some (none, s')) (k : Wo T (l.drop n) s' Q) : Wo T l s Q := by
  obtain ⟨m, r, s2, h1, h2⟩ := k
  refine ⟨m, r, s2, ?_, h2⟩
  rw [← List.take_append_drop n l, iops_append _ _ _ (h _), h1]

theorem Wo_take {dst : Option Nat} {m : Stm} {l : List Step} {e : Env} {hp : Heap} {d : Option (List Dfr)} {j : Nat} {w : Bool} {Q : Option Value → St → Prop} (hg : gval (e j) w = true) (h : Wo T (⟨dst, m, none⟩ :: l) ⟨e, hp, d⟩ Q) : Wo T (⟨dst, m, some (j, w)⟩ :: l) ⟨e, hp, d⟩ Q := by
  obtain ⟨n, r, s', h1, h2⟩ := h
  exact ⟨n, r, s', by rw [iops_grd, hg]; exact h1, h2⟩
theorem Wo_leave {dst : Option Nat} {m : Stm} {l : List Step} {e : Env} {hp : Heap} {d : Option (List Dfr)} {j : Nat} {w : Bool} {Q : Option Value → St → Prop} (hg : gval (e j) w = false) (h : Wo T l ⟨dstUpd e dst undef, hp, d⟩ Q) : Wo T (⟨dst, m, some (j, w)⟩ :: l) ⟨e, hp, d⟩ Q := by
  obtain ⟨n, r, s', h1, h2⟩ := h
  exact ⟨n, r, s', by rw [iops_grd, hg]; exact h1, h2⟩

theorem wrap64 {x : Int} (h1 : -9223372036854775808 ≤ x) (h2 : x ≤ 9223372036854775807) : IntKind.i64.wrap x = x := by
  simp [IntKind.wrap, IntKind.signed, IntKind.bits]; omega
theorem idx_ok {n len : Nat} (h : n < len) : idxV len (.int .i64 n) = some n := by simp [idxV, h]
theorem set_get' (h : Heap) (b : Nat) (o : Blk) : (h.set b o).get b = some o := by simp [Heap.set]
theorem set_get_ne' (h : Heap) (o : Blk) {b c : Nat} (hb : c ≠ b) : (h.set b o).get c = h.get c := by simp [Heap.set, hb]
theorem new_get' (h : Heap) (o : Blk) : (h.new o).get h.next = some o := by simp [Heap.new]
theorem new_get_ne' (h : Heap) (o : Blk) {c : Nat} (hb : c ≠ h.next) : (h.new o).get c = h.get c := by simp [Heap.new, hb]
theorem new_next (h : Heap) (o : Blk) : (h.new o).next = h.next + 1 := rfl
theorem set_next (h : Heap) (b : Nat) (o : Blk) : (h.set b o).next = h.next := rfl

/-! ### Regions whose order is open, step by step -/

theorem Wc_draw {l : List Step} {anc : List (List Nat)} {s : St} {Q : Ex → St → Prop} (h : Wd T anc (l.filterMap (·.dst)) l 0 [] [] s (To Q)) : Wc T (.draw l anc) s Q := by
  obtain ⟨n, r, s', h1, h2⟩ := h
  cases r with
  | none => exact ⟨n, .normal, s', by simp only [icode, h1, exOf], h2⟩
  | some v => exact ⟨n, .pan v, s', by simp only [icode, h1, exOf], h2⟩

section
variable {anc : List (List Nat)} {ds : List Nat} {dst : Option Nat} {o : IOp} {l : List Step} {i : Nat} {rs : List (Nat × Loc)} {es : List (Nat × Heap × Heap)} {e : Env} {hp h' : Heap} {d : Option (List Dfr)} {v : Value} {Q : Option Value → St → Prop}

theorem Wd_nil {s : St} (h : Q none s) : Wd T anc ds [] i rs es s Q := ⟨0, none, s, rfl, h⟩
theorem Wd_P (hk : kdOp o = .P) (hi : iop o e hp = some (v, h')) (k : Wd T anc ds l (i + 1) rs es ⟨dstUpd e dst v, h', d⟩ Q) : Wd T anc ds (⟨dst, .op o, none⟩ :: l) i rs es ⟨e, hp, d⟩ Q := by
  obtain ⟨n, r, s', h1, h2⟩ := k
  exact ⟨n, r, s', by simp only [idraw, wantedE, if_true, istm, hi, kdStm, hk]; exact h1, h2⟩
theorem Wd_A (hk : kdOp o = .A) (hi : iop o e hp = some (v, h')) (k : Wd T anc ds l (i + 1) ((i, .blk hp.next) :: rs) es ⟨dstUpd e dst v, h', d⟩ Q) : Wd T anc ds (⟨dst, .op o, none⟩ :: l) i rs es ⟨e, hp, d⟩ Q := by
  obtain ⟨n, r, s', h1, h2⟩ := k
  exact ⟨n, r, s', by simp only [idraw, wantedE, if_true, istm, hi, kdStm, hk]; exact h1, h2⟩
theorem Wd_R (hk : kdOp o = .R) (hi : iop o e hp = some (v, h')) (hc : ∀ p ∈ es, p.1 ∈ anc.getD i [] ∨ sameAt p.2.1 p.2.2 (locOp o e)) (k : Wd T anc ds l (i + 1) ((i, locOp o e) :: rs) es ⟨dstUpd e dst v, h', d⟩ Q) : Wd T anc ds (⟨dst, .op o, none⟩ :: l) i rs es ⟨e, hp, d⟩ Q := by
  obtain ⟨n, r, s', h1, h2⟩ := k
  refine ⟨n, r, s', ?_, h2⟩
  simp only [idraw, wantedE, if_true, istm, hi, kdStm, hk]
  exact (if_pos hc).trans h1
theorem Wd_E (hk : kdOp o = .E) (hi : iop o e hp = some (v, h')) (hc : ∀ p ∈ rs, p.1 ∈ anc.getD i [] ∨ sameAt hp h' p.2) (k : Wd T anc ds l (i + 1) rs ((i, hp, h') :: es) ⟨dstUpd e dst v, h', d⟩ Q) : Wd T anc ds (⟨dst, .op o, none⟩ :: l) i rs es ⟨e, hp, d⟩ Q := by
  obtain ⟨n, r, s', h1, h2⟩ := k
  refine ⟨n, r, s', ?_, h2⟩
  simp only [idraw, wantedE, if_true, istm, hi, kdStm, hk]
  exact (if_pos hc).trans h1
end

section
variable {anc : List (List Nat)} {ds : List Nat} {dst : Option Nat} {m : Stm} {l : List Step} {i : Nat} {rs : List (Nat × Loc)} {es : List (Nat × Heap × Heap)} {e : Env} {hp : Heap} {d : Option (List Dfr)} {Q : Option Value → St → Prop}

theorem Wd_take {j : Nat} {w : Bool} (hg : gval (e j) w = true) (h : Wd T anc ds (⟨dst, m, none⟩ :: l) i rs es ⟨e, hp, d⟩ Q) : Wd T anc ds (⟨dst, m, some (j, w)⟩ :: l) i rs es ⟨e, hp, d⟩ Q := by
  obtain ⟨n, r, s', h1, h2⟩ := h
  refine ⟨n, r, s', ?_, h2⟩
  have hw : wantedE e (some (j, w)) = true := by simp only [wantedE]; unfold gval at hg; split at hg <;> simp_all
  simp only [idraw, wantedE, if_true] at h1
  simp only [idraw, hw, if_true]
  exact h1
theorem Wd_leave {j : Nat} {w : Bool} (hg : gval (e j) w = false) (h : Wd T anc ds l (i + 1) rs es ⟨dstUpd e dst undef, hp, d⟩ Q) : Wd T anc ds (⟨dst, m, some (j, w)⟩ :: l) i rs es ⟨e, hp, d⟩ Q := by
  obtain ⟨n, r, s', h1, h2⟩ := h
  refine ⟨n, r, s', ?_, h2⟩
  have hw : wantedE e (some (j, w)) = false := by simp only [wantedE]; unfold gval at hg; split at hg <;> simp_all
  simp only [idraw, hw, Bool.false_eq_true, if_false]
  exact h1

theorem idraw_le {n k : Nat} (h : n ≤ k) {s : St} {r : Option Value × St} (hi : idraw (icall T n) anc ds l i rs es s = some r) : idraw (icall T k) anc ds l i rs es s = some r := idraw_mono (icall_mono T h) hi

theorem Wd_call {f : FuncId} {args : List Opd} (h : Wk T (.fn f) (args.map (ev e)) hp (fun out h' => match out with
    | .ret v => (∀ p ∈ rs, p.1 ∈ anc.getD i [] ∨ sameAt hp h' p.2) ∧ Wd T anc ds l (i + 1) rs ((i, hp, h') :: es) ⟨dstUpd e dst v, h', d⟩ Q | .pan v => False)) : Wd T anc ds (⟨dst, .call f args, none⟩ :: l) i rs es ⟨e, hp, d⟩ Q := by
  obtain ⟨n, out, h', h1, h2⟩ := h
  cases out with
  | pan v => exact h2.elim
  | ret v =>
    obtain ⟨hc, k, r, s', h3, h4⟩ := h2
    refine ⟨max n k, r, s', ?_, h4⟩
    have hm : istm (icall T (max n k)) dst (.call f args) ⟨e, hp, d⟩ = some (none, ⟨dstUpd e dst v, h', d⟩) := by
      simp only [istm, icall_mono T (Nat.le_max_left n k) _ _ _ _ h1, afterCall]
    simp only [idraw, wantedE, if_true, hm, kdStm]
    exact (if_pos hc).trans (idraw_le (Nat.le_max_right n k) h3)
end

theorem sameAt_kept {h h' : Heap} (hk : Kept h h') {b o n : Nat} (hb : b < h.next) : sameAt h h' (.cells b o n) := by
  simp only [sameAt, Heap.cells, hk.get b hb]

theorem sameAt_cells {h : Heap} {b c o n : Nat} {x : Blk} (hb : c ≠ b) : sameAt h (h.set b x) (.cells c o n) := by
  simp only [sameAt, Heap.cells, set_get_ne' h x hb]

end Go.Idl
