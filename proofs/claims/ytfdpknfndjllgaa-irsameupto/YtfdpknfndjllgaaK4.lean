/- IrUses at the ideal level. -/
import Derived.Test.YtfdpknfndjllgaaK3
namespace Go.Idl
set_option linter.unusedVariables false
set_option linter.unusedSimpArgs false
set_option maxRecDepth 100000
open Go.Proofs

theorem T1_4 : T1.fn 4 = some C4 := by
  have h : cfn Try.prog Try.f4 = some C4 := by kernel_rfl
  simp only [T1, T0, Tb0, setPrim, Try.func4, Option.bind_some, h]; rfl
theorem T1_11 : T1.fn 11 = some C11 := by
  have h : cfn Try.prog Try.f11 = some C11 := by kernel_rfl
  simp only [T1, T0, Tb0, setPrim, Try.func11, Option.bind_some, h]; rfl
theorem T1_12 : T1.fn 12 = some C12 := by
  have h : cfn Try.prog Try.f12 = some C12 := by kernel_rfl
  simp only [T1, T0, Tb0, setPrim, Try.func12, Option.bind_some, h]; rfl
theorem T1_13 : T1.fn 13 = some C13 := by
  have h : cfn Try.prog Try.f13 = some C13 := by kernel_rfl
  simp only [T1, T0, Tb0, setPrim, Try.func13, Option.bind_some, h]; rfl
theorem T1_14 : T1.fn 14 = some C14 := by
  have h : cfn Try.prog Try.f14 = some C14 := by kernel_rfl
  simp only [T1, T0, Tb0, setPrim, Try.func14, Option.bind_some, h]; rfl
theorem T1_15 : T1.fn 15 = some C15 := by
  have h : cfn Try.prog Try.f15 = some C15 := by kernel_rfl
  simp only [T1, T0, Tb0, setPrim, Try.func15, Option.bind_some, h]; rfl
theorem T1_26 : T1.fn 26 = some C26 := by
  have h : cfn Try.prog Try.f26 = some C26 := by kernel_rfl
  simp only [T1, T0, Tb0, setPrim, Try.func26, Option.bind_some, h]; rfl
theorem T1_28 : T1.fn 28 = some C28 := by
  have h : cfn Try.prog Try.f28 = some C28 := by kernel_rfl
  simp only [T1, T0, Tb0, setPrim, Try.func28, Option.bind_some, h]; rfl

theorem law4 {x : Ins} {h : Heap} (hx : intsAt h x.lv x.l) : Wk T1 (.fn 4) [x.val] h (fun o h' => o = .ret (.bool true)) := by
  obtain ⟨pl, cl, hlv⟩ := hx.len
  refine Wk_fn T1_4 (by simp [C4]) ?_
  simp only [C4]
  have hb : iop (.box (.t 0)) (args0 [x.val]) h = some (ptr h.next 0, h.new (.cells x.cells true 0)) := by simp [iop, ev, args0, Ins.val, cellsOf]
  refine Wc_seq (Wc_ops (Wo_op hb (Wo_run (fun call => by simp only [List.drop_succ_cons, List.drop_zero, iops_nil, iops_op, iops_grd, iK_some, iG_true, iG_false, gval_bool, beq_true, beq_false, Bool.not_true, Bool.not_false, iop, ev, upd, dstUpd, binV, binI, unV, ptr, Heap.cell, Heap.write, cellsOf, put, args0, partL, List.getD_cons_zero, List.getD_cons_succ, List.length_cons, List.length_nil, List.set_cons_zero, List.set_cons_succ, List.getElem?_cons_zero, List.getElem?_cons_succ, reduceIte, Nat.reduceEqDiff, Nat.reduceAdd, Nat.reduceMul, Nat.reduceLeDiff, Nat.zero_add, Nat.add_zero, Option.map_some, Int.reduceEq, Int.reduceLT, Int.reduceLE, Bool.false_eq_true, decide_true, decide_false, ge_iff_le, gt_iff_lt, set_get']; rfl) ?_)))
  show Wc _ _ _ _
  have hg : (h.new (.cells x.cells true 0)).get h.next = some (.cells x.cells true 0) := new_get' _ _
  have hk : Kept h (h.new (.cells x.cells true 0)) := (Kept.refl h).new _
  have hn : (h.new (.cells x.cells true 0)).next = h.next + 1 := rfl
  generalize h.new (.cells x.cells true 0) = h1 at hg hk hn ⊢
  refine Wc_seq (Wc_seq (Wc_ops (Wo_call (wake7 ?_))))
  show Wo _ _ _ _
  refine (Wo_run (fun call => by simp only [List.drop_succ_cons, List.drop_zero, iops_nil, iops_op, iops_grd, iK_some, iG_true, iG_false, gval_bool, beq_true, beq_false, Bool.not_true, Bool.not_false, iop, ev, upd, dstUpd, binV, binI, unV, ptr, Heap.cell, Heap.write, cellsOf, put, args0, partL, List.getD_cons_zero, List.getD_cons_succ, List.length_cons, List.length_nil, List.set_cons_zero, List.set_cons_succ, List.getElem?_cons_zero, List.getElem?_cons_succ, reduceIte, Nat.reduceEqDiff, Nat.reduceAdd, Nat.reduceMul, Nat.reduceLeDiff, Nat.zero_add, Nat.add_zero, Option.map_some, Int.reduceEq, Int.reduceLT, Int.reduceLE, Bool.false_eq_true, decide_true, decide_false, ge_iff_le, gt_iff_lt, set_get']; rfl) ?_)
  show Wc _ _ _ _
  refine Wc_cond false (by simp [ev, upd]) (fun h => by cases h) (fun _ => Wc_skip ?_)
  show Wc _ _ _ _
  have out : ∀ (e' : Env) (hp' : Heap), e' 2 = .bool true → ((Ex.ret = .normal ∨ Ex.ret = .ret) ∧ some ([] : List Dfr) = some [] ∧ ∃ vs, resAll e' hp' [.tmp 2] = some vs ∧ Out.ret (tup vs) = .ret (.bool true)) := by
    intro e' hp' h4
    exact ⟨.inr rfl, rfl, [.bool true], by simp only [resAll, resV, h4], rfl⟩
  refine Wc_seq (Wc_seq (Wc_ops (Wo_run (fun call => by simp only [List.drop_succ_cons, List.drop_zero, iops_nil, iops_op, iops_grd, iK_some, iG_true, iG_false, gval_bool, beq_true, beq_false, Bool.not_true, Bool.not_false, iop, ev, upd, dstUpd, binV, binI, unV, ptr, Heap.cell, Heap.write, cellsOf, put, args0, partL, List.getD_cons_zero, List.getD_cons_succ, List.length_cons, List.length_nil, List.set_cons_zero, List.set_cons_succ, List.getElem?_cons_zero, List.getElem?_cons_succ, reduceIte, Nat.reduceEqDiff, Nat.reduceAdd, Nat.reduceMul, Nat.reduceLeDiff, Nat.zero_add, Nat.add_zero, Option.map_some, Int.reduceEq, Int.reduceLT, Int.reduceLE, Bool.false_eq_true, decide_true, decide_false, ge_iff_le, gt_iff_lt, set_get', hg, Ins.cells, hlv]; rfl) ?_)))
  show Wc _ _ _ _
  refine Wc_cond (decide ((100 : Int) < x.l.length)) (by simp [ev, upd]) (fun _ => ?_) (fun hle => Wc_skip ?_)
  · refine Wc_seq (Wc_ops (Wo_run (fun call => by simp only [List.drop_succ_cons, List.drop_zero, iops_nil, iops_op, iops_grd, iK_some, iG_true, iG_false, gval_bool, beq_true, beq_false, Bool.not_true, Bool.not_false, iop, ev, upd, dstUpd, binV, binI, unV, ptr, Heap.cell, Heap.write, cellsOf, put, args0, partL, List.getD_cons_zero, List.getD_cons_succ, List.length_cons, List.length_nil, List.set_cons_zero, List.set_cons_succ, List.getElem?_cons_zero, List.getElem?_cons_succ, reduceIte, Nat.reduceEqDiff, Nat.reduceAdd, Nat.reduceMul, Nat.reduceLeDiff, Nat.zero_add, Nat.add_zero, Option.map_some, Int.reduceEq, Int.reduceLT, Int.reduceLE, Bool.false_eq_true, decide_true, decide_false, ge_iff_le, gt_iff_lt, set_get']; rfl) ?_))
    exact Wc_ret (out _ _ (by simp [upd, dstUpd]))
  show Wc _ _ _ _
  have hl : x.l.length ≤ 1000 := by simp at hle; omega
  have hload : ∀ {hp : Heap}, hp.get h.next = some (.cells x.cells true 0) → hp.cells h.next 0 6 = some x.cells := by
    intro hp hg
    simp only [Heap.cells, hg]
    rfl
  refine Wc_seq (Wc_draw ?_)
  refine Wd_R rfl (by simp only [iop, ev, dstUpd, upd, reduceIte, Nat.reduceEqDiff, ptr, hload hg, Option.map_some]; rfl) (fun p hp => (by cases hp)) ?_
  refine Wd_call ?_
  show Wk _ (.fn 12) [x.val] h1 _
  refine (reads12 T1_12 T1_26 of25' x h1 (hx.keep hk) hl).mono fun o h2 ⟨hk2, v2, ho2, hv2⟩ => ?_
  subst ho2
  have hg2 : h2.get h.next = some (.cells x.cells true 0) := by rw [hk2.get _ (by omega)]; exact hg
  refine ⟨fun p hp => ?_, ?_⟩
  · simp only [List.mem_singleton] at hp
    subst hp; exact .inl (by simp)
  refine Wd_R rfl (by simp only [iop, ev, dstUpd, upd, reduceIte, Nat.reduceEqDiff, ptr, hload hg2, Option.map_some]; rfl) (fun p hp => ?_) ?_
  · simp only [List.mem_singleton] at hp
    subst hp
    refine .inr ?_
    simp only [locOp, ev, dstUpd, upd, reduceIte, Nat.reduceEqDiff, ptr]
    exact sameAt_kept hk2 (by omega)
  refine Wd_call ?_
  show Wk _ (.fn 13) [x.val] h2 _
  refine (reads13 T1_13 T1_28 row27' x h2 ((hx.keep hk).keep hk2) hl).mono fun o h3 ⟨hk3, v3, ho3, hv3⟩ => ?_
  subst ho3
  have hg3 : h3.get h.next = some (.cells x.cells true 0) := by rw [hk3.get _ (by have := hk2.next; omega)]; exact hg2
  have hrl : (readsOf x).length < 4611686018427387904 := by
    have h1 := flatMap_len (n := 1001) (rd x) (f := lets x) (fun c => by unfold lets; split; exact Nat.le_succ_of_le hl; exact Nat.succ_le_succ (Nat.zero_le _))
    have h2 := (rd_ok x).1
    unfold readsOf
    omega
  refine ⟨fun p hp => ?_, ?_⟩
  · simp only [List.mem_cons, List.not_mem_nil, or_false] at hp
    rcases hp with rfl | rfl <;> exact .inl (by simp)
  refine Wd_call ?_
  show Wk _ (.fn 11) [v2, v3] h3 _
  refine (ints11 T1_11 (hv2.keep hk3) hv3 hrl).mono fun o h4 ⟨hh4, ho4⟩ => ?_
  subst hh4 ho4
  refine ⟨fun p hp => ?_, ?_⟩
  · simp only [List.mem_cons, List.not_mem_nil, or_false] at hp
    rcases hp with rfl | rfl <;> exact .inl (by simp)
  refine Wd_P rfl (by simp only [iop, ev, dstUpd, upd, reduceIte, Nat.reduceEqDiff, decide_true]; rfl) ?_
  refine Wd_take (by simp only [dstUpd, upd, reduceIte, Nat.reduceEqDiff, gval_bool]; rfl) ?_
  refine Wd_R rfl (by simp only [iop, ev, dstUpd, upd, reduceIte, Nat.reduceEqDiff, ptr, hload hg3, Option.map_some]; rfl) (fun p hp => ?_) ?_
  · simp only [List.mem_cons, List.not_mem_nil, or_false] at hp
    rcases hp with rfl | rfl | rfl <;> exact .inl (by simp)
  refine Wd_take (by simp only [dstUpd, upd, reduceIte, Nat.reduceEqDiff, gval_bool]; rfl) ?_
  refine Wd_call ?_
  show Wk _ (.fn 14) [x.val] h4 _
  refine (writes14 T1_14 of25' x h4).mono fun o h5 ⟨hk5, ho5⟩ => ?_
  subst ho5
  have hg5 : h5.get h.next = some (.cells x.cells true 0) := by rw [hk5.get _ (by have := hk2.next; have := hk3.next; omega)]; exact hg3
  refine ⟨fun p hp => ?_, ?_⟩
  · simp only [List.mem_cons, List.not_mem_nil, or_false] at hp
    rcases hp with rfl | rfl | rfl <;> exact .inl (by simp)
  refine Wd_take (by simp only [dstUpd, upd, reduceIte, Nat.reduceEqDiff, gval_bool]; rfl) ?_
  refine Wd_R rfl (by simp only [iop, ev, dstUpd, upd, reduceIte, Nat.reduceEqDiff, ptr, hload hg5, Option.map_some]; rfl) (fun p hp => ?_) ?_
  · simp only [List.mem_cons, List.not_mem_nil, or_false] at hp
    rcases hp with rfl | rfl | rfl | rfl
    · refine .inr ?_
      simp only [locOp, ev, dstUpd, upd, reduceIte, Nat.reduceEqDiff, ptr]
      exact sameAt_kept hk5 (by have := hk2.next; have := hk3.next; omega)
    all_goals exact .inl (by simp)
  refine Wd_take (by simp only [dstUpd, upd, reduceIte, Nat.reduceEqDiff, gval_bool]; rfl) ?_
  refine Wd_call ?_
  show Wk _ (.fn 15) [x.val] h5 _
  refine (writes15 T1_15 row27' x h5).mono fun o h6 ⟨hk6, ho6⟩ => ?_
  subst ho6
  refine ⟨fun p hp => ?_, ?_⟩
  · simp only [List.mem_cons, List.not_mem_nil, or_false] at hp
    rcases hp with rfl | rfl | rfl | rfl <;> exact .inl (by simp)
  refine Wd_take (by simp only [dstUpd, upd, reduceIte, Nat.reduceEqDiff, gval_bool]; rfl) ?_
  refine Wd_P rfl (by simp only [iop, ev, dstUpd, upd, reduceIte, Nat.reduceEqDiff, binV, binI, beq_self_eq_true, Option.map_some]; rfl) ?_
  refine Wd_P rfl (by simp only [iop, ev, dstUpd, upd, reduceIte, Nat.reduceEqDiff]; rfl) ?_
  refine Wd_P rfl (by simp only [iop, ev, dstUpd, upd, reduceIte, Nat.reduceEqDiff]; rfl) ?_
  refine Wd_nil ?_
  show Wc _ _ _ _
  exact Wc_ret (out _ _ (by simp [upd, dstUpd]))

end Go.Idl
