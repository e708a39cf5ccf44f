/- The program's walk of a right tree tells each node once. -/
import Derived.Test.YtlphecjgkknpnaaO5
import Derived.Test.YtlphecjgkknpnaaL2
import Derived.Test.YtlphecjgkknpnaaL7
import Derived.KernelRfl
import Derived.Test.YtlphecjgkknpnaaI21
section
/- What a kind may stand for, and how kids fit. -/
namespace Go.Idl
set_option linter.unusedVariables false
set_option linter.unusedSimpArgs false
set_option maxRecDepth 100000

variable {T : Tbl}

def lettersOf (k : Int) : ByteArray :=
  if k = 2 ∨ k = 3 then ⟨#[100]⟩ else if k = 4 then ⟨#[98, 111]⟩ else if k = 14 then ⟨#[111]⟩ else if k = 17 then ⟨#[110, 101, 112]⟩ else if k = 20 ∨ k = 21 ∨ k = 30 then ⟨#[101, 112]⟩ else if k = 22 then ⟨#[101, 99]⟩
  else if 5 ≤ k ∧ k ≤ 13 then ⟨#[115]⟩ else if 15 ≤ k ∧ k ≤ 30 then ⟨#[101]⟩ else ⟨#[]⟩

theorem letters_ok (hT : T.fn 34 = some C34) {k : Int} {h : Heap} : Wk T (.fn 34) [.int .i64 k] h (fun o h' => h' = h ∧ o = .ret (.string (lettersOf k))) := by
  refine Wk_fn hT (by simp [C34]) ?_
  simp only [C34]
  have fin : ∀ (e : Env) (x : Ex) (b : ByteArray), (x = .normal ∨ x = .ret) → e 2 = .string b → lettersOf k = b → (x = .normal ∨ x = .ret) ∧ some ([] : List Dfr) = some [] ∧ ∃ vs, resAll e h [.tmp 2] = some vs ∧ h = h ∧ Out.ret (tup vs) = .ret (.string (lettersOf k)) := fun e x b hx h4 hb =>
    ⟨hx, rfl, [.string b], by simp only [resAll, resV, h4], rfl, by rw [hb]; rfl⟩
  refine Wc_seq (Wc_ops (Wo_run (fun call => by simp only [List.drop_succ_cons, List.drop_zero, iops_nil, iops_op, iops_grd, iK_some, iG_true, iG_false, gval_bool, beq_self_eq_true, beq_true, beq_false, Bool.not_true, Bool.not_false, iop, ev, upd, dstUpd, binV, binI, unV, ptr, Heap.cell, Heap.write, cellsOf, put, args0, partL, List.getD_cons_zero, List.getD_cons_succ, List.length_cons, List.length_nil, List.set_cons_zero, List.set_cons_succ, List.getElem?_cons_zero, List.getElem?_cons_succ, reduceIte, Nat.reduceEqDiff, Nat.reduceAdd, Nat.reduceMul, Nat.reduceLeDiff, Nat.zero_add, Nat.add_zero, Option.map_some, Int.reduceEq, Int.reduceLT, Int.reduceLE, Bool.false_eq_true, decide_true, decide_false, ge_iff_le, gt_iff_lt, set_get']; rfl) ?_))
  show Wc T _ _ _
  refine Wc_seq (Wc_seq (Wc_ops (Wo_run (fun call => by simp only [List.drop_succ_cons, List.drop_zero, iops_nil, iops_op, iops_grd, iK_some, iG_true, iG_false, gval_bool, beq_self_eq_true, beq_true, beq_false, Bool.not_true, Bool.not_false, iop, ev, upd, dstUpd, binV, binI, unV, ptr, Heap.cell, Heap.write, cellsOf, put, args0, partL, List.getD_cons_zero, List.getD_cons_succ, List.length_cons, List.length_nil, List.set_cons_zero, List.set_cons_succ, List.getElem?_cons_zero, List.getElem?_cons_succ, reduceIte, Nat.reduceEqDiff, Nat.reduceAdd, Nat.reduceMul, Nat.reduceLeDiff, Nat.zero_add, Nat.add_zero, Option.map_some, Int.reduceEq, Int.reduceLT, Int.reduceLE, Bool.false_eq_true, decide_true, decide_false, ge_iff_le, gt_iff_lt, set_get']; rfl) ?_)))
  show Wc T _ _ _
  refine Wc_block ?_
  refine Wc_mid (fun s' => s'.d = some [] ∧ s'.h = h ∧ s'.e 0 = .int .i64 k ∧ s'.e 3 = .int .i64 k ∧ s'.e 4 = .bool (decide (k = 2 ∨ k = 3))) ?_ ?_
  · clear fin
    refine Wc_case (by simp only [upd, dstUpd, args0, List.getD_cons_zero, List.getD_cons_succ, reduceIte, Nat.reduceEqDiff, ptr] <;> first | rfl | assumption | (symm; assumption)) (fun y => Wc_skip ⟨rfl, rfl, (by simp only [upd, dstUpd, args0, List.getD_cons_zero, List.getD_cons_succ, reduceIte, Nat.reduceEqDiff, ptr] <;> first | rfl | assumption | (symm; assumption)), (by simp only [upd, dstUpd, args0, List.getD_cons_zero, List.getD_cons_succ, reduceIte, Nat.reduceEqDiff, ptr] <;> first | rfl | assumption | (symm; assumption)), by simp only [upd, dstUpd, reduceIte, Nat.reduceEqDiff, y, true_or, decide_true]⟩) (fun m0 => ?_)
    refine Wc_ops (Wo_run (fun call => by simp only [List.drop_succ_cons, List.drop_zero, iops_nil, iops_op, iops_grd, iK_some, iG_true, iG_false, gval_bool, beq_self_eq_true, beq_true, beq_false, Bool.not_true, Bool.not_false, iop, ev, upd, dstUpd, binV, binI, unV, ptr, Heap.cell, Heap.write, cellsOf, put, args0, partL, List.getD_cons_zero, List.getD_cons_succ, List.length_cons, List.length_nil, List.set_cons_zero, List.set_cons_succ, List.getElem?_cons_zero, List.getElem?_cons_succ, reduceIte, Nat.reduceEqDiff, Nat.reduceAdd, Nat.reduceMul, Nat.reduceLeDiff, Nat.zero_add, Nat.add_zero, Option.map_some, Int.reduceEq, Int.reduceLT, Int.reduceLE, Bool.false_eq_true, decide_true, decide_false, ge_iff_le, gt_iff_lt, set_get']; rfl) ?_)
    exact ⟨rfl, rfl, (by simp only [upd, dstUpd, args0, List.getD_cons_zero, List.getD_cons_succ, reduceIte, Nat.reduceEqDiff, ptr] <;> first | rfl | assumption | (symm; assumption)), (by simp only [upd, dstUpd, args0, List.getD_cons_zero, List.getD_cons_succ, reduceIte, Nat.reduceEqDiff, ptr] <;> first | rfl | assumption | (symm; assumption)), by simp only [upd, dstUpd, reduceIte, Nat.reduceEqDiff, Bool.beq_eq_decide_eq, m0, false_or]⟩
  rintro ⟨e, h', d⟩ ⟨hd, hh, g0, g3, g4⟩
  simp only at hd hh g0 g3 g4
  rw [hd, hh]
  refine Wc_cond _ g4 (fun y => ?_) (fun y => ?_)
  · have y := of_decide_eq_true y
    refine Wc_seq (Wc_ops (Wo_run (fun call => by simp only [List.drop_succ_cons, List.drop_zero, iops_nil, iops_op, iops_grd, iK_some, iG_true, iG_false, gval_bool, beq_self_eq_true, beq_true, beq_false, Bool.not_true, Bool.not_false, iop, ev, upd, dstUpd, binV, binI, unV, ptr, Heap.cell, Heap.write, cellsOf, put, args0, partL, List.getD_cons_zero, List.getD_cons_succ, List.length_cons, List.length_nil, List.set_cons_zero, List.set_cons_succ, List.getElem?_cons_zero, List.getElem?_cons_succ, reduceIte, Nat.reduceEqDiff, Nat.reduceAdd, Nat.reduceMul, Nat.reduceLeDiff, Nat.zero_add, Nat.add_zero, Option.map_some, Int.reduceEq, Int.reduceLT, Int.reduceLE, Bool.false_eq_true, decide_true, decide_false, ge_iff_le, gt_iff_lt, set_get']; rfl) ?_))
    exact Wc_ret (fin _ _ _ (.inr rfl) (by simp only [upd, dstUpd, args0, List.getD_cons_zero, List.getD_cons_succ, reduceIte, Nat.reduceEqDiff, ptr] <;> first | rfl | assumption | (symm; assumption)) (by rw [lettersOf, if_pos y]))
  have n2 := of_decide_eq_false y
  refine Wc_case g3 (fun y4 => ?_) (fun n4 => ?_)
  · refine Wc_seq (Wc_ops (Wo_run (fun call => by simp only [List.drop_succ_cons, List.drop_zero, iops_nil, iops_op, iops_grd, iK_some, iG_true, iG_false, gval_bool, beq_self_eq_true, beq_true, beq_false, Bool.not_true, Bool.not_false, iop, ev, upd, dstUpd, binV, binI, unV, ptr, Heap.cell, Heap.write, cellsOf, put, args0, partL, List.getD_cons_zero, List.getD_cons_succ, List.length_cons, List.length_nil, List.set_cons_zero, List.set_cons_succ, List.getElem?_cons_zero, List.getElem?_cons_succ, reduceIte, Nat.reduceEqDiff, Nat.reduceAdd, Nat.reduceMul, Nat.reduceLeDiff, Nat.zero_add, Nat.add_zero, Option.map_some, Int.reduceEq, Int.reduceLT, Int.reduceLE, Bool.false_eq_true, decide_true, decide_false, ge_iff_le, gt_iff_lt, set_get']; rfl) ?_))
    exact Wc_ret (fin _ _ _ (.inr rfl) (by simp only [upd, dstUpd, args0, List.getD_cons_zero, List.getD_cons_succ, reduceIte, Nat.reduceEqDiff, ptr] <;> first | rfl | assumption | (symm; assumption)) (by rw [lettersOf, if_neg n2, if_pos y4]))
  refine Wc_case (by simp only [upd, dstUpd, args0, List.getD_cons_zero, List.getD_cons_succ, reduceIte, Nat.reduceEqDiff, ptr, g3] <;> first | rfl | assumption | (symm; assumption)) (fun y14 => ?_) (fun n14 => ?_)
  · refine Wc_seq (Wc_ops (Wo_run (fun call => by simp only [List.drop_succ_cons, List.drop_zero, iops_nil, iops_op, iops_grd, iK_some, iG_true, iG_false, gval_bool, beq_self_eq_true, beq_true, beq_false, Bool.not_true, Bool.not_false, iop, ev, upd, dstUpd, binV, binI, unV, ptr, Heap.cell, Heap.write, cellsOf, put, args0, partL, List.getD_cons_zero, List.getD_cons_succ, List.length_cons, List.length_nil, List.set_cons_zero, List.set_cons_succ, List.getElem?_cons_zero, List.getElem?_cons_succ, reduceIte, Nat.reduceEqDiff, Nat.reduceAdd, Nat.reduceMul, Nat.reduceLeDiff, Nat.zero_add, Nat.add_zero, Option.map_some, Int.reduceEq, Int.reduceLT, Int.reduceLE, Bool.false_eq_true, decide_true, decide_false, ge_iff_le, gt_iff_lt, set_get']; rfl) ?_))
    exact Wc_ret (fin _ _ _ (.inr rfl) (by simp only [upd, dstUpd, args0, List.getD_cons_zero, List.getD_cons_succ, reduceIte, Nat.reduceEqDiff, ptr] <;> first | rfl | assumption | (symm; assumption)) (by rw [lettersOf, if_neg n2, if_neg n4, if_pos y14]))
  refine Wc_case (by simp only [upd, dstUpd, args0, List.getD_cons_zero, List.getD_cons_succ, reduceIte, Nat.reduceEqDiff, ptr, g3] <;> first | rfl | assumption | (symm; assumption)) (fun y17 => ?_) (fun n17 => ?_)
  · refine Wc_seq (Wc_ops (Wo_run (fun call => by simp only [List.drop_succ_cons, List.drop_zero, iops_nil, iops_op, iops_grd, iK_some, iG_true, iG_false, gval_bool, beq_self_eq_true, beq_true, beq_false, Bool.not_true, Bool.not_false, iop, ev, upd, dstUpd, binV, binI, unV, ptr, Heap.cell, Heap.write, cellsOf, put, args0, partL, List.getD_cons_zero, List.getD_cons_succ, List.length_cons, List.length_nil, List.set_cons_zero, List.set_cons_succ, List.getElem?_cons_zero, List.getElem?_cons_succ, reduceIte, Nat.reduceEqDiff, Nat.reduceAdd, Nat.reduceMul, Nat.reduceLeDiff, Nat.zero_add, Nat.add_zero, Option.map_some, Int.reduceEq, Int.reduceLT, Int.reduceLE, Bool.false_eq_true, decide_true, decide_false, ge_iff_le, gt_iff_lt, set_get']; rfl) ?_))
    exact Wc_ret (fin _ _ _ (.inr rfl) (by simp only [upd, dstUpd, args0, List.getD_cons_zero, List.getD_cons_succ, reduceIte, Nat.reduceEqDiff, ptr] <;> first | rfl | assumption | (symm; assumption)) (by rw [lettersOf, if_neg n2, if_neg n4, if_neg n14, if_pos y17]))
  refine Wc_mid (fun s' => s'.d = some [] ∧ s'.h = h ∧ s'.e 0 = .int .i64 k ∧ s'.e 3 = .int .i64 k ∧ s'.e 13 = .bool (decide (k = 20 ∨ k = 21 ∨ k = 30))) ?_ ?_
  · clear fin
    refine Wc_case (by simp only [upd, dstUpd, args0, List.getD_cons_zero, List.getD_cons_succ, reduceIte, Nat.reduceEqDiff, ptr, g3] <;> first | rfl | assumption | (symm; assumption)) (fun y => Wc_skip ⟨rfl, rfl, (by simp only [upd, dstUpd, args0, List.getD_cons_zero, List.getD_cons_succ, reduceIte, Nat.reduceEqDiff, ptr, g0] <;> first | rfl | assumption | (symm; assumption)), (by simp only [upd, dstUpd, args0, List.getD_cons_zero, List.getD_cons_succ, reduceIte, Nat.reduceEqDiff, ptr, g3] <;> first | rfl | assumption | (symm; assumption)), by simp only [upd, dstUpd, reduceIte, Nat.reduceEqDiff, y, true_or, decide_true]⟩) (fun m0 => ?_)
    refine Wc_case (by simp only [upd, dstUpd, args0, List.getD_cons_zero, List.getD_cons_succ, reduceIte, Nat.reduceEqDiff, ptr, g3] <;> first | rfl | assumption | (symm; assumption)) (fun y => Wc_skip ⟨rfl, rfl, (by simp only [upd, dstUpd, args0, List.getD_cons_zero, List.getD_cons_succ, reduceIte, Nat.reduceEqDiff, ptr, g0] <;> first | rfl | assumption | (symm; assumption)), (by simp only [upd, dstUpd, args0, List.getD_cons_zero, List.getD_cons_succ, reduceIte, Nat.reduceEqDiff, ptr, g3] <;> first | rfl | assumption | (symm; assumption)), by simp only [upd, dstUpd, reduceIte, Nat.reduceEqDiff, y, true_or, or_true, decide_true]⟩) (fun m1 => ?_)
    refine Wc_ops (Wo_run (fun call => by simp only [List.drop_succ_cons, List.drop_zero, iops_nil, iops_op, iops_grd, iK_some, iG_true, iG_false, gval_bool, beq_self_eq_true, beq_true, beq_false, Bool.not_true, Bool.not_false, iop, ev, upd, dstUpd, binV, binI, unV, ptr, Heap.cell, Heap.write, cellsOf, put, args0, partL, List.getD_cons_zero, List.getD_cons_succ, List.length_cons, List.length_nil, List.set_cons_zero, List.set_cons_succ, List.getElem?_cons_zero, List.getElem?_cons_succ, reduceIte, Nat.reduceEqDiff, Nat.reduceAdd, Nat.reduceMul, Nat.reduceLeDiff, Nat.zero_add, Nat.add_zero, Option.map_some, Int.reduceEq, Int.reduceLT, Int.reduceLE, Bool.false_eq_true, decide_true, decide_false, ge_iff_le, gt_iff_lt, set_get', g3]; rfl) ?_)
    exact ⟨rfl, rfl, (by simp only [upd, dstUpd, args0, List.getD_cons_zero, List.getD_cons_succ, reduceIte, Nat.reduceEqDiff, ptr, g0] <;> first | rfl | assumption | (symm; assumption)), (by simp only [upd, dstUpd, args0, List.getD_cons_zero, List.getD_cons_succ, reduceIte, Nat.reduceEqDiff, ptr, g3] <;> first | rfl | assumption | (symm; assumption)), by simp only [upd, dstUpd, reduceIte, Nat.reduceEqDiff, Bool.beq_eq_decide_eq, m0, m1, false_or]⟩
  rintro ⟨e, h', d⟩ ⟨hd, hh, g0, g3, g13⟩
  simp only at hd hh g0 g3 g13
  rw [hd, hh]
  refine Wc_cond _ g13 (fun y => ?_) (fun y => ?_)
  · have y := of_decide_eq_true y
    refine Wc_seq (Wc_ops (Wo_run (fun call => by simp only [List.drop_succ_cons, List.drop_zero, iops_nil, iops_op, iops_grd, iK_some, iG_true, iG_false, gval_bool, beq_self_eq_true, beq_true, beq_false, Bool.not_true, Bool.not_false, iop, ev, upd, dstUpd, binV, binI, unV, ptr, Heap.cell, Heap.write, cellsOf, put, args0, partL, List.getD_cons_zero, List.getD_cons_succ, List.length_cons, List.length_nil, List.set_cons_zero, List.set_cons_succ, List.getElem?_cons_zero, List.getElem?_cons_succ, reduceIte, Nat.reduceEqDiff, Nat.reduceAdd, Nat.reduceMul, Nat.reduceLeDiff, Nat.zero_add, Nat.add_zero, Option.map_some, Int.reduceEq, Int.reduceLT, Int.reduceLE, Bool.false_eq_true, decide_true, decide_false, ge_iff_le, gt_iff_lt, set_get']; rfl) ?_))
    exact Wc_ret (fin _ _ _ (.inr rfl) (by simp only [upd, dstUpd, args0, List.getD_cons_zero, List.getD_cons_succ, reduceIte, Nat.reduceEqDiff, ptr] <;> first | rfl | assumption | (symm; assumption)) (by rw [lettersOf, if_neg n2, if_neg n4, if_neg n14, if_neg n17, if_pos y]))
  have n20 := of_decide_eq_false y
  refine Wc_case (by simp only [upd, dstUpd, args0, List.getD_cons_zero, List.getD_cons_succ, reduceIte, Nat.reduceEqDiff, ptr, g3] <;> first | rfl | assumption | (symm; assumption)) (fun y22 => ?_) (fun n22 => Wc_skip ?_)
  · refine Wc_seq (Wc_ops (Wo_run (fun call => by simp only [List.drop_succ_cons, List.drop_zero, iops_nil, iops_op, iops_grd, iK_some, iG_true, iG_false, gval_bool, beq_self_eq_true, beq_true, beq_false, Bool.not_true, Bool.not_false, iop, ev, upd, dstUpd, binV, binI, unV, ptr, Heap.cell, Heap.write, cellsOf, put, args0, partL, List.getD_cons_zero, List.getD_cons_succ, List.length_cons, List.length_nil, List.set_cons_zero, List.set_cons_succ, List.getElem?_cons_zero, List.getElem?_cons_succ, reduceIte, Nat.reduceEqDiff, Nat.reduceAdd, Nat.reduceMul, Nat.reduceLeDiff, Nat.zero_add, Nat.add_zero, Option.map_some, Int.reduceEq, Int.reduceLT, Int.reduceLE, Bool.false_eq_true, decide_true, decide_false, ge_iff_le, gt_iff_lt, set_get']; rfl) ?_))
    exact Wc_ret (fin _ _ _ (.inr rfl) (by simp only [upd, dstUpd, args0, List.getD_cons_zero, List.getD_cons_succ, reduceIte, Nat.reduceEqDiff, ptr] <;> first | rfl | assumption | (symm; assumption)) (by rw [lettersOf, if_neg n2, if_neg n4, if_neg n14, if_neg n17, if_neg n20, if_pos y22]))
  show Wc T _ _ _
  have pre : lettersOf k = if 5 ≤ k ∧ k ≤ 13 then ⟨#[115]⟩ else if 15 ≤ k ∧ k ≤ 30 then ⟨#[101]⟩ else ⟨#[]⟩ := by rw [lettersOf, if_neg n2, if_neg n4, if_neg n14, if_neg n17, if_neg n20, if_neg n22]
  refine Wc_seq (Wc_block ?_)
  refine Wc_mid (fun s' => s'.d = some [] ∧ s'.h = h ∧ s'.e 0 = .int .i64 k ∧ s'.e 19 = .bool (decide (5 ≤ k ∧ k ≤ 13))) ?_ ?_
  · by_cases x1 : (5 : Int) ≤ k <;> by_cases x2 : k ≤ 13 <;> first
      | (exfalso; omega)
      | (refine Wc_ops (Wo_run (fun call => by simp only [List.drop_succ_cons, List.drop_zero, iops_nil, iops_op, iops_grd, iK_some, iG_true, iG_false, gval_bool, beq_self_eq_true, beq_true, beq_false, Bool.not_true, Bool.not_false, iop, ev, upd, dstUpd, binV, binI, unV, ptr, Heap.cell, Heap.write, cellsOf, put, args0, partL, List.getD_cons_zero, List.getD_cons_succ, List.length_cons, List.length_nil, List.set_cons_zero, List.set_cons_succ, List.getElem?_cons_zero, List.getElem?_cons_succ, reduceIte, Nat.reduceEqDiff, Nat.reduceAdd, Nat.reduceMul, Nat.reduceLeDiff, Nat.zero_add, Nat.add_zero, Option.map_some, Int.reduceEq, Int.reduceLT, Int.reduceLE, Bool.false_eq_true, decide_true, decide_false, ge_iff_le, gt_iff_lt, set_get', g0, x1, x2]; rfl) ?_); exact ⟨rfl, rfl, (by simp only [upd, dstUpd, args0, List.getD_cons_zero, List.getD_cons_succ, reduceIte, Nat.reduceEqDiff, ptr, g0] <;> first | rfl | assumption | (symm; assumption)), (by simp only [upd, dstUpd, args0, List.getD_cons_zero, List.getD_cons_succ, reduceIte, Nat.reduceEqDiff, ptr, x1, x2, and_self, and_true, and_false, decide_true, decide_false] <;> first | rfl | assumption | (symm; assumption))⟩)
  rintro ⟨e, h', d⟩ ⟨hd, hh, g0, g19⟩
  simp only at hd hh g0 g19
  rw [hd, hh]
  refine Wc_cond _ g19 (fun y => ?_) (fun y => ?_)
  · refine Wc_seq (Wc_ops (Wo_run (fun call => by simp only [List.drop_succ_cons, List.drop_zero, iops_nil, iops_op, iops_grd, iK_some, iG_true, iG_false, gval_bool, beq_self_eq_true, beq_true, beq_false, Bool.not_true, Bool.not_false, iop, ev, upd, dstUpd, binV, binI, unV, ptr, Heap.cell, Heap.write, cellsOf, put, args0, partL, List.getD_cons_zero, List.getD_cons_succ, List.length_cons, List.length_nil, List.set_cons_zero, List.set_cons_succ, List.getElem?_cons_zero, List.getElem?_cons_succ, reduceIte, Nat.reduceEqDiff, Nat.reduceAdd, Nat.reduceMul, Nat.reduceLeDiff, Nat.zero_add, Nat.add_zero, Option.map_some, Int.reduceEq, Int.reduceLT, Int.reduceLE, Bool.false_eq_true, decide_true, decide_false, ge_iff_le, gt_iff_lt, set_get']; rfl) ?_))
    exact Wc_ret (fin _ _ _ (.inr rfl) (by simp only [upd, dstUpd, args0, List.getD_cons_zero, List.getD_cons_succ, reduceIte, Nat.reduceEqDiff, ptr] <;> first | rfl | assumption | (symm; assumption)) (by rw [pre, if_pos (of_decide_eq_true y)]))
  have n5 := of_decide_eq_false y
  refine Wc_mid (fun s' => s'.d = some [] ∧ s'.h = h ∧ s'.e 26 = .bool (decide (15 ≤ k ∧ k ≤ 30))) ?_ ?_
  · by_cases x1 : (15 : Int) ≤ k <;> by_cases x2 : k ≤ 30 <;> first
      | (exfalso; omega)
      | (refine Wc_ops (Wo_run (fun call => by simp only [List.drop_succ_cons, List.drop_zero, iops_nil, iops_op, iops_grd, iK_some, iG_true, iG_false, gval_bool, beq_self_eq_true, beq_true, beq_false, Bool.not_true, Bool.not_false, iop, ev, upd, dstUpd, binV, binI, unV, ptr, Heap.cell, Heap.write, cellsOf, put, args0, partL, List.getD_cons_zero, List.getD_cons_succ, List.length_cons, List.length_nil, List.set_cons_zero, List.set_cons_succ, List.getElem?_cons_zero, List.getElem?_cons_succ, reduceIte, Nat.reduceEqDiff, Nat.reduceAdd, Nat.reduceMul, Nat.reduceLeDiff, Nat.zero_add, Nat.add_zero, Option.map_some, Int.reduceEq, Int.reduceLT, Int.reduceLE, Bool.false_eq_true, decide_true, decide_false, ge_iff_le, gt_iff_lt, set_get', g0, x1, x2]; rfl) ?_); exact ⟨rfl, rfl, (by simp only [upd, dstUpd, args0, List.getD_cons_zero, List.getD_cons_succ, reduceIte, Nat.reduceEqDiff, ptr, x1, x2, and_self, and_true, and_false, decide_true, decide_false] <;> first | rfl | assumption | (symm; assumption))⟩)
  rintro ⟨e, h', d⟩ ⟨hd, hh, g26⟩
  simp only at hd hh g26
  rw [hd, hh]
  refine Wc_cond _ g26 (fun y => ?_) (fun y => Wc_skip ?_)
  · refine Wc_seq (Wc_ops (Wo_run (fun call => by simp only [List.drop_succ_cons, List.drop_zero, iops_nil, iops_op, iops_grd, iK_some, iG_true, iG_false, gval_bool, beq_self_eq_true, beq_true, beq_false, Bool.not_true, Bool.not_false, iop, ev, upd, dstUpd, binV, binI, unV, ptr, Heap.cell, Heap.write, cellsOf, put, args0, partL, List.getD_cons_zero, List.getD_cons_succ, List.length_cons, List.length_nil, List.set_cons_zero, List.set_cons_succ, List.getElem?_cons_zero, List.getElem?_cons_succ, reduceIte, Nat.reduceEqDiff, Nat.reduceAdd, Nat.reduceMul, Nat.reduceLeDiff, Nat.zero_add, Nat.add_zero, Option.map_some, Int.reduceEq, Int.reduceLT, Int.reduceLE, Bool.false_eq_true, decide_true, decide_false, ge_iff_le, gt_iff_lt, set_get']; rfl) ?_))
    exact Wc_ret (fin _ _ _ (.inr rfl) (by simp only [upd, dstUpd, args0, List.getD_cons_zero, List.getD_cons_succ, reduceIte, Nat.reduceEqDiff, ptr] <;> first | rfl | assumption | (symm; assumption)) (by rw [pre, if_neg n5, if_pos (of_decide_eq_true y)]))
  show Wc T _ _ _
  refine Wc_seq (Wc_ops (Wo_run (fun call => by simp only [List.drop_succ_cons, List.drop_zero, iops_nil, iops_op, iops_grd, iK_some, iG_true, iG_false, gval_bool, beq_self_eq_true, beq_true, beq_false, Bool.not_true, Bool.not_false, iop, ev, upd, dstUpd, binV, binI, unV, ptr, Heap.cell, Heap.write, cellsOf, put, args0, partL, List.getD_cons_zero, List.getD_cons_succ, List.length_cons, List.length_nil, List.set_cons_zero, List.set_cons_succ, List.getElem?_cons_zero, List.getElem?_cons_succ, reduceIte, Nat.reduceEqDiff, Nat.reduceAdd, Nat.reduceMul, Nat.reduceLeDiff, Nat.zero_add, Nat.add_zero, Option.map_some, Int.reduceEq, Int.reduceLT, Int.reduceLE, Bool.false_eq_true, decide_true, decide_false, ge_iff_le, gt_iff_lt, set_get']; rfl) ?_))
  exact Wc_ret (fin _ _ _ (.inr rfl) (by simp only [upd, dstUpd, args0, List.getD_cons_zero, List.getD_cons_succ, reduceIte, Nat.reduceEqDiff, ptr] <;> first | rfl | assumption | (symm; assumption)) (by rw [pre, if_neg n5, if_neg (of_decide_eq_false y)]))

def Asc (s : ByteArray) : Prop := ∀ b ∈ s.data.toList, b.toNat < 128
theorem letters_asc (k : Int) : Asc (lettersOf k) := by
  unfold lettersOf Asc
  repeat' split
  all_goals (intro b hb; revert b; decide)

def hasB (s : ByteArray) (c : Int) : Bool := (bs s).any fun b => ((b.toNat : Nat) : Int) == c
theorem hasRune_ok (hT : T.fn 33 = some C33) {s : ByteArray} {c : Int} {h : Heap} (ha : Asc s) : Wk T (.fn 33) [.string s, .int .i32 c] h (fun o h' => Kept h h' ∧ o = .ret (.bool (hasB s c))) := by
  refine Wk_fn hT (by simp [C33]) ?_
  simp only [C33]
  refine Wc_seq (Wc_ops (Wo_run (fun call => by simp only [List.drop_succ_cons, List.drop_zero, iops_nil, iops_op, iops_grd, iK_some, iG_true, iG_false, gval_bool, beq_self_eq_true, beq_true, beq_false, Bool.not_true, Bool.not_false, iop, ev, upd, dstUpd, binV, binI, unV, ptr, Heap.cell, Heap.write, cellsOf, put, args0, partL, List.getD_cons_zero, List.getD_cons_succ, List.length_cons, List.length_nil, List.set_cons_zero, List.set_cons_succ, List.getElem?_cons_zero, List.getElem?_cons_succ, reduceIte, Nat.reduceEqDiff, Nat.reduceAdd, Nat.reduceMul, Nat.reduceLeDiff, Nat.zero_add, Nat.add_zero, Option.map_some, Int.reduceEq, Int.reduceLT, Int.reduceLE, Bool.false_eq_true, decide_true, decide_false, ge_iff_le, gt_iff_lt, set_get']; rfl) ?_))
  show Wc T _ _ _
  refine Wc_seq (Wc_seq (Wc_ops (Wo_pre 1 (fun call => by simp only [List.take_succ_cons, List.take_zero, List.drop_succ_cons, List.drop_zero, iops_nil, iops_op, iops_grd, iK_some, iG_true, iG_false, gval_bool, beq_self_eq_true, beq_true, beq_false, Bool.not_true, Bool.not_false, iop, ev, upd, dstUpd, binV, binI, unV, ptr, Heap.cell, Heap.write, cellsOf, put, args0, partL, List.getD_cons_zero, List.getD_cons_succ, List.length_cons, List.length_nil, List.set_cons_zero, List.set_cons_succ, List.getElem?_cons_zero, List.getElem?_cons_succ, reduceIte, Nat.reduceEqDiff, Nat.reduceAdd, Nat.reduceMul, Nat.reduceLeDiff, Nat.zero_add, Nat.add_zero, Option.map_some, Int.reduceEq, Int.reduceLT, Int.reduceLE, Bool.false_eq_true, decide_true, decide_false, ge_iff_le, gt_iff_lt, set_get']; rfl) ?_)))
  refine Wo_new (v := ptr h.next 0) (B := .siter s 0) (by simp only [iop, ev, upd, reduceIte]) fun h1 n1 => Wo_nil ?_
  show Wc T _ _ _
  refine Wc_rangeStr (s := s) (bi := h.next) (fun j e h' d => d = some [] ∧ Kept h h' ∧ ∀ i, i < j → ∀ b, (bs s)[i]? = some b → ((b.toNat : Nat) : Int) ≠ c) ha (by decide) (by decide) (by simp only [upd, dstUpd, args0, List.getD_cons_zero, List.getD_cons_succ, reduceIte, Nat.reduceEqDiff, ptr] <;> first | rfl | assumption | (symm; assumption)) n1.get ⟨rfl, n1.kept, fun i hi => by omega⟩ ?_ ?_
  · rintro j b e h' d hb ⟨rfl, hk, hne⟩ hfr hg
    have e1 : e 1 = .int .i32 c := (by rw [hfr 1 (by decide)]; try simp only [upd, dstUpd, args0, List.getD_cons_zero, List.getD_cons_succ, reduceIte, Nat.reduceEqDiff] <;> first | rfl | assumption | (symm; assumption))
    have hk' : Kept h (h'.set h.next (.siter s (j + 1))) := hk.set (Nat.le_refl _) _
    refine Wc_seq (Wc_ops (Wo_op (v := .int .i32 b.toNat) (h' := h'.set h.next (.siter s (j + 1))) (by simp only [iop, ev, upd, reduceIte, Nat.reduceEqDiff]; rfl) (Wo_run (fun call => by simp only [List.drop_succ_cons, List.drop_zero, iops_nil, iops_op, iops_grd, iK_some, iG_true, iG_false, gval_bool, beq_self_eq_true, beq_true, beq_false, Bool.not_true, Bool.not_false, iop, ev, upd, dstUpd, binV, binI, unV, ptr, Heap.cell, Heap.write, cellsOf, put, args0, partL, List.getD_cons_zero, List.getD_cons_succ, List.length_cons, List.length_nil, List.set_cons_zero, List.set_cons_succ, List.getElem?_cons_zero, List.getElem?_cons_succ, reduceIte, Nat.reduceEqDiff, Nat.reduceAdd, Nat.reduceMul, Nat.reduceLeDiff, Nat.zero_add, Nat.add_zero, Option.map_some, Int.reduceEq, Int.reduceLT, Int.reduceLE, Bool.false_eq_true, decide_true, decide_false, ge_iff_le, gt_iff_lt, set_get']; rfl) ?_)))
    show Wc T _ _ _
    refine Wc_seq (Wc_ops (Wo_run (fun call => by simp only [List.drop_succ_cons, List.drop_zero, iops_nil, iops_op, iops_grd, iK_some, iG_true, iG_false, gval_bool, beq_self_eq_true, beq_true, beq_false, Bool.not_true, Bool.not_false, iop, ev, upd, dstUpd, binV, binI, unV, ptr, Heap.cell, Heap.write, cellsOf, put, args0, partL, List.getD_cons_zero, List.getD_cons_succ, List.length_cons, List.length_nil, List.set_cons_zero, List.set_cons_succ, List.getElem?_cons_zero, List.getElem?_cons_succ, reduceIte, Nat.reduceEqDiff, Nat.reduceAdd, Nat.reduceMul, Nat.reduceLeDiff, Nat.zero_add, Nat.add_zero, Option.map_some, Int.reduceEq, Int.reduceLT, Int.reduceLE, Bool.false_eq_true, decide_true, decide_false, ge_iff_le, gt_iff_lt, set_get', e1]; rfl) ?_))
    show Wc T _ _ _
    cases hx : (((b.toNat : Nat) : Int) == c)
    · refine Wc_cond false (by simp only [upd, dstUpd, args0, List.getD_cons_zero, List.getD_cons_succ, reduceIte, Nat.reduceEqDiff, ptr, hx] <;> first | rfl | assumption | (symm; assumption)) (fun e => by cases e) (fun _ => Wc_skip ⟨set_get' _ _ _, rfl, hk', fun i hi y hy => ?_⟩)
      rcases Nat.lt_or_eq_of_le (Nat.le_of_lt_succ hi) with h1 | h1
      · exact hne i h1 y hy
      · subst h1; rw [show (bs s)[i]? = some b from hb] at hy; cases hy; simpa using hx
    · refine Wc_cond true (by simp only [upd, dstUpd, args0, List.getD_cons_zero, List.getD_cons_succ, reduceIte, Nat.reduceEqDiff, ptr, hx] <;> first | rfl | assumption | (symm; assumption)) (fun _ => ?_) (fun e => by cases e)
      refine Wc_seq (Wc_ops (Wo_run (fun call => by simp only [List.drop_succ_cons, List.drop_zero, iops_nil, iops_op, iops_grd, iK_some, iG_true, iG_false, gval_bool, beq_self_eq_true, beq_true, beq_false, Bool.not_true, Bool.not_false, iop, ev, upd, dstUpd, binV, binI, unV, ptr, Heap.cell, Heap.write, cellsOf, put, args0, partL, List.getD_cons_zero, List.getD_cons_succ, List.length_cons, List.length_nil, List.set_cons_zero, List.set_cons_succ, List.getElem?_cons_zero, List.getElem?_cons_succ, reduceIte, Nat.reduceEqDiff, Nat.reduceAdd, Nat.reduceMul, Nat.reduceLeDiff, Nat.zero_add, Nat.add_zero, Option.map_some, Int.reduceEq, Int.reduceLT, Int.reduceLE, Bool.false_eq_true, decide_true, decide_false, ge_iff_le, gt_iff_lt, set_get']; rfl) ?_))
      refine Wc_ret ⟨.inr rfl, rfl, [.bool true], by simp only [resAll, resV, upd, dstUpd, reduceIte, Nat.reduceEqDiff], hk', ?_⟩
      have : hasB s c = true := List.any_eq_true.2 ⟨b, List.mem_of_getElem? (show (bs s)[j]? = some b from hb), hx⟩
      rw [this]; rfl
  · rintro e h' d ⟨rfl, hk, hne⟩ hfr
    show Wc T _ _ _
    refine Wc_seq (Wc_ops (Wo_run (fun call => by simp only [List.drop_succ_cons, List.drop_zero, iops_nil, iops_op, iops_grd, iK_some, iG_true, iG_false, gval_bool, beq_self_eq_true, beq_true, beq_false, Bool.not_true, Bool.not_false, iop, ev, upd, dstUpd, binV, binI, unV, ptr, Heap.cell, Heap.write, cellsOf, put, args0, partL, List.getD_cons_zero, List.getD_cons_succ, List.length_cons, List.length_nil, List.set_cons_zero, List.set_cons_succ, List.getElem?_cons_zero, List.getElem?_cons_succ, reduceIte, Nat.reduceEqDiff, Nat.reduceAdd, Nat.reduceMul, Nat.reduceLeDiff, Nat.zero_add, Nat.add_zero, Option.map_some, Int.reduceEq, Int.reduceLT, Int.reduceLE, Bool.false_eq_true, decide_true, decide_false, ge_iff_le, gt_iff_lt, set_get']; rfl) ?_))
    refine Wc_ret ⟨.inr rfl, rfl, [.bool false], by simp only [resAll, resV, upd, dstUpd, reduceIte, Nat.reduceEqDiff], hk, ?_⟩
    have : hasB s c = false := by
      cases hz : hasB s c with
      | false => rfl
      | true =>
        obtain ⟨b, hb, he⟩ := List.any_eq_true.1 hz
        obtain ⟨i, hi⟩ := List.getElem?_of_mem hb
        exact absurd (beq_iff_eq.1 he) (hne i (by rw [bs_size]; exact (List.getElem?_eq_some_iff.1 hi).1) b hi)
    rw [this]; rfl

/-- Where a byte stands first. -/
def atB : List UInt8 → Int → Nat → Int
  | [], _, _ => -1
  | b :: l, c, i => if ((b.toNat : Nat) : Int) = c then (i : Int) else atB l c (i + 1)
theorem atB_no {c : Int} : ∀ {l : List UInt8} {i : Nat}, (∀ b ∈ l, ((b.toNat : Nat) : Int) ≠ c) → atB l c i = -1
  | [], _, _ => rfl
  | b :: l, i, h => by rw [atB, if_neg (h b (List.mem_cons_self ..))]; exact atB_no fun y hy => h y (List.mem_cons_of_mem _ hy)
theorem atB_at {c : Int} : ∀ {l : List UInt8} {i j : Nat} {b : UInt8}, (∀ m, m < j → ∀ b, l[m]? = some b → ((b.toNat : Nat) : Int) ≠ c) → l[j]? = some b → ((b.toNat : Nat) : Int) = c → atB l c i = ((i + j : Nat) : Int)
  | [], _, _, _, _, h, _ => by simp at h
  | x :: l, i, 0, b, _, h, hc => by simp at h; subst h; rw [atB, if_pos hc, Nat.add_zero]
  | x :: l, i, j + 1, b, h1, h2, hc => by
    rw [atB, if_neg (h1 0 (Nat.succ_pos _) x rfl), atB_at (j := j) (fun m hm y hy => h1 (m + 1) (Nat.succ_lt_succ hm) y hy) (by simpa using h2) hc]
    congr 1; omega
theorem runeAt_ok (hT : T.fn 32 = some C32) {s : ByteArray} {c : Int} {h : Heap} (ha : Asc s) : Wk T (.fn 32) [.string s, .int .i32 c] h (fun o h' => Kept h h' ∧ o = .ret (.int .i64 (atB (bs s) c 0))) := by
  refine Wk_fn hT (by simp [C32]) ?_
  simp only [C32]
  refine Wc_seq (Wc_ops (Wo_run (fun call => by simp only [List.drop_succ_cons, List.drop_zero, iops_nil, iops_op, iops_grd, iK_some, iG_true, iG_false, gval_bool, beq_self_eq_true, beq_true, beq_false, Bool.not_true, Bool.not_false, iop, ev, upd, dstUpd, binV, binI, unV, ptr, Heap.cell, Heap.write, cellsOf, put, args0, partL, List.getD_cons_zero, List.getD_cons_succ, List.length_cons, List.length_nil, List.set_cons_zero, List.set_cons_succ, List.getElem?_cons_zero, List.getElem?_cons_succ, reduceIte, Nat.reduceEqDiff, Nat.reduceAdd, Nat.reduceMul, Nat.reduceLeDiff, Nat.zero_add, Nat.add_zero, Option.map_some, Int.reduceEq, Int.reduceLT, Int.reduceLE, Bool.false_eq_true, decide_true, decide_false, ge_iff_le, gt_iff_lt, set_get']; rfl) ?_))
  show Wc T _ _ _
  refine Wc_seq (Wc_seq (Wc_ops (Wo_pre 1 (fun call => by simp only [List.take_succ_cons, List.take_zero, List.drop_succ_cons, List.drop_zero, iops_nil, iops_op, iops_grd, iK_some, iG_true, iG_false, gval_bool, beq_self_eq_true, beq_true, beq_false, Bool.not_true, Bool.not_false, iop, ev, upd, dstUpd, binV, binI, unV, ptr, Heap.cell, Heap.write, cellsOf, put, args0, partL, List.getD_cons_zero, List.getD_cons_succ, List.length_cons, List.length_nil, List.set_cons_zero, List.set_cons_succ, List.getElem?_cons_zero, List.getElem?_cons_succ, reduceIte, Nat.reduceEqDiff, Nat.reduceAdd, Nat.reduceMul, Nat.reduceLeDiff, Nat.zero_add, Nat.add_zero, Option.map_some, Int.reduceEq, Int.reduceLT, Int.reduceLE, Bool.false_eq_true, decide_true, decide_false, ge_iff_le, gt_iff_lt, set_get']; rfl) ?_)))
  refine Wo_new (v := ptr h.next 0) (B := .siter s 0) (by simp only [iop, ev, upd, reduceIte]) fun h1 n1 => Wo_nil ?_
  show Wc T _ _ _
  refine Wc_rangeStr (s := s) (bi := h.next) (fun j e h' d => d = some [] ∧ Kept h h' ∧ ∀ i, i < j → ∀ b, (bs s)[i]? = some b → ((b.toNat : Nat) : Int) ≠ c) ha (by decide) (by decide) (by simp only [upd, dstUpd, args0, List.getD_cons_zero, List.getD_cons_succ, reduceIte, Nat.reduceEqDiff, ptr] <;> first | rfl | assumption | (symm; assumption)) n1.get ⟨rfl, n1.kept, fun i hi => by omega⟩ ?_ ?_
  · rintro j b e h' d hb ⟨rfl, hk, hne⟩ hfr hg
    have e1 : e 1 = .int .i32 c := (by rw [hfr 1 (by decide)]; try simp only [upd, dstUpd, args0, List.getD_cons_zero, List.getD_cons_succ, reduceIte, Nat.reduceEqDiff] <;> first | rfl | assumption | (symm; assumption))
    have hk' : Kept h (h'.set h.next (.siter s (j + 1))) := hk.set (Nat.le_refl _) _
    refine Wc_seq (Wc_ops (Wo_op (v := .int .i64 j) (h' := h'.set h.next (.siter s (j + 1))) (by simp only [iop, ev, upd, reduceIte, Nat.reduceEqDiff]; rfl) (Wo_op (v := .int .i32 b.toNat) (h' := h'.set h.next (.siter s (j + 1))) (by simp only [iop, ev, upd, dstUpd, reduceIte, Nat.reduceEqDiff]; rfl) (Wo_run (fun call => by simp only [List.drop_succ_cons, List.drop_zero, iops_nil, iops_op, iops_grd, iK_some, iG_true, iG_false, gval_bool, beq_self_eq_true, beq_true, beq_false, Bool.not_true, Bool.not_false, iop, ev, upd, dstUpd, binV, binI, unV, ptr, Heap.cell, Heap.write, cellsOf, put, args0, partL, List.getD_cons_zero, List.getD_cons_succ, List.length_cons, List.length_nil, List.set_cons_zero, List.set_cons_succ, List.getElem?_cons_zero, List.getElem?_cons_succ, reduceIte, Nat.reduceEqDiff, Nat.reduceAdd, Nat.reduceMul, Nat.reduceLeDiff, Nat.zero_add, Nat.add_zero, Option.map_some, Int.reduceEq, Int.reduceLT, Int.reduceLE, Bool.false_eq_true, decide_true, decide_false, ge_iff_le, gt_iff_lt, set_get']; rfl) ?_))))
    show Wc T _ _ _
    refine Wc_seq (Wc_ops (Wo_run (fun call => by simp only [List.drop_succ_cons, List.drop_zero, iops_nil, iops_op, iops_grd, iK_some, iG_true, iG_false, gval_bool, beq_self_eq_true, beq_true, beq_false, Bool.not_true, Bool.not_false, iop, ev, upd, dstUpd, binV, binI, unV, ptr, Heap.cell, Heap.write, cellsOf, put, args0, partL, List.getD_cons_zero, List.getD_cons_succ, List.length_cons, List.length_nil, List.set_cons_zero, List.set_cons_succ, List.getElem?_cons_zero, List.getElem?_cons_succ, reduceIte, Nat.reduceEqDiff, Nat.reduceAdd, Nat.reduceMul, Nat.reduceLeDiff, Nat.zero_add, Nat.add_zero, Option.map_some, Int.reduceEq, Int.reduceLT, Int.reduceLE, Bool.false_eq_true, decide_true, decide_false, ge_iff_le, gt_iff_lt, set_get', e1]; rfl) ?_))
    show Wc T _ _ _
    cases hx : (((b.toNat : Nat) : Int) == c)
    · refine Wc_cond false (by simp only [upd, dstUpd, args0, List.getD_cons_zero, List.getD_cons_succ, reduceIte, Nat.reduceEqDiff, ptr, hx] <;> first | rfl | assumption | (symm; assumption)) (fun e => by cases e) (fun _ => Wc_skip ⟨set_get' _ _ _, rfl, hk', fun i hi y hy => ?_⟩)
      rcases Nat.lt_or_eq_of_le (Nat.le_of_lt_succ hi) with h1 | h1
      · exact hne i h1 y hy
      · subst h1; rw [show (bs s)[i]? = some b from hb] at hy; cases hy; simpa using hx
    · refine Wc_cond true (by simp only [upd, dstUpd, args0, List.getD_cons_zero, List.getD_cons_succ, reduceIte, Nat.reduceEqDiff, ptr, hx] <;> first | rfl | assumption | (symm; assumption)) (fun _ => ?_) (fun e => by cases e)
      refine Wc_seq (Wc_ops (Wo_run (fun call => by simp only [List.drop_succ_cons, List.drop_zero, iops_nil, iops_op, iops_grd, iK_some, iG_true, iG_false, gval_bool, beq_self_eq_true, beq_true, beq_false, Bool.not_true, Bool.not_false, iop, ev, upd, dstUpd, binV, binI, unV, ptr, Heap.cell, Heap.write, cellsOf, put, args0, partL, List.getD_cons_zero, List.getD_cons_succ, List.length_cons, List.length_nil, List.set_cons_zero, List.set_cons_succ, List.getElem?_cons_zero, List.getElem?_cons_succ, reduceIte, Nat.reduceEqDiff, Nat.reduceAdd, Nat.reduceMul, Nat.reduceLeDiff, Nat.zero_add, Nat.add_zero, Option.map_some, Int.reduceEq, Int.reduceLT, Int.reduceLE, Bool.false_eq_true, decide_true, decide_false, ge_iff_le, gt_iff_lt, set_get']; rfl) ?_))
      refine Wc_ret ⟨.inr rfl, rfl, [.int .i64 j], by simp only [resAll, resV, upd, dstUpd, reduceIte, Nat.reduceEqDiff], hk', ?_⟩
      rw [atB_at hne (show (bs s)[j]? = some b from hb) (beq_iff_eq.1 hx), Nat.zero_add]; rfl
  · rintro e h' d ⟨rfl, hk, hne⟩ hfr
    show Wc T _ _ _
    refine Wc_seq (Wc_ops (Wo_run (fun call => by simp only [List.drop_succ_cons, List.drop_zero, iops_nil, iops_op, iops_grd, iK_some, iG_true, iG_false, gval_bool, beq_self_eq_true, beq_true, beq_false, Bool.not_true, Bool.not_false, iop, ev, upd, dstUpd, binV, binI, unV, ptr, Heap.cell, Heap.write, cellsOf, put, args0, partL, List.getD_cons_zero, List.getD_cons_succ, List.length_cons, List.length_nil, List.set_cons_zero, List.set_cons_succ, List.getElem?_cons_zero, List.getElem?_cons_succ, reduceIte, Nat.reduceEqDiff, Nat.reduceAdd, Nat.reduceMul, Nat.reduceLeDiff, Nat.zero_add, Nat.add_zero, Option.map_some, Int.reduceEq, Int.reduceLT, Int.reduceLE, Bool.false_eq_true, decide_true, decide_false, ge_iff_le, gt_iff_lt, set_get']; rfl) ?_))
    refine Wc_ret ⟨.inr rfl, rfl, [.int .i64 (-1)], by simp only [resAll, resV, upd, dstUpd, reduceIte, Nat.reduceEqDiff], hk, ?_⟩
    rw [atB_no fun b hb => by
      obtain ⟨i, hi⟩ := List.getElem?_of_mem hb
      exact hne i (by rw [bs_size]; exact (List.getElem?_eq_some_iff.1 hi).1) b hi]
    rfl

end Go.Idl
end

section
/- How kids fit. -/
namespace Go.Idl
set_option linter.unusedVariables false
set_option linter.unusedSimpArgs false
set_option maxRecDepth 100000

variable {T : Tbl}

/-- So many kids, from one on, may stand for a letter. -/
def okN (ks : List Int) (c : Int) (at' : Nat) : Nat → Bool
  | 0 => true
  | n + 1 => okN ks c at' n && (decide (at' + n < ks.length) && hasB (lettersOf (ks.getD (at' + n) 0)) c)
theorem okN_no {ks : List Int} {c : Int} {a : Nat} : ∀ {n m : Nat}, n ≤ m → okN ks c a n = false → okN ks c a m = false
  | n, 0, h, hn => by rw [show n = 0 by omega] at hn; exact hn
  | n, m + 1, h, hn => by
    by_cases hm : n = m + 1
    · rw [← hm]; exact hn
    · rw [okN, okN_no (by omega) hn, Bool.false_and]
def manyI (s : ByteArray) (ks : List Int) (c : Int) (at' : Nat) (many : Bool) : Int := if many then (ks.length : Int) - at' - ((s.size : Int) - atB (bs s) c 0 - 1) else 1
def fitF (s : ByteArray) (ks : List Int) : List UInt8 → Nat → Bool → Option Nat
  | [], a, _ => some a
  | c :: r, a, many => if ((c.toNat : Nat) : Int) = 42 then fitF s ks r a true else if okN ks c.toNat a (manyI s ks c.toNat a many).toNat then fitF s ks r (a + (manyI s ks c.toNat a many).toNat) false else none
def fitB (s : ByteArray) (ks : List Int) : Bool := match fitF s ks (bs s) 0 false with
  | some a => decide (a = ks.length)
  | none => false

theorem atB_range {c : Int} : ∀ {l : List UInt8} {i : Nat}, -1 ≤ atB l c i ∧ atB l c i < ((i + l.length : Nat) : Int) + 1
  | [], i => by simp [atB]; omega
  | b :: l, i => by
    rw [atB]
    split
    · simp only [List.length_cons]; omega
    · have := atB_range (c := c) (l := l) (i := i + 1)
      simp only [List.length_cons]; omega
theorem okN_le {ks : List Int} {c : Int} {a : Nat} : ∀ {n : Nat}, okN ks c a n = true → a ≤ ks.length → a + n ≤ ks.length
  | 0, _, h => h
  | n + 1, h, ha => by
    simp only [okN, Bool.and_eq_true, decide_eq_true_eq] at h
    omega

/-- What the program's functions are. -/
structure FitFns (T : Tbl) : Prop where
  fits : T.fn 24 = some C24
  letters : T.fn 34 = some C34
  hasRune : T.fn 33 = some C33
  runeAt : T.fn 32 = some C32

theorem fits_ok (F : FitFns T) {h : Heap} {v kv : Value} {l : List Nd} {kids : List Int} {s : ByteArray} (hn : nodesAt h v l) (hk : intsAt h kv kids) (hr : ∀ k ∈ kids, 0 ≤ k ∧ k < l.length) (hkl : kids.length ≤ 3000) (ha : Asc s) (hs : s.size ≤ 3000) :
    Wk T (.fn 24) [v, kv, .string s] h (fun o h' => Kept h h' ∧ o = .ret (.bool (fitB s (kids.map (kindAt l))))) := by
  obtain ⟨ka, kc, hkv⟩ := hk.len
  have hksl : (kids.map (kindAt l)).length = kids.length := List.length_map _
  generalize hks : kids.map (kindAt l) = ks at hksl ⊢
  refine Wk_fn F.fits (by simp [C24]) ?_
  simp only [C24]
  have fin : ∀ (e : Env) (h2 : Heap) (x' : Ex) (b : Bool), Kept h h2 → (x' = .normal ∨ x' = .ret) → e 6 = .bool b → fitB s ks = b → (x' = .normal ∨ x' = .ret) ∧ some ([] : List Dfr) = some [] ∧ ∃ vs, resAll e h2 [.tmp 6] = some vs ∧ Kept h h2 ∧ Out.ret (tup vs) = .ret (.bool (fitB s ks)) := fun e h2 x' b hk hx h4 hb =>
    ⟨hx, rfl, [.bool b], by simp only [resAll, resV, h4], hk, by rw [hb]; rfl⟩
  refine Wc_seq (Wc_ops (Wo_run (fun call => by simp only [List.drop_succ_cons, List.drop_zero, iops_nil, iops_op, iops_grd, iK_some, iG_true, iG_false, gval_bool, beq_self_eq_true, beq_true, beq_false, Bool.not_true, Bool.not_false, iop, ev, upd, dstUpd, binV, binI, unV, ptr, Heap.cell, Heap.write, cellsOf, put, args0, partL, List.getD_cons_zero, List.getD_cons_succ, List.length_cons, List.length_nil, List.set_cons_zero, List.set_cons_succ, List.getElem?_cons_zero, List.getElem?_cons_succ, reduceIte, Nat.reduceEqDiff, Nat.reduceAdd, Nat.reduceMul, Nat.reduceLeDiff, Nat.zero_add, Nat.add_zero, Option.map_some, Int.reduceEq, Int.reduceLT, Int.reduceLE, Bool.false_eq_true, decide_true, decide_false, ge_iff_le, gt_iff_lt, set_get']; rfl) ?_))
  show Wc T _ _ _
  refine Wc_seq (Wc_ops (Wo_run (fun call => by simp only [List.drop_succ_cons, List.drop_zero, iops_nil, iops_op, iops_grd, iK_some, iG_true, iG_false, gval_bool, beq_self_eq_true, beq_true, beq_false, Bool.not_true, Bool.not_false, iop, ev, upd, dstUpd, binV, binI, unV, ptr, Heap.cell, Heap.write, cellsOf, put, args0, partL, List.getD_cons_zero, List.getD_cons_succ, List.length_cons, List.length_nil, List.set_cons_zero, List.set_cons_succ, List.getElem?_cons_zero, List.getElem?_cons_succ, reduceIte, Nat.reduceEqDiff, Nat.reduceAdd, Nat.reduceMul, Nat.reduceLeDiff, Nat.zero_add, Nat.add_zero, Option.map_some, Int.reduceEq, Int.reduceLT, Int.reduceLE, Bool.false_eq_true, decide_true, decide_false, ge_iff_le, gt_iff_lt, set_get']; rfl) ?_))
  show Wc T _ _ _
  refine Wc_seq (Wc_seq (Wc_ops (Wo_pre 1 (fun call => by simp only [List.take_succ_cons, List.take_zero, List.drop_succ_cons, List.drop_zero, iops_nil, iops_op, iops_grd, iK_some, iG_true, iG_false, gval_bool, beq_self_eq_true, beq_true, beq_false, Bool.not_true, Bool.not_false, iop, ev, upd, dstUpd, binV, binI, unV, ptr, Heap.cell, Heap.write, cellsOf, put, args0, partL, List.getD_cons_zero, List.getD_cons_succ, List.length_cons, List.length_nil, List.set_cons_zero, List.set_cons_succ, List.getElem?_cons_zero, List.getElem?_cons_succ, reduceIte, Nat.reduceEqDiff, Nat.reduceAdd, Nat.reduceMul, Nat.reduceLeDiff, Nat.zero_add, Nat.add_zero, Option.map_some, Int.reduceEq, Int.reduceLT, Int.reduceLE, Bool.false_eq_true, decide_true, decide_false, ge_iff_le, gt_iff_lt, set_get']; rfl) ?_)))
  refine Wo_new (v := ptr h.next 0) (B := .siter s 0) (by simp only [iop, ev, upd, reduceIte]) fun h1 n1 => Wo_nil ?_
  show Wc T _ _ _
  refine Wc_rangeStr (s := s) (bi := h.next) (fun j e h' d => d = some [] ∧ (Kept h h' ∧ h.next < h'.next) ∧ ∃ (a : Nat) (many : Bool), a ≤ ks.length ∧ e 7 = .int .i64 a ∧ e 8 = .bool many ∧ fitF s ks (bs s) 0 false = fitF s ks ((bs s).drop j) a many) ha (by decide) (by decide) (by simp only [upd, dstUpd, args0, List.getD_cons_zero, List.getD_cons_succ, reduceIte, Nat.reduceEqDiff, ptr] <;> first | rfl | assumption | (symm; assumption)) n1.get ⟨rfl, ⟨n1.kept, by rw [n1.next]; exact Nat.lt_succ_self _⟩, 0, false, Nat.zero_le _, (by simp only [upd, dstUpd, args0, List.getD_cons_zero, List.getD_cons_succ, reduceIte, Nat.reduceEqDiff, ptr] <;> first | rfl | assumption | (symm; assumption)), (by simp only [upd, dstUpd, args0, List.getD_cons_zero, List.getD_cons_succ, reduceIte, Nat.reduceEqDiff, ptr] <;> first | rfl | assumption | (symm; assumption)), rfl⟩ ?_ ?_
  case refine_2 =>
    rintro e h' d ⟨rfl, ⟨hk', hx'⟩, a, many, hal, h7, h8, hfit⟩ hfr
    have e1 : e 1 = kv := (by rw [hfr 1 (by decide)]; try simp only [upd, dstUpd, args0, List.getD_cons_zero, List.getD_cons_succ, reduceIte, Nat.reduceEqDiff] <;> first | rfl | assumption | (symm; assumption))
    show Wc T _ _ _
    refine Wc_seq (Wc_ops (Wo_run (fun call => by simp only [List.drop_succ_cons, List.drop_zero, iops_nil, iops_op, iops_grd, iK_some, iG_true, iG_false, gval_bool, beq_self_eq_true, beq_true, beq_false, Bool.not_true, Bool.not_false, iop, ev, upd, dstUpd, binV, binI, unV, ptr, Heap.cell, Heap.write, cellsOf, put, args0, partL, List.getD_cons_zero, List.getD_cons_succ, List.length_cons, List.length_nil, List.set_cons_zero, List.set_cons_succ, List.getElem?_cons_zero, List.getElem?_cons_succ, reduceIte, Nat.reduceEqDiff, Nat.reduceAdd, Nat.reduceMul, Nat.reduceLeDiff, Nat.zero_add, Nat.add_zero, Option.map_some, Int.reduceEq, Int.reduceLT, Int.reduceLE, Bool.false_eq_true, decide_true, decide_false, ge_iff_le, gt_iff_lt, set_get', h7, e1, hkv]; rfl) ?_))
    refine Wc_ret (fin _ _ _ _ hk' (.inr rfl) (by simp only [upd, dstUpd, args0, List.getD_cons_zero, List.getD_cons_succ, reduceIte, Nat.reduceEqDiff, ptr] <;> first | rfl | assumption | (symm; assumption)) ?_)
    rw [bs_size, List.drop_length] at hfit
    rw [fitB, hfit, fitF, ← hksl, len_eq]
  rintro j c e h' d hc ⟨rfl, ⟨hk', hx'⟩, a, many, hal, h7, h8, hfit⟩ hfr hg
  have hcs : (bs s)[j]? = some c := hc
  have hdrop : (bs s).drop j = c :: (bs s).drop (j + 1) := by
    have hlt := (List.getElem?_eq_some_iff.1 hcs).1
    have he := (List.getElem?_eq_some_iff.1 hcs).2
    rw [List.drop_eq_getElem_cons hlt, he]
  rw [hdrop, fitF] at hfit
  have e0 : e 0 = v := (by rw [hfr 0 (by decide)]; try simp only [upd, dstUpd, args0, List.getD_cons_zero, List.getD_cons_succ, reduceIte, Nat.reduceEqDiff] <;> first | rfl | assumption | (symm; assumption))
  have e1 : e 1 = kv := (by rw [hfr 1 (by decide)]; try simp only [upd, dstUpd, args0, List.getD_cons_zero, List.getD_cons_succ, reduceIte, Nat.reduceEqDiff] <;> first | rfl | assumption | (symm; assumption))
  have e2 : e 2 = .string s := (by rw [hfr 2 (by decide)]; try simp only [upd, dstUpd, args0, List.getD_cons_zero, List.getD_cons_succ, reduceIte, Nat.reduceEqDiff] <;> first | rfl | assumption | (symm; assumption))
  have hk2 : Kept h (h'.set h.next (.siter s (j + 1))) := hk'.set (Nat.le_refl _) _
  have hg2 : (h'.set h.next (.siter s (j + 1))).get h.next = some (.siter s (j + 1)) := set_get' _ _ _
  have hx2 : h.next < (h'.set h.next (.siter s (j + 1))).next := hx'
  generalize h'.set h.next (.siter s (j + 1)) = h2 at hk2 hg2 hx2 ⊢
  refine Wc_seq (Wc_ops (Wo_op (v := .int .i32 c.toNat) (h' := h2) (by simp only [iop, ev, upd, reduceIte, Nat.reduceEqDiff]; rfl) (Wo_run (fun call => by simp only [List.drop_succ_cons, List.drop_zero, iops_nil, iops_op, iops_grd, iK_some, iG_true, iG_false, gval_bool, beq_self_eq_true, beq_true, beq_false, Bool.not_true, Bool.not_false, iop, ev, upd, dstUpd, binV, binI, unV, ptr, Heap.cell, Heap.write, cellsOf, put, args0, partL, List.getD_cons_zero, List.getD_cons_succ, List.length_cons, List.length_nil, List.set_cons_zero, List.set_cons_succ, List.getElem?_cons_zero, List.getElem?_cons_succ, reduceIte, Nat.reduceEqDiff, Nat.reduceAdd, Nat.reduceMul, Nat.reduceLeDiff, Nat.zero_add, Nat.add_zero, Option.map_some, Int.reduceEq, Int.reduceLT, Int.reduceLE, Bool.false_eq_true, decide_true, decide_false, ge_iff_le, gt_iff_lt, set_get']; rfl) ?_)))
  show Wc T _ _ _
  cases hst : (((c.toNat : Nat) : Int) == 42)
  case true =>
    have hst' := beq_iff_eq.1 hst
    rw [if_pos hst'] at hfit
    refine Wc_seq (Wc_seq (Wc_ops (Wo_run (fun call => by simp only [List.drop_succ_cons, List.drop_zero, iops_nil, iops_op, iops_grd, iK_some, iG_true, iG_false, gval_bool, beq_self_eq_true, beq_true, beq_false, Bool.not_true, Bool.not_false, iop, ev, upd, dstUpd, binV, binI, unV, ptr, Heap.cell, Heap.write, cellsOf, put, args0, partL, List.getD_cons_zero, List.getD_cons_succ, List.length_cons, List.length_nil, List.set_cons_zero, List.set_cons_succ, List.getElem?_cons_zero, List.getElem?_cons_succ, reduceIte, Nat.reduceEqDiff, Nat.reduceAdd, Nat.reduceMul, Nat.reduceLeDiff, Nat.zero_add, Nat.add_zero, Option.map_some, Int.reduceEq, Int.reduceLT, Int.reduceLE, Bool.false_eq_true, decide_true, decide_false, ge_iff_le, gt_iff_lt, set_get', hst]; rfl) ?_)))
    show Wc T _ _ _
    refine Wc_cond true (by simp only [upd, dstUpd, args0, List.getD_cons_zero, List.getD_cons_succ, reduceIte, Nat.reduceEqDiff, ptr] <;> first | rfl | assumption | (symm; assumption)) (fun _ => ?_) (fun e => by cases e)
    refine Wc_seq (Wc_ops (Wo_run (fun call => by simp only [List.drop_succ_cons, List.drop_zero, iops_nil, iops_op, iops_grd, iK_some, iG_true, iG_false, gval_bool, beq_self_eq_true, beq_true, beq_false, Bool.not_true, Bool.not_false, iop, ev, upd, dstUpd, binV, binI, unV, ptr, Heap.cell, Heap.write, cellsOf, put, args0, partL, List.getD_cons_zero, List.getD_cons_succ, List.length_cons, List.length_nil, List.set_cons_zero, List.set_cons_succ, List.getElem?_cons_zero, List.getElem?_cons_succ, reduceIte, Nat.reduceEqDiff, Nat.reduceAdd, Nat.reduceMul, Nat.reduceLeDiff, Nat.zero_add, Nat.add_zero, Option.map_some, Int.reduceEq, Int.reduceLT, Int.reduceLE, Bool.false_eq_true, decide_true, decide_false, ge_iff_le, gt_iff_lt, set_get']; rfl) ?_))
    exact Wc_exit ⟨hg2, rfl, ⟨hk2, hx2⟩, a, true, hal, (by simp only [upd, dstUpd, args0, List.getD_cons_zero, List.getD_cons_succ, reduceIte, Nat.reduceEqDiff, ptr, h7] <;> first | rfl | assumption | (symm; assumption)), (by simp only [upd, dstUpd, args0, List.getD_cons_zero, List.getD_cons_succ, reduceIte, Nat.reduceEqDiff, ptr] <;> first | rfl | assumption | (symm; assumption)), hfit⟩
  have hst' : ¬ ((c.toNat : Nat) : Int) = 42 := by simpa using hst
  rw [if_neg hst'] at hfit
  refine Wc_seq (Wc_seq (Wc_ops (Wo_run (fun call => by simp only [List.drop_succ_cons, List.drop_zero, iops_nil, iops_op, iops_grd, iK_some, iG_true, iG_false, gval_bool, beq_self_eq_true, beq_true, beq_false, Bool.not_true, Bool.not_false, iop, ev, upd, dstUpd, binV, binI, unV, ptr, Heap.cell, Heap.write, cellsOf, put, args0, partL, List.getD_cons_zero, List.getD_cons_succ, List.length_cons, List.length_nil, List.set_cons_zero, List.set_cons_succ, List.getElem?_cons_zero, List.getElem?_cons_succ, reduceIte, Nat.reduceEqDiff, Nat.reduceAdd, Nat.reduceMul, Nat.reduceLeDiff, Nat.zero_add, Nat.add_zero, Option.map_some, Int.reduceEq, Int.reduceLT, Int.reduceLE, Bool.false_eq_true, decide_true, decide_false, ge_iff_le, gt_iff_lt, set_get', hst]; rfl) ?_)))
  show Wc T _ _ _
  refine Wc_cond false (by simp only [upd, dstUpd, args0, List.getD_cons_zero, List.getD_cons_succ, reduceIte, Nat.reduceEqDiff, ptr] <;> first | rfl | assumption | (symm; assumption)) (fun e => by cases e) (fun _ => Wc_skip ?_)
  show Wc T _ _ _
  refine Wc_seq (Wc_ops (Wo_run (fun call => by simp only [List.drop_succ_cons, List.drop_zero, iops_nil, iops_op, iops_grd, iK_some, iG_true, iG_false, gval_bool, beq_self_eq_true, beq_true, beq_false, Bool.not_true, Bool.not_false, iop, ev, upd, dstUpd, binV, binI, unV, ptr, Heap.cell, Heap.write, cellsOf, put, args0, partL, List.getD_cons_zero, List.getD_cons_succ, List.length_cons, List.length_nil, List.set_cons_zero, List.set_cons_succ, List.getElem?_cons_zero, List.getElem?_cons_succ, reduceIte, Nat.reduceEqDiff, Nat.reduceAdd, Nat.reduceMul, Nat.reduceLeDiff, Nat.zero_add, Nat.add_zero, Option.map_some, Int.reduceEq, Int.reduceLT, Int.reduceLE, Bool.false_eq_true, decide_true, decide_false, ge_iff_le, gt_iff_lt, set_get']; rfl) ?_))
  show Wc T _ _ _
  -- how many
  refine Wc_mid (fun s' => s'.d = some [] ∧ Kept h s'.h ∧ h.next < s'.h.next ∧ s'.h.get h.next = some (.siter s (j + 1)) ∧ s'.e 0 = v ∧ s'.e 1 = kv ∧ s'.e 7 = .int .i64 a ∧ s'.e 8 = .bool false ∧ s'.e 10 = .int .i32 c.toNat ∧ s'.e 11 = .int .i64 (manyI s ks c.toNat a many)) ?_ ?_
  · refine Wc_seq (Wc_ops (Wo_run (fun call => by simp only [List.drop_succ_cons, List.drop_zero, iops_nil, iops_op, iops_grd, iK_some, iG_true, iG_false, gval_bool, beq_self_eq_true, beq_true, beq_false, Bool.not_true, Bool.not_false, iop, ev, upd, dstUpd, binV, binI, unV, ptr, Heap.cell, Heap.write, cellsOf, put, args0, partL, List.getD_cons_zero, List.getD_cons_succ, List.length_cons, List.length_nil, List.set_cons_zero, List.set_cons_succ, List.getElem?_cons_zero, List.getElem?_cons_succ, reduceIte, Nat.reduceEqDiff, Nat.reduceAdd, Nat.reduceMul, Nat.reduceLeDiff, Nat.zero_add, Nat.add_zero, Option.map_some, Int.reduceEq, Int.reduceLT, Int.reduceLE, Bool.false_eq_true, decide_true, decide_false, ge_iff_le, gt_iff_lt, set_get', h8]; rfl) ?_))
    show Wc T _ _ _
    cases many
    · refine Wc_cond false (by simp only [upd, dstUpd, args0, List.getD_cons_zero, List.getD_cons_succ, reduceIte, Nat.reduceEqDiff, ptr] <;> first | rfl | assumption | (symm; assumption)) (fun e => by cases e) (fun _ => Wc_skip ?_)
      exact ⟨rfl, hk2, hx2, hg2, (by simp only [upd, dstUpd, args0, List.getD_cons_zero, List.getD_cons_succ, reduceIte, Nat.reduceEqDiff, ptr, e0] <;> first | rfl | assumption | (symm; assumption)), (by simp only [upd, dstUpd, args0, List.getD_cons_zero, List.getD_cons_succ, reduceIte, Nat.reduceEqDiff, ptr, e1] <;> first | rfl | assumption | (symm; assumption)), (by simp only [upd, dstUpd, args0, List.getD_cons_zero, List.getD_cons_succ, reduceIte, Nat.reduceEqDiff, ptr, h7] <;> first | rfl | assumption | (symm; assumption)), (by simp only [upd, dstUpd, args0, List.getD_cons_zero, List.getD_cons_succ, reduceIte, Nat.reduceEqDiff, ptr, h8] <;> first | rfl | assumption | (symm; assumption)), (by simp only [upd, dstUpd, args0, List.getD_cons_zero, List.getD_cons_succ, reduceIte, Nat.reduceEqDiff, ptr] <;> first | rfl | assumption | (symm; assumption)), (by simp only [upd, dstUpd, args0, List.getD_cons_zero, List.getD_cons_succ, reduceIte, Nat.reduceEqDiff, ptr] <;> first | rfl | assumption | (symm; assumption))⟩
    refine Wc_cond true (by simp only [upd, dstUpd, args0, List.getD_cons_zero, List.getD_cons_succ, reduceIte, Nat.reduceEqDiff, ptr] <;> first | rfl | assumption | (symm; assumption)) (fun _ => ?_) (fun e => by cases e)
    have hrange := atB_range (c := c.toNat) (l := bs s) (i := 0)
    rw [← bs_size] at hrange
    have w1 : IntKind.i64.wrap (((kids.length : Nat) : Int) - ((a : Nat) : Int)) = ((kids.length : Nat) : Int) - ((a : Nat) : Int) := wrap64 (by omega) (by omega)
    have w2 : IntKind.i64.wrap (((s.size : Nat) : Int) - atB (bs s) c.toNat 0) = ((s.size : Nat) : Int) - atB (bs s) c.toNat 0 := wrap64 (by omega) (by omega)
    have w3 : IntKind.i64.wrap (((s.size : Nat) : Int) - atB (bs s) c.toNat 0 - 1) = ((s.size : Nat) : Int) - atB (bs s) c.toNat 0 - 1 := wrap64 (by omega) (by omega)
    have w4 : IntKind.i64.wrap (((kids.length : Nat) : Int) - ((a : Nat) : Int) - (((s.size : Nat) : Int) - atB (bs s) c.toNat 0 - 1)) = ((kids.length : Nat) : Int) - ((a : Nat) : Int) - (((s.size : Nat) : Int) - atB (bs s) c.toNat 0 - 1) := wrap64 (by omega) (by omega)
    refine Wc_seq (Wc_ops (Wo_pre 8 (fun call => by simp only [List.take_succ_cons, List.take_zero, List.drop_succ_cons, List.drop_zero, iops_nil, iops_op, iops_grd, iK_some, iG_true, iG_false, gval_bool, beq_self_eq_true, beq_true, beq_false, Bool.not_true, Bool.not_false, iop, ev, upd, dstUpd, binV, binI, unV, ptr, Heap.cell, Heap.write, cellsOf, put, args0, partL, List.getD_cons_zero, List.getD_cons_succ, List.length_cons, List.length_nil, List.set_cons_zero, List.set_cons_succ, List.getElem?_cons_zero, List.getElem?_cons_succ, reduceIte, Nat.reduceEqDiff, Nat.reduceAdd, Nat.reduceMul, Nat.reduceLeDiff, Nat.zero_add, Nat.add_zero, Option.map_some, Int.reduceEq, Int.reduceLT, Int.reduceLE, Bool.false_eq_true, decide_true, decide_false, ge_iff_le, gt_iff_lt, set_get', e1, e2, hkv, h7, w1]; rfl) ?_))
    refine Wo_call (Wk_kept (runeAt_ok F.runeAt (c := c.toNat) ha) fun h3 k3 => ?_)
    refine (Wo_run (fun call => by simp only [List.drop_succ_cons, List.drop_zero, iops_nil, iops_op, iops_grd, iK_some, iG_true, iG_false, gval_bool, beq_self_eq_true, beq_true, beq_false, Bool.not_true, Bool.not_false, iop, ev, upd, dstUpd, binV, binI, unV, ptr, Heap.cell, Heap.write, cellsOf, put, args0, partL, List.getD_cons_zero, List.getD_cons_succ, List.length_cons, List.length_nil, List.set_cons_zero, List.set_cons_succ, List.getElem?_cons_zero, List.getElem?_cons_succ, reduceIte, Nat.reduceEqDiff, Nat.reduceAdd, Nat.reduceMul, Nat.reduceLeDiff, Nat.zero_add, Nat.add_zero, Option.map_some, Int.reduceEq, Int.reduceLT, Int.reduceLE, Bool.false_eq_true, decide_true, decide_false, ge_iff_le, gt_iff_lt, set_get', w2, w3, w4]; rfl) ?_)
    show Wc T _ _ _
    refine Wc_ops (Wo_run (fun call => by simp only [List.drop_succ_cons, List.drop_zero, iops_nil, iops_op, iops_grd, iK_some, iG_true, iG_false, gval_bool, beq_self_eq_true, beq_true, beq_false, Bool.not_true, Bool.not_false, iop, ev, upd, dstUpd, binV, binI, unV, ptr, Heap.cell, Heap.write, cellsOf, put, args0, partL, List.getD_cons_zero, List.getD_cons_succ, List.length_cons, List.length_nil, List.set_cons_zero, List.set_cons_succ, List.getElem?_cons_zero, List.getElem?_cons_succ, reduceIte, Nat.reduceEqDiff, Nat.reduceAdd, Nat.reduceMul, Nat.reduceLeDiff, Nat.zero_add, Nat.add_zero, Option.map_some, Int.reduceEq, Int.reduceLT, Int.reduceLE, Bool.false_eq_true, decide_true, decide_false, ge_iff_le, gt_iff_lt, set_get']; rfl) ?_)
    refine ⟨rfl, hk2.trans k3, Nat.lt_of_lt_of_le hx2 k3.next, ?_, (by simp only [upd, dstUpd, args0, List.getD_cons_zero, List.getD_cons_succ, reduceIte, Nat.reduceEqDiff, ptr, e0] <;> first | rfl | assumption | (symm; assumption)), (by simp only [upd, dstUpd, args0, List.getD_cons_zero, List.getD_cons_succ, reduceIte, Nat.reduceEqDiff, ptr, e1] <;> first | rfl | assumption | (symm; assumption)), (by simp only [upd, dstUpd, args0, List.getD_cons_zero, List.getD_cons_succ, reduceIte, Nat.reduceEqDiff, ptr, h7] <;> first | rfl | assumption | (symm; assumption)), (by simp only [upd, dstUpd, args0, List.getD_cons_zero, List.getD_cons_succ, reduceIte, Nat.reduceEqDiff, ptr] <;> first | rfl | assumption | (symm; assumption)), (by simp only [upd, dstUpd, args0, List.getD_cons_zero, List.getD_cons_succ, reduceIte, Nat.reduceEqDiff, ptr] <;> first | rfl | assumption | (symm; assumption)), ?_⟩
    · rw [k3.get _ hx2]; exact hg2
    · simp only [upd, dstUpd, reduceIte, Nat.reduceEqDiff, manyI, hksl]
  rintro ⟨e3, h3, d3⟩ ⟨hd3, hk3, hx3, hg3, e0, e1, e7, e8, e10, e11⟩
  simp only at hd3 hk3 hx3 hg3 e0 e1 e7 e8 e10 e11
  rw [hd3]
  generalize hN : manyI s ks c.toNat a many = N at hfit e11
  refine Wc_block (Wc_loopF (fun e h' d => d = some [] ∧ Kept h h' ∧ h.next < h'.next ∧ h'.get h.next = some (.siter s (j + 1)) ∧ ∃ i : Nat, i ≤ N.toNat ∧ e 11 = .int .i64 (N - i) ∧ e 7 = .int .i64 ((a + i : Nat) : Int) ∧ okN ks c.toNat a i = true) (fun e _ => match e 11 with | .int _ k => k.toNat | _ => 0) ?_ ?_)
  · exact ⟨rfl, hk3, hx3, hg3, 0, Nat.zero_le _, by show e3 11 = _; rw [e11]; congr 1; omega, e7, rfl⟩
  rintro e h4 d ⟨rfl, hk4, hnx, hg4, i, hi, h11, h7', hok⟩ hfr4
  have f0 : e 0 = v := by rw [hfr4 0 (by decide)]; exact e0
  have f1 : e 1 = kv := by rw [hfr4 1 (by decide)]; exact e1
  have f8 : e 8 = .bool false := by rw [hfr4 8 (by decide)]; exact e8
  have f10 : e 10 = .int .i32 c.toNat := by rw [hfr4 10 (by decide)]; exact e10
  rw [C24L0]
  have hal' := okN_le hok hal
  by_cases hmore : (0 : Int) < N - i
  case neg =>
    refine Wc_seq (Wc_seq (Wc_ops (Wo_run (fun call => by simp only [List.drop_succ_cons, List.drop_zero, iops_nil, iops_op, iops_grd, iK_some, iG_true, iG_false, gval_bool, beq_self_eq_true, beq_true, beq_false, Bool.not_true, Bool.not_false, iop, ev, upd, dstUpd, binV, binI, unV, ptr, Heap.cell, Heap.write, cellsOf, put, args0, partL, List.getD_cons_zero, List.getD_cons_succ, List.length_cons, List.length_nil, List.set_cons_zero, List.set_cons_succ, List.getElem?_cons_zero, List.getElem?_cons_succ, reduceIte, Nat.reduceEqDiff, Nat.reduceAdd, Nat.reduceMul, Nat.reduceLeDiff, Nat.zero_add, Nat.add_zero, Option.map_some, Int.reduceEq, Int.reduceLT, Int.reduceLE, Bool.false_eq_true, decide_true, decide_false, ge_iff_le, gt_iff_lt, set_get', h11, hmore]; rfl) ?_)))
    show Wc T _ _ _
    refine Wc_cond false (by simp only [upd, dstUpd, args0, List.getD_cons_zero, List.getD_cons_succ, reduceIte, Nat.reduceEqDiff, ptr] <;> first | rfl | assumption | (symm; assumption)) (fun e => by cases e) (fun _ => Wc_exit ?_)
    have hiN : i = N.toNat := by omega
    subst hiN
    rw [if_pos hok] at hfit
    exact ⟨hg4, rfl, ⟨hk4, hnx⟩, a + N.toNat, false, hal', (by simp only [upd, dstUpd, args0, List.getD_cons_zero, List.getD_cons_succ, reduceIte, Nat.reduceEqDiff, ptr, h7'] <;> first | rfl | assumption | (symm; assumption)), (by simp only [upd, dstUpd, args0, List.getD_cons_zero, List.getD_cons_succ, reduceIte, Nat.reduceEqDiff, ptr, f8] <;> first | rfl | assumption | (symm; assumption)), hfit⟩
  refine Wc_seq (Wc_seq (Wc_ops (Wo_run (fun call => by simp only [List.drop_succ_cons, List.drop_zero, iops_nil, iops_op, iops_grd, iK_some, iG_true, iG_false, gval_bool, beq_self_eq_true, beq_true, beq_false, Bool.not_true, Bool.not_false, iop, ev, upd, dstUpd, binV, binI, unV, ptr, Heap.cell, Heap.write, cellsOf, put, args0, partL, List.getD_cons_zero, List.getD_cons_succ, List.length_cons, List.length_nil, List.set_cons_zero, List.set_cons_succ, List.getElem?_cons_zero, List.getElem?_cons_succ, reduceIte, Nat.reduceEqDiff, Nat.reduceAdd, Nat.reduceMul, Nat.reduceLeDiff, Nat.zero_add, Nat.add_zero, Option.map_some, Int.reduceEq, Int.reduceLT, Int.reduceLE, Bool.false_eq_true, decide_true, decide_false, ge_iff_le, gt_iff_lt, set_get', h11, hmore]; rfl) ?_)))
  show Wc T _ _ _
  refine Wc_cond true (by simp only [upd, dstUpd, args0, List.getD_cons_zero, List.getD_cons_succ, reduceIte, Nat.reduceEqDiff, ptr] <;> first | rfl | assumption | (symm; assumption)) (fun _ => Wc_skip ?_) (fun e => by cases e)
  show Wc T _ _ _
  have hbad : (decide (a + i < ks.length) && hasB (lettersOf (ks.getD (a + i) 0)) c.toNat) = false → fitB s ks = false := fun hb => by
    have h1 : okN ks c.toNat a (i + 1) = false := by rw [okN, hb, Bool.and_false]
    have h2 := okN_no (show i + 1 ≤ N.toNat by omega) h1
    rw [if_neg (by rw [h2]; decide)] at hfit
    rw [fitB, hfit]
  by_cases hlt : a + i < kids.length
  case neg =>
    have z : ((kids.length : Nat) : Int) ≤ ((a + i : Nat) : Int) := by omega
    refine Wc_seq (Wc_block (Wc_seq (Wc_seq (Wc_ops (Wo_run (fun call => by simp only [List.drop_succ_cons, List.drop_zero, iops_nil, iops_op, iops_grd, iK_some, iG_true, iG_false, gval_bool, beq_self_eq_true, beq_true, beq_false, Bool.not_true, Bool.not_false, iop, ev, upd, dstUpd, binV, binI, unV, ptr, Heap.cell, Heap.write, cellsOf, put, args0, partL, List.getD_cons_zero, List.getD_cons_succ, List.length_cons, List.length_nil, List.set_cons_zero, List.set_cons_succ, List.getElem?_cons_zero, List.getElem?_cons_succ, reduceIte, Nat.reduceEqDiff, Nat.reduceAdd, Nat.reduceMul, Nat.reduceLeDiff, Nat.zero_add, Nat.add_zero, Option.map_some, Int.reduceEq, Int.reduceLT, Int.reduceLE, Bool.false_eq_true, decide_true, decide_false, ge_iff_le, gt_iff_lt, set_get', h7', f1, hkv, z]; rfl) ?_)))))
    show Wc T _ _ _
    refine Wc_cond true (by simp only [upd, dstUpd, args0, List.getD_cons_zero, List.getD_cons_succ, reduceIte, Nat.reduceEqDiff, ptr] <;> first | rfl | assumption | (symm; assumption)) (fun _ => ?_) (fun e => by cases e)
    refine Wc_seq (Wc_ops (Wo_run (fun call => by simp only [List.drop_succ_cons, List.drop_zero, iops_nil, iops_op, iops_grd, iK_some, iG_true, iG_false, gval_bool, beq_self_eq_true, beq_true, beq_false, Bool.not_true, Bool.not_false, iop, ev, upd, dstUpd, binV, binI, unV, ptr, Heap.cell, Heap.write, cellsOf, put, args0, partL, List.getD_cons_zero, List.getD_cons_succ, List.length_cons, List.length_nil, List.set_cons_zero, List.set_cons_succ, List.getElem?_cons_zero, List.getElem?_cons_succ, reduceIte, Nat.reduceEqDiff, Nat.reduceAdd, Nat.reduceMul, Nat.reduceLeDiff, Nat.zero_add, Nat.add_zero, Option.map_some, Int.reduceEq, Int.reduceLT, Int.reduceLE, Bool.false_eq_true, decide_true, decide_false, ge_iff_le, gt_iff_lt, set_get']; rfl) ?_))
    exact Wc_ret (fin _ _ _ false hk4 (.inr rfl) (by simp only [upd, dstUpd, args0, List.getD_cons_zero, List.getD_cons_succ, reduceIte, Nat.reduceEqDiff, ptr] <;> first | rfl | assumption | (symm; assumption)) (hbad (by rw [decide_eq_false (by omega)]; rfl)))
  have z : ¬ ((kids.length : Nat) : Int) ≤ ((a + i : Nat) : Int) := by omega
  obtain ⟨k, hkk⟩ : ∃ k, kids[a + i]? = some k := ⟨_, List.getElem?_eq_getElem hlt⟩
  obtain ⟨bk, ck, hkvb, hbk, ⟨ok, zk, hgk⟩, hcell⟩ := (hk.keep hk4).load hkk
  rw [Nat.zero_add] at hcell
  have hkr := hr k (List.mem_of_getElem? hkk)
  obtain ⟨kk, rfl⟩ : ∃ kk : Nat, k = kk := ⟨k.toNat, by omega⟩
  have hkkl : kk < l.length := by omega
  obtain ⟨y, hy⟩ : ∃ y, l[kk]? = some y := ⟨_, List.getElem?_eq_getElem hkkl⟩
  obtain ⟨b5, c5, o5, z5, hvb5, hb5, hg5, _⟩ := (hn.keep hk4).load4 hy
  have hkind := (flatN_at hy).1
  have hka : kindAt l ((kk : Nat) : Int) = y.kind := by simp only [kindAt, Int.toNat_natCast, hy, Option.map_some, Option.getD_some]
  have hgd : ks.getD (a + i) 0 = y.kind := by rw [← hks, List.getD_eq_getElem?_getD, List.getElem?_map, hkk]; exact hka
  refine Wc_seq (Wc_block (Wc_seq (Wc_seq (Wc_ops (Wo_pre 13 (fun call => by simp only [List.take_succ_cons, List.take_zero, List.drop_succ_cons, List.drop_zero, iops_nil, iops_op, iops_grd, iK_some, iG_true, iG_false, gval_bool, beq_self_eq_true, beq_true, beq_false, Bool.not_true, Bool.not_false, iop, ev, upd, dstUpd, binV, binI, unV, ptr, Heap.cell, Heap.write, cellsOf, put, args0, partL, List.getD_cons_zero, List.getD_cons_succ, List.length_cons, List.length_nil, List.set_cons_zero, List.set_cons_succ, List.getElem?_cons_zero, List.getElem?_cons_succ, reduceIte, Nat.reduceEqDiff, Nat.reduceAdd, Nat.reduceMul, Nat.reduceLeDiff, Nat.zero_add, Nat.add_zero, Option.map_some, Int.reduceEq, Int.reduceLT, Int.reduceLE, Bool.false_eq_true, decide_true, decide_false, ge_iff_le, gt_iff_lt, set_get', h7', f0, f1, hkvb, z, idx_ok hlt, hgk, hcell, hvb5, idx_ok hkkl, hg5, hkind]; rfl) ?_)))))
  refine Wo_take (by simp only [upd, dstUpd, reduceIte, Nat.reduceEqDiff, gval_bool]; rfl) (Wo_call (Wk_pure (letters_ok F.letters) ?_))
  refine (Wo_pre 1 (fun call => by simp only [List.take_succ_cons, List.take_zero, List.drop_succ_cons, List.drop_zero, iops_nil, iops_op, iops_grd, iK_some, iG_true, iG_false, gval_bool, beq_self_eq_true, beq_true, beq_false, Bool.not_true, Bool.not_false, iop, ev, upd, dstUpd, binV, binI, unV, ptr, Heap.cell, Heap.write, cellsOf, put, args0, partL, List.getD_cons_zero, List.getD_cons_succ, List.length_cons, List.length_nil, List.set_cons_zero, List.set_cons_succ, List.getElem?_cons_zero, List.getElem?_cons_succ, reduceIte, Nat.reduceEqDiff, Nat.reduceAdd, Nat.reduceMul, Nat.reduceLeDiff, Nat.zero_add, Nat.add_zero, Option.map_some, Int.reduceEq, Int.reduceLT, Int.reduceLE, Bool.false_eq_true, decide_true, decide_false, ge_iff_le, gt_iff_lt, set_get', f10]; rfl) ?_)
  refine Wo_take (by simp only [upd, dstUpd, reduceIte, Nat.reduceEqDiff, gval_bool]; rfl) (Wo_call (Wk_kept (hasRune_ok F.hasRune (c := c.toNat) (letters_asc y.kind)) fun h5 k5 => ?_))
  refine (Wo_run (fun call => by simp only [List.drop_succ_cons, List.drop_zero, iops_nil, iops_op, iops_grd, iK_some, iG_true, iG_false, gval_bool, beq_self_eq_true, beq_true, beq_false, Bool.not_true, Bool.not_false, iop, ev, upd, dstUpd, binV, binI, unV, ptr, Heap.cell, Heap.write, cellsOf, put, args0, partL, List.getD_cons_zero, List.getD_cons_succ, List.length_cons, List.length_nil, List.set_cons_zero, List.set_cons_succ, List.getElem?_cons_zero, List.getElem?_cons_succ, reduceIte, Nat.reduceEqDiff, Nat.reduceAdd, Nat.reduceMul, Nat.reduceLeDiff, Nat.zero_add, Nat.add_zero, Option.map_some, Int.reduceEq, Int.reduceLT, Int.reduceLE, Bool.false_eq_true, decide_true, decide_false, ge_iff_le, gt_iff_lt, set_get']; rfl) ?_)
  show Wc T _ _ _
  cases hh : hasB (lettersOf y.kind) c.toNat
  · refine Wc_cond true (by simp only [upd, dstUpd, args0, List.getD_cons_zero, List.getD_cons_succ, reduceIte, Nat.reduceEqDiff, ptr, hh] <;> first | rfl | assumption | (symm; assumption)) (fun _ => ?_) (fun e => by cases e)
    refine Wc_seq (Wc_ops (Wo_run (fun call => by simp only [List.drop_succ_cons, List.drop_zero, iops_nil, iops_op, iops_grd, iK_some, iG_true, iG_false, gval_bool, beq_self_eq_true, beq_true, beq_false, Bool.not_true, Bool.not_false, iop, ev, upd, dstUpd, binV, binI, unV, ptr, Heap.cell, Heap.write, cellsOf, put, args0, partL, List.getD_cons_zero, List.getD_cons_succ, List.length_cons, List.length_nil, List.set_cons_zero, List.set_cons_succ, List.getElem?_cons_zero, List.getElem?_cons_succ, reduceIte, Nat.reduceEqDiff, Nat.reduceAdd, Nat.reduceMul, Nat.reduceLeDiff, Nat.zero_add, Nat.add_zero, Option.map_some, Int.reduceEq, Int.reduceLT, Int.reduceLE, Bool.false_eq_true, decide_true, decide_false, ge_iff_le, gt_iff_lt, set_get']; rfl) ?_))
    exact Wc_ret (fin _ _ _ false (hk4.trans k5) (.inr rfl) (by simp only [upd, dstUpd, args0, List.getD_cons_zero, List.getD_cons_succ, reduceIte, Nat.reduceEqDiff, ptr] <;> first | rfl | assumption | (symm; assumption)) (hbad (by rw [hgd, hh, Bool.and_false])))
  refine Wc_cond false (by simp only [upd, dstUpd, args0, List.getD_cons_zero, List.getD_cons_succ, reduceIte, Nat.reduceEqDiff, ptr, hh] <;> first | rfl | assumption | (symm; assumption)) (fun e => by cases e) (fun _ => Wc_skip ?_)
  show Wc T _ _ _
  have w1 : IntKind.i64.wrap (((a + i : Nat) : Int) + 1) = ((a + (i + 1) : Nat) : Int) := by rw [wrap64] <;> omega
  have hNb : N ≤ 10000 ∧ -10000 ≤ N := by
    have hrange := atB_range (c := c.toNat) (l := bs s) (i := 0)
    rw [← bs_size] at hrange
    rw [← hN, manyI]
    split <;> omega
  have w2 : IntKind.i64.wrap (N - i - 1) = N - ((i + 1 : Nat) : Int) := by rw [wrap64] <;> omega
  refine Wc_ops (Wo_run (fun call => by simp only [List.drop_succ_cons, List.drop_zero, iops_nil, iops_op, iops_grd, iK_some, iG_true, iG_false, gval_bool, beq_self_eq_true, beq_true, beq_false, Bool.not_true, Bool.not_false, iop, ev, upd, dstUpd, binV, binI, unV, ptr, Heap.cell, Heap.write, cellsOf, put, args0, partL, List.getD_cons_zero, List.getD_cons_succ, List.length_cons, List.length_nil, List.set_cons_zero, List.set_cons_succ, List.getElem?_cons_zero, List.getElem?_cons_succ, reduceIte, Nat.reduceEqDiff, Nat.reduceAdd, Nat.reduceMul, Nat.reduceLeDiff, Nat.zero_add, Nat.add_zero, Option.map_some, Int.reduceEq, Int.reduceLT, Int.reduceLE, Bool.false_eq_true, decide_true, decide_false, ge_iff_le, gt_iff_lt, set_get', h7', w1]; rfl) ?_)
  show Wc T _ _ _
  refine Wc_ops (Wo_run (fun call => by simp only [List.drop_succ_cons, List.drop_zero, iops_nil, iops_op, iops_grd, iK_some, iG_true, iG_false, gval_bool, beq_self_eq_true, beq_true, beq_false, Bool.not_true, Bool.not_false, iop, ev, upd, dstUpd, binV, binI, unV, ptr, Heap.cell, Heap.write, cellsOf, put, args0, partL, List.getD_cons_zero, List.getD_cons_succ, List.length_cons, List.length_nil, List.set_cons_zero, List.set_cons_succ, List.getElem?_cons_zero, List.getElem?_cons_succ, reduceIte, Nat.reduceEqDiff, Nat.reduceAdd, Nat.reduceMul, Nat.reduceLeDiff, Nat.zero_add, Nat.add_zero, Option.map_some, Int.reduceEq, Int.reduceLT, Int.reduceLE, Bool.false_eq_true, decide_true, decide_false, ge_iff_le, gt_iff_lt, set_get', h11, w2]; rfl) ?_)
  refine ⟨⟨rfl, hk4.trans k5, Nat.lt_of_lt_of_le hnx k5.next, by rw [k5.get _ hnx]; exact hg4, i + 1, by omega, (by simp only [upd, dstUpd, args0, List.getD_cons_zero, List.getD_cons_succ, reduceIte, Nat.reduceEqDiff, ptr] <;> first | rfl | assumption | (symm; assumption)), (by simp only [upd, dstUpd, args0, List.getD_cons_zero, List.getD_cons_succ, reduceIte, Nat.reduceEqDiff, ptr] <;> first | rfl | assumption | (symm; assumption)), ?_⟩, ?_⟩
  · rw [okN, hok, hgd, hh, decide_eq_true (show a + i < ks.length by omega)]; rfl
  · simp only [upd, dstUpd, reduceIte, Nat.reduceEqDiff, h11]
    exact (Int.toNat_lt_toNat (by omega)).2 (by omega)

end Go.Idl
end

section
/- Kids that are as the reference wants them fit. -/
namespace Go.Idl
set_option linter.unusedVariables false
set_option linter.unusedSimpArgs false
set_option maxRecDepth 100000

/-- The kids of all kinds, a letter each. -/
def wantL : List (Int × ByteArray) := [(1, ⟨#[42, 100]⟩), (2, ⟨#[42, 110]⟩), (3, ⟨#[42, 110, 98]⟩), (4, ⟨#[42, 115]⟩), (5, ⟨#[101]⟩), (6, ⟨#[112, 101]⟩), (7, ⟨#[101, 98, 111]⟩), (8, ⟨#[101, 98]⟩), (9, ⟨#[101]⟩), (10, ⟨#[101]⟩), (11, ⟨#[101]⟩), (12, ⟨#[99]⟩), (13, ⟨#[42, 110]⟩), (14, ⟨#[]⟩), (15, ⟨#[]⟩), (16, ⟨#[]⟩), (17, ⟨#[]⟩), (18, ⟨#[101]⟩), (19, ⟨#[101, 101]⟩), (20, ⟨#[101]⟩), (21, ⟨#[101, 101]⟩), (22, ⟨#[42, 101]⟩), (23, ⟨#[]⟩), (24, ⟨#[101]⟩), (25, ⟨#[101]⟩), (26, ⟨#[]⟩), (27, ⟨#[101]⟩), (28, ⟨#[]⟩), (29, ⟨#[101]⟩), (30, ⟨#[]⟩)]
def wantOf (k : Int) : ByteArray := match wantL.find? fun p => p.1 == k with
  | some p => p.2
  | none => ⟨#[]⟩

theorem has_e {k : Int} (h : exprB k = true) : hasB (lettersOf k) 101 = true := by
  have h := of_decide_eq_true h
  rcases (by omega : k = 15 ∨ k = 16 ∨ k = 17 ∨ k = 18 ∨ k = 19 ∨ k = 20 ∨ k = 21 ∨ k = 22 ∨ k = 23 ∨ k = 24 ∨ k = 25 ∨ k = 26 ∨ k = 27 ∨ k = 28 ∨ k = 29 ∨ k = 30) with rfl | rfl | rfl | rfl | rfl | rfl | rfl | rfl | rfl | rfl | rfl | rfl | rfl | rfl | rfl | rfl <;> decide
theorem has_s {k : Int} (h : stmtB k = true) : hasB (lettersOf k) 115 = true := by
  have h := of_decide_eq_true h
  rcases (by omega : k = 5 ∨ k = 6 ∨ k = 7 ∨ k = 8 ∨ k = 9 ∨ k = 10 ∨ k = 11 ∨ k = 12 ∨ k = 13) with rfl | rfl | rfl | rfl | rfl | rfl | rfl | rfl | rfl <;> decide
theorem has_n {k : Int} (h : (k == 17) = true) : hasB (lettersOf k) 110 = true := by rw [beq_iff_eq.1 h]; decide
theorem has_d {k : Int} (h : (k == 2 || k == 3) = true) : hasB (lettersOf k) 100 = true := by
  rw [Bool.or_eq_true, beq_iff_eq, beq_iff_eq] at h
  rcases h with rfl | rfl <;> decide
theorem has_b {k : Int} (h : (k == 4) = true) : hasB (lettersOf k) 98 = true := by rw [beq_iff_eq.1 h]; decide
theorem has_o {k : Int} (h : (k == 4 || k == 14) = true) : hasB (lettersOf k) 111 = true := by
  rw [Bool.or_eq_true, beq_iff_eq, beq_iff_eq] at h
  rcases h with rfl | rfl <;> decide
theorem has_p {k : Int} (h : (k == 17 || k == 20 || k == 21 || k == 30) = true) : hasB (lettersOf k) 112 = true := by
  rw [Bool.or_eq_true, Bool.or_eq_true, Bool.or_eq_true, beq_iff_eq, beq_iff_eq, beq_iff_eq, beq_iff_eq] at h
  rcases h with ((rfl | rfl) | rfl) | rfl <;> decide
theorem has_c {k : Int} (h : (k == 22) = true) : hasB (lettersOf k) 99 = true := by rw [beq_iff_eq.1 h]; decide

theorem okN_all {ks : List Int} {c : Int} {a : Nat} : ∀ {n : Nat}, (∀ i, i < n → a + i < ks.length ∧ hasB (lettersOf (ks.getD (a + i) 0)) c = true) → okN ks c a n = true
  | 0, _ => rfl
  | n + 1, h => by
    rw [okN, okN_all (n := n) (fun i hi => h i (by omega)), decide_eq_true (h n (Nat.lt_succ_self _)).1, (h n (Nat.lt_succ_self _)).2]; rfl

theorem getD_mem {ks : List Int} {i : Nat} (h : i < ks.length) : ks.getD i 0 ∈ ks := by
  rw [List.getD_eq_getElem?_getD, List.getElem?_eq_getElem h]; exact List.getElem_mem h

theorem fit_star {ks : List Int} {x : UInt8} (hx : ((x.toNat : Nat) : Int) ≠ 42) (h : ∀ k ∈ ks, hasB (lettersOf k) x.toNat = true) : fitB ⟨#[42, x]⟩ ks = true := by
  have hm : manyI ⟨#[42, x]⟩ ks x.toNat 0 true = ks.length := by
    have : atB (bs ⟨#[42, x]⟩) ((x.toNat : Nat) : Int) 0 = 1 := by
      show atB [42, x] _ 0 = 1
      rw [atB, if_neg (fun e => hx e.symm), atB, if_pos rfl]; rfl
    rw [manyI, this]
    show (ks.length : Int) - ((0 : Nat) : Int) - ((2 : Int) - 1 - 1) = ks.length
    omega
  have hf : fitF ⟨#[42, x]⟩ ks [42, x] 0 false = some ks.length := by
    rw [fitF, if_pos (by decide), fitF, if_neg hx, hm, Int.toNat_natCast, okN_all (fun i hi => ⟨by omega, h _ (getD_mem (by omega))⟩), if_pos rfl, fitF, Nat.zero_add]
  rw [fitB, show bs ⟨#[42, x]⟩ = [42, x] from rfl, hf]
  exact decide_eq_true rfl
theorem fit_fn {ks : List Int} (h0 : 0 < ks.length) (h : ((ks.take (ks.length - 1)).all fun k => k == 17) = true) (hb : (ks.getD (ks.length - 1) 0 == 4) = true) : fitB ⟨#[42, 110, 98]⟩ ks = true := by
  have hm : manyI ⟨#[42, 110, 98]⟩ ks 110 0 true = ((ks.length - 1 : Nat) : Int) := by
    have : atB (bs ⟨#[42, 110, 98]⟩) 110 0 = 1 := by decide
    rw [manyI, this]
    show (ks.length : Int) - ((0 : Nat) : Int) - ((3 : Int) - 1 - 1) = ((ks.length - 1 : Nat) : Int)
    omega
  have h1 : okN ks 110 0 (ks.length - 1) = true := okN_all fun i hi => ⟨by omega, has_n (by
    have hi2 : (ks.take (ks.length - 1))[i]? = some (ks.getD i 0) := by rw [List.getElem?_take, if_pos hi, List.getD_eq_getElem?_getD, List.getElem?_eq_getElem (by omega)]; rfl
    rw [Nat.zero_add]
    exact List.all_eq_true.1 h _ (List.mem_of_getElem? hi2))⟩
  have h2 : okN ks 98 (ks.length - 1) 1 = true := okN_all fun i hi => by
    have : i = 0 := by omega
    subst this
    exact ⟨by omega, has_b hb⟩
  have hf : fitF ⟨#[42, 110, 98]⟩ ks [42, 110, 98] 0 false = some ks.length := by
    rw [fitF, if_pos (by decide), fitF, if_neg (by decide), show ((UInt8.toNat 110 : Nat) : Int) = 110 from rfl, hm, Int.toNat_natCast, h1, if_pos rfl, fitF, if_neg (by decide), show ((UInt8.toNat 98 : Nat) : Int) = 98 from rfl, Nat.zero_add]
    have : manyI ⟨#[42, 110, 98]⟩ ks 98 (ks.length - 1) false = 1 := rfl
    rw [this, show Int.toNat 1 = 1 from rfl, h2, if_pos rfl, fitF, show ks.length - 1 + 1 = ks.length by omega]
  rw [fitB, show bs ⟨#[42, 110, 98]⟩ = [42, 110, 98] from rfl, hf]
  exact decide_eq_true rfl
theorem fit_list (x : List UInt8) (ks : List Int) (hx : ∀ c ∈ x, ((c.toNat : Nat) : Int) ≠ 42) (h : ks.length = x.length) (hh : ∀ i c, x[i]? = some c → hasB (lettersOf (ks.getD i 0)) c.toNat = true) : fitB ⟨x.toArray⟩ ks = true := by
  have key : ∀ (y : List UInt8) (a : Nat), x.drop a = y → a ≤ ks.length → fitF ⟨x.toArray⟩ ks y a false = some ks.length := by
    intro y
    induction y with
    | nil =>
      intro a ha hle
      have : x.length ≤ a := by
        rcases Nat.lt_or_ge a x.length with h1 | h1
        · have := congrArg List.length ha
          rw [List.length_drop] at this; simp at this; omega
        · exact h1
      rw [fitF, show a = ks.length by omega]
    | cons c y ih =>
      intro a ha hle
      have hlt : a < x.length := by
        rcases Nat.lt_or_ge a x.length with h1 | h1
        · exact h1
        · rw [List.drop_of_length_le h1] at ha; cases ha
      have hc : x[a]? = some c := by
        have := congrArg (fun l => l[0]?) ha
        simpa [List.getElem?_drop] using this
      have hm : manyI ⟨x.toArray⟩ ks c.toNat a false = 1 := rfl
      have hok : okN ks c.toNat a 1 = true := okN_all fun i hi => by
        have : i = 0 := by omega
        subst this
        exact ⟨by omega, hh a c hc⟩
      rw [fitF, if_neg (hx c (List.mem_of_getElem? hc)), hm, show Int.toNat 1 = 1 from rfl, hok, if_pos rfl]
      refine ih (a + 1) ?_ (by omega)
      rw [List.drop_add_one_eq_tail_drop, ha]; rfl
  rw [fitB, show bs ⟨x.toArray⟩ = x from rfl, key x 0 rfl (Nat.zero_le _)]
  exact decide_eq_true rfl

theorem exprs_facts {ks : List Int} {n : Nat} (h : exprsB ks n = true) : ks.length = n ∧ ∀ k ∈ ks, exprB k = true := by
  simp only [exprsB, Bool.and_eq_true, beq_iff_eq, List.all_eq_true] at h
  exact ⟨by omega, h.1⟩

theorem fitE1 {ks : List Int} (h : exprsB ks ((1 : Nat) : Int) = true) : fitB ⟨#[101]⟩ ks = true := by
  obtain ⟨h1, h2⟩ := exprs_facts h
  refine fit_list [101] ks (by decide) h1 fun i c hc => ?_
  match i with
  | 0 => simp at hc; subst hc; exact has_e (h2 _ (getD_mem (by omega)))
  | i + 1 => simp at hc
theorem fitE2 {ks : List Int} (h : exprsB ks ((2 : Nat) : Int) = true) : fitB ⟨#[101, 101]⟩ ks = true := by
  obtain ⟨h1, h2⟩ := exprs_facts h
  refine fit_list [101, 101] ks (by decide) h1 fun i c hc => ?_
  match i with
  | 0 => simp at hc; subst hc; exact has_e (h2 _ (getD_mem (by omega)))
  | 1 => simp at hc; subst hc; exact has_e (h2 _ (getD_mem (by omega)))
  | i + 2 => simp at hc
theorem fitE0 {ks : List Int} (h : decide (ks.length = 0) = true) : fitB ⟨#[]⟩ ks = true :=
  fit_list [] ks (by decide) (of_decide_eq_true h) fun i c hc => by simp at hc

theorem fit_of_shape {k : Int} {ks : List Int} (h1 : 1 ≤ k) (h2 : k ≤ 30) (h : shapeB k ks = true) : fitB (wantOf k) ks = true := by
  rcases (by omega : k = 1 ∨ k = 2 ∨ k = 3 ∨ k = 4 ∨ k = 5 ∨ k = 6 ∨ k = 7 ∨ k = 8 ∨ k = 9 ∨ k = 10 ∨ k = 11 ∨ k = 12 ∨ k = 13 ∨ k = 14 ∨ k = 15 ∨ k = 16 ∨ k = 17 ∨ k = 18 ∨ k = 19 ∨ k = 20 ∨ k = 21 ∨ k = 22 ∨ k = 23 ∨ k = 24 ∨ k = 25 ∨ k = 26 ∨ k = 27 ∨ k = 28 ∨ k = 29 ∨ k = 30) with rfl | rfl | rfl | rfl | rfl | rfl | rfl | rfl | rfl | rfl | rfl | rfl | rfl | rfl | rfl | rfl | rfl | rfl | rfl | rfl | rfl | rfl | rfl | rfl | rfl | rfl | rfl | rfl | rfl | rfl
  · show fitB ⟨#[42, 100]⟩ ks = true
    exact fit_star (x := 100) (by decide) fun k hk => has_d (List.all_eq_true.1 (show (ks.all fun k => k == 2 || k == 3) = true from h) k hk)
  · show fitB ⟨#[42, 110]⟩ ks = true
    exact fit_star (x := 110) (by decide) fun k hk => has_n (List.all_eq_true.1 (show (ks.all fun k => k == 17) = true from h) k hk)
  · show fitB ⟨#[42, 110, 98]⟩ ks = true
    have h : (decide (0 < ks.length) && ((ks.take (ks.length - 1)).all fun k => k == 17) && (ks.getD (ks.length - 1) 0 == 4)) = true := h
    simp only [Bool.and_eq_true, decide_eq_true_eq] at h
    exact fit_fn h.1.1 h.1.2 h.2
  · show fitB ⟨#[42, 115]⟩ ks = true
    exact fit_star (x := 115) (by decide) fun k hk => has_s (List.all_eq_true.1 (show ks.all stmtB = true from h) k hk)
  · show fitB ⟨#[101]⟩ ks = true
    exact fitE1 h
  · show fitB ⟨#[112, 101]⟩ ks = true
    have h : (exprsB ks ((2 : Nat) : Int) && (ks.getD 0 0 == 17 || ks.getD 0 0 == 20 || ks.getD 0 0 == 21 || ks.getD 0 0 == 30)) = true := h
    rw [Bool.and_eq_true] at h
    obtain ⟨h3, h4⟩ := exprs_facts h.1
    refine fit_list [112, 101] ks (by decide) h3 fun i c hc => ?_
    match i with
    | 0 => simp at hc; subst hc; exact has_p h.2
    | 1 => simp at hc; subst hc; exact has_e (h4 _ (getD_mem (by omega)))
    | i + 2 => simp at hc
  · show fitB ⟨#[101, 98, 111]⟩ ks = true
    have h : (decide (ks.length = 3) && exprB (ks.getD 0 0) && (ks.getD 1 0 == 4) && (ks.getD 2 0 == 4 || ks.getD 2 0 == 14)) = true := h
    rw [Bool.and_eq_true, Bool.and_eq_true, Bool.and_eq_true, decide_eq_true_iff] at h
    refine fit_list [101, 98, 111] ks (by decide) h.1.1.1 fun i c hc => ?_
    match i with
    | 0 => simp at hc; subst hc; exact has_e h.1.1.2
    | 1 => simp at hc; subst hc; exact has_b h.1.2
    | 2 => simp at hc; subst hc; exact has_o h.2
    | i + 3 => simp at hc
  · show fitB ⟨#[101, 98]⟩ ks = true
    have h : (decide (ks.length = 2) && exprB (ks.getD 0 0) && (ks.getD 1 0 == 4)) = true := h
    rw [Bool.and_eq_true, Bool.and_eq_true, decide_eq_true_iff] at h
    refine fit_list [101, 98] ks (by decide) h.1.1 fun i c hc => ?_
    match i with
    | 0 => simp at hc; subst hc; exact has_e h.1.2
    | 1 => simp at hc; subst hc; exact has_b h.2
    | i + 2 => simp at hc
  · show fitB ⟨#[101]⟩ ks = true
    exact fitE1 h
  · show fitB ⟨#[101]⟩ ks = true
    exact fitE1 h
  · show fitB ⟨#[101]⟩ ks = true
    exact fitE1 h
  · show fitB ⟨#[99]⟩ ks = true
    have h : (decide (ks.length = 1) && (ks.getD 0 0 == 22)) = true := h
    rw [Bool.and_eq_true, decide_eq_true_iff] at h
    refine fit_list [99] ks (by decide) h.1 fun i c hc => ?_
    match i with
    | 0 => simp at hc; subst hc; exact has_c h.2
    | i + 1 => simp at hc
  · show fitB ⟨#[42, 110]⟩ ks = true
    exact fit_star (x := 110) (by decide) fun k hk => has_n (List.all_eq_true.1 (show (ks.all fun k => k == 17) = true from h) k hk)
  · show fitB ⟨#[]⟩ ks = true
    exact fitE0 h
  · show fitB ⟨#[]⟩ ks = true
    exact fitE0 h
  · show fitB ⟨#[]⟩ ks = true
    exact fitE0 h
  · show fitB ⟨#[]⟩ ks = true
    exact fitE0 h
  · show fitB ⟨#[101]⟩ ks = true
    exact fitE1 h
  · show fitB ⟨#[101, 101]⟩ ks = true
    exact fitE2 h
  · show fitB ⟨#[101]⟩ ks = true
    exact fitE1 h
  · show fitB ⟨#[101, 101]⟩ ks = true
    exact fitE2 h
  · show fitB ⟨#[42, 101]⟩ ks = true
    exact fit_star (x := 101) (by decide) fun k hk => has_e ((exprs_facts (show exprsB ks ks.length = true from h)).2 k hk)
  · show fitB ⟨#[]⟩ ks = true
    exact fitE0 h
  · show fitB ⟨#[101]⟩ ks = true
    exact fitE1 h
  · show fitB ⟨#[101]⟩ ks = true
    exact fitE1 h
  · show fitB ⟨#[]⟩ ks = true
    exact fitE0 h
  · show fitB ⟨#[101]⟩ ks = true
    exact fitE1 h
  · show fitB ⟨#[]⟩ ks = true
    exact fitE0 h
  · show fitB ⟨#[101]⟩ ks = true
    exact fitE1 h
  · show fitB ⟨#[]⟩ ks = true
    exact fitE0 h

end Go.Idl
end

section
/- A node's text, by the program, where the reference is content. -/
namespace Go.Idl
set_option linter.unusedVariables false
set_option linter.unusedSimpArgs false
set_option maxRecDepth 100000

variable {T : Tbl}

def sgnS : ByteArray := ⟨#[45, 33, 126]⟩
def opsS : ByteArray := ⟨#[32, 43, 32, 45, 32, 42, 32, 47, 32, 37, 32, 60, 60, 32, 62, 62, 32, 38, 32, 94, 32, 124, 32, 61, 61, 32, 33, 61, 32, 60, 32, 60, 61, 32]⟩
/-- The pairs that strings.Contains is asked of a right tree. -/
def conP (s t : ByteArray) : Bool := (decide (s = sgnS) && sgnB t) || (decide (s = opsS) && opsL.any fun w => decide (t = ⟨#[32]⟩ ++ w ++ ⟨#[32]⟩))

structure SaysFns (T : Tbl) : Prop where
  says : T.fn 23 = some C23
  Name : T.fn 29 = some C29
  classes : ∀ (h : Heap) (K : Out → Heap → Prop), K (.ret clsV) h → Wk T (.fn 42) [] h K
  peek : T.fn 43 = some C43
  goes : T.fn 44 = some C44
  word : T.fn 45 = some C45
  reserved : T.fn 53 = some C53
  Number : T.fn 30 = some C30
  worth : T.fn 46 = some C46
  con : ∀ (s t : ByteArray) (h : Heap) (K : Out → Heap → Prop), conP s t = true → K (.ret (.bool true)) h → Wk T (.fn 31) [.string s, .string t] h K

theorem sgn_size {s : ByteArray} (h : sgnB s = true) : s.size = 1 := by
  simp only [sgnB, Bool.or_eq_true, decide_eq_true_eq] at h
  rcases h with (h | h) | h <;> subst h <;> rfl
theorem op_facts {s : ByteArray} (h : opB s = true) : decide (s = ⟨#[]⟩) = false ∧ s.size ≤ 2 ∧ (opsL.any fun w => decide (⟨#[32]⟩ ++ s ++ ⟨#[32]⟩ = (⟨#[32]⟩ ++ w ++ ⟨#[32]⟩ : ByteArray))) = true := by
  obtain ⟨w, hw, h1⟩ := List.any_eq_true.1 h
  have h1 := of_decide_eq_true h1
  subst h1
  refine ⟨?_, ?_, List.any_eq_true.2 ⟨s, hw, decide_eq_true rfl⟩⟩
  · exact decide_eq_false fun e => by
      have : ∀ w ∈ opsL, w.size ≠ 0 := by decide
      exact this s hw (by rw [e]; rfl)
  · have : ∀ w ∈ opsL, w.size ≤ 2 := by decide
    exact this s hw
theorem dig_facts {s : ByteArray} {c : UInt8} (hc : (bs s)[0]? = some c) (h : digB s = true) : (numR (bs s)).2 = true ∧ (decide (s = ⟨#[48]⟩) = true ∨ ((49 : Int) ≤ ((c.toNat : Nat) : Int) ∧ ((c.toNat : Nat) : Int) ≤ 57)) := by
  rw [digB, bt_at hc] at h
  simp only [Bool.and_eq_true, Bool.or_eq_true, decide_eq_true_eq, Bool.not_eq_true', beq_eq_false_iff_ne] at h
  obtain ⟨⟨⟨h1, h2⟩, h3⟩, h4⟩ := h
  refine ⟨h1, ?_⟩
  by_cases h48 : ((c.toNat : Nat) : Int) = 48
  · left
    rcases h4 with h4 | h4
    · refine decide_eq_true (bs_inj ?_)
      have hl : (bs s).length = 1 := by rw [← bs_size]; exact h4
      match hb : bs s, hl, hc with
      | [x], _, hx =>
        simp at hx
        subst hx
        have : x = 48 := UInt8.toNat_inj.1 (by simp; omega)
        rw [this]; rfl
    · exact absurd h48 h4
  · right; omega

theorem says_ok (F : SaysFns T) {x : Nd} {h : Heap} (hs : x.text.size < 4611686018427387904) (ht : textB x.kind x.text = true) : Wk T (.fn 23) [.agg x.cells.toArray] h (fun o h' => Kept h h' ∧ o = .ret (.bool true)) := by
  refine Wk_fn F.says (by simp [C23]) ?_
  simp only [C23]
  refine Wc_seq (Wc_ops (Wo_box (cs := x.cells) rfl fun h1 n1 => (Wo_run (fun call => by simp only [List.drop_succ_cons, List.drop_zero, iops_nil, iops_op, iops_grd, iK_some, iG_true, iG_false, gval_bool, beq_self_eq_true, beq_true, beq_false, Bool.not_true, Bool.not_false, iop, ev, upd, dstUpd, binV, binI, unV, ptr, Heap.cell, Heap.write, cellsOf, put, args0, partL, List.getD_cons_zero, List.getD_cons_succ, List.length_cons, List.length_nil, List.set_cons_zero, List.set_cons_succ, List.getElem?_cons_zero, List.getElem?_cons_succ, reduceIte, Nat.reduceEqDiff, Nat.reduceAdd, Nat.reduceMul, Nat.reduceLeDiff, Nat.zero_add, Nat.add_zero, Option.map_some, Int.reduceEq, Int.reduceLT, Int.reduceLE, Bool.false_eq_true, decide_true, decide_false, ge_iff_le, gt_iff_lt, set_get']; rfl) ?_)))
  show Wc T _ _ _
  have fin : ∀ (e : Env) (h2 : Heap) (x' : Ex), Kept h1 h2 → (x' = .normal ∨ x' = .ret) → e 2 = .bool true → (x' = .normal ∨ x' = .ret) ∧ some ([] : List Dfr) = some [] ∧ ∃ vs, resAll e h2 [.tmp 2] = some vs ∧ Kept h h2 ∧ Out.ret (tup vs) = .ret (.bool true) := fun e h2 x' hk hx h4 =>
    ⟨hx, rfl, [.bool true], by simp only [resAll, resV, h4], n1.kept.trans hk, rfl⟩
  have hg := n1.get
  refine Wc_seq (Wc_seq (Wc_ops (Wo_run (fun call => by simp only [List.drop_succ_cons, List.drop_zero, iops_nil, iops_op, iops_grd, iK_some, iG_true, iG_false, gval_bool, beq_self_eq_true, beq_true, beq_false, Bool.not_true, Bool.not_false, iop, ev, upd, dstUpd, binV, binI, unV, ptr, Heap.cell, Heap.write, cellsOf, put, args0, partL, List.getD_cons_zero, List.getD_cons_succ, List.length_cons, List.length_nil, List.set_cons_zero, List.set_cons_succ, List.getElem?_cons_zero, List.getElem?_cons_succ, reduceIte, Nat.reduceEqDiff, Nat.reduceAdd, Nat.reduceMul, Nat.reduceLeDiff, Nat.zero_add, Nat.add_zero, Option.map_some, Int.reduceEq, Int.reduceLT, Int.reduceLE, Bool.false_eq_true, decide_true, decide_false, ge_iff_le, gt_iff_lt, set_get', hg, Nd.cells]; rfl) ?_)))
  show Wc T _ _ _
  refine Wc_block ?_
  refine Wc_mid (fun s' => s'.d = some [] ∧ s'.h = h1 ∧ s'.e 1 = ptr h.next 0 ∧ s'.e 6 = .int .i64 x.kind ∧ s'.e 7 = .bool (mem7 x.kind)) ?_ ?_
  · clear fin
    refine Wc_case (by simp only [upd, dstUpd, args0, List.getD_cons_zero, List.getD_cons_succ, reduceIte, Nat.reduceEqDiff, ptr] <;> first | rfl | assumption | (symm; assumption)) (fun y => Wc_skip ⟨rfl, rfl, (by simp only [upd, dstUpd, args0, List.getD_cons_zero, List.getD_cons_succ, reduceIte, Nat.reduceEqDiff, ptr] <;> first | rfl | assumption | (symm; assumption)), (by simp only [upd, dstUpd, args0, List.getD_cons_zero, List.getD_cons_succ, reduceIte, Nat.reduceEqDiff, ptr] <;> first | rfl | assumption | (symm; assumption)), by simp only [upd, dstUpd, reduceIte, Nat.reduceEqDiff, mem7, y, true_or, or_true, decide_true]; try rfl⟩) (fun m0 => ?_)
    refine Wc_case (by simp only [upd, dstUpd, args0, List.getD_cons_zero, List.getD_cons_succ, reduceIte, Nat.reduceEqDiff, ptr] <;> first | rfl | assumption | (symm; assumption)) (fun y => Wc_skip ⟨rfl, rfl, (by simp only [upd, dstUpd, args0, List.getD_cons_zero, List.getD_cons_succ, reduceIte, Nat.reduceEqDiff, ptr] <;> first | rfl | assumption | (symm; assumption)), (by simp only [upd, dstUpd, args0, List.getD_cons_zero, List.getD_cons_succ, reduceIte, Nat.reduceEqDiff, ptr] <;> first | rfl | assumption | (symm; assumption)), by simp only [upd, dstUpd, reduceIte, Nat.reduceEqDiff, mem7, y, true_or, or_true, decide_true]; try rfl⟩) (fun m1 => ?_)
    refine Wc_case (by simp only [upd, dstUpd, args0, List.getD_cons_zero, List.getD_cons_succ, reduceIte, Nat.reduceEqDiff, ptr] <;> first | rfl | assumption | (symm; assumption)) (fun y => Wc_skip ⟨rfl, rfl, (by simp only [upd, dstUpd, args0, List.getD_cons_zero, List.getD_cons_succ, reduceIte, Nat.reduceEqDiff, ptr] <;> first | rfl | assumption | (symm; assumption)), (by simp only [upd, dstUpd, args0, List.getD_cons_zero, List.getD_cons_succ, reduceIte, Nat.reduceEqDiff, ptr] <;> first | rfl | assumption | (symm; assumption)), by simp only [upd, dstUpd, reduceIte, Nat.reduceEqDiff, mem7, y, true_or, or_true, decide_true]; try rfl⟩) (fun m2 => ?_)
    refine Wc_case (by simp only [upd, dstUpd, args0, List.getD_cons_zero, List.getD_cons_succ, reduceIte, Nat.reduceEqDiff, ptr] <;> first | rfl | assumption | (symm; assumption)) (fun y => Wc_skip ⟨rfl, rfl, (by simp only [upd, dstUpd, args0, List.getD_cons_zero, List.getD_cons_succ, reduceIte, Nat.reduceEqDiff, ptr] <;> first | rfl | assumption | (symm; assumption)), (by simp only [upd, dstUpd, args0, List.getD_cons_zero, List.getD_cons_succ, reduceIte, Nat.reduceEqDiff, ptr] <;> first | rfl | assumption | (symm; assumption)), by simp only [upd, dstUpd, reduceIte, Nat.reduceEqDiff, mem7, y, true_or, or_true, decide_true]; try rfl⟩) (fun m3 => ?_)
    refine Wc_case (by simp only [upd, dstUpd, args0, List.getD_cons_zero, List.getD_cons_succ, reduceIte, Nat.reduceEqDiff, ptr] <;> first | rfl | assumption | (symm; assumption)) (fun y => Wc_skip ⟨rfl, rfl, (by simp only [upd, dstUpd, args0, List.getD_cons_zero, List.getD_cons_succ, reduceIte, Nat.reduceEqDiff, ptr] <;> first | rfl | assumption | (symm; assumption)), (by simp only [upd, dstUpd, args0, List.getD_cons_zero, List.getD_cons_succ, reduceIte, Nat.reduceEqDiff, ptr] <;> first | rfl | assumption | (symm; assumption)), by simp only [upd, dstUpd, reduceIte, Nat.reduceEqDiff, mem7, y, true_or, or_true, decide_true]; try rfl⟩) (fun m4 => ?_)
    refine Wc_case (by simp only [upd, dstUpd, args0, List.getD_cons_zero, List.getD_cons_succ, reduceIte, Nat.reduceEqDiff, ptr] <;> first | rfl | assumption | (symm; assumption)) (fun y => Wc_skip ⟨rfl, rfl, (by simp only [upd, dstUpd, args0, List.getD_cons_zero, List.getD_cons_succ, reduceIte, Nat.reduceEqDiff, ptr] <;> first | rfl | assumption | (symm; assumption)), (by simp only [upd, dstUpd, args0, List.getD_cons_zero, List.getD_cons_succ, reduceIte, Nat.reduceEqDiff, ptr] <;> first | rfl | assumption | (symm; assumption)), by simp only [upd, dstUpd, reduceIte, Nat.reduceEqDiff, mem7, y, true_or, or_true, decide_true]; try rfl⟩) (fun m5 => ?_)
    refine Wc_ops (Wo_run (fun call => by simp only [List.drop_succ_cons, List.drop_zero, iops_nil, iops_op, iops_grd, iK_some, iG_true, iG_false, gval_bool, beq_self_eq_true, beq_true, beq_false, Bool.not_true, Bool.not_false, iop, ev, upd, dstUpd, binV, binI, unV, ptr, Heap.cell, Heap.write, cellsOf, put, args0, partL, List.getD_cons_zero, List.getD_cons_succ, List.length_cons, List.length_nil, List.set_cons_zero, List.set_cons_succ, List.getElem?_cons_zero, List.getElem?_cons_succ, reduceIte, Nat.reduceEqDiff, Nat.reduceAdd, Nat.reduceMul, Nat.reduceLeDiff, Nat.zero_add, Nat.add_zero, Option.map_some, Int.reduceEq, Int.reduceLT, Int.reduceLE, Bool.false_eq_true, decide_true, decide_false, ge_iff_le, gt_iff_lt, set_get']; rfl) ?_)
    exact ⟨rfl, rfl, (by simp only [upd, dstUpd, args0, List.getD_cons_zero, List.getD_cons_succ, reduceIte, Nat.reduceEqDiff, ptr] <;> first | rfl | assumption | (symm; assumption)), (by simp only [upd, dstUpd, args0, List.getD_cons_zero, List.getD_cons_succ, reduceIte, Nat.reduceEqDiff, ptr] <;> first | rfl | assumption | (symm; assumption)), by simp only [upd, dstUpd, reduceIte, Nat.reduceEqDiff, Bool.beq_eq_decide_eq, mem7, m0, m1, m2, m3, m4, m5, false_or]⟩
  rintro ⟨e, h', d⟩ ⟨hd', hh, g1, g6, g7⟩
  simp only at hd' hh g1 g6 g7
  rw [hd', hh]
  have pg : ptr h.next 0 = .pointer (some ⟨h.next, 0, none⟩) := rfl
  rw [pg] at g1
  refine Wc_cond _ g7 (fun y => ?_) (fun n7 => ?_)
  · rw [textB, if_pos y] at ht
    refine Wc_seq (Wc_ops (Wo_pre 2 (fun call => by simp only [List.take_succ_cons, List.take_zero, List.drop_succ_cons, List.drop_zero, iops_nil, iops_op, iops_grd, iK_some, iG_true, iG_false, gval_bool, beq_self_eq_true, beq_true, beq_false, Bool.not_true, Bool.not_false, iop, ev, upd, dstUpd, binV, binI, unV, ptr, Heap.cell, Heap.write, cellsOf, put, args0, partL, List.getD_cons_zero, List.getD_cons_succ, List.length_cons, List.length_nil, List.set_cons_zero, List.set_cons_succ, List.getElem?_cons_zero, List.getElem?_cons_succ, reduceIte, Nat.reduceEqDiff, Nat.reduceAdd, Nat.reduceMul, Nat.reduceLeDiff, Nat.zero_add, Nat.add_zero, Option.map_some, Int.reduceEq, Int.reduceLT, Int.reduceLE, Bool.false_eq_true, decide_true, decide_false, ge_iff_le, gt_iff_lt, set_get', g1, hg, Nd.cells]; rfl) ?_))
    refine Wo_call (Wk_kept (nameS_ok F.Name F.classes F.peek F.goes F.word F.reserved (s := x.text) hs) fun h2 k2 => ?_)
    refine (Wo_run (fun call => by simp only [List.drop_succ_cons, List.drop_zero, iops_nil, iops_op, iops_grd, iK_some, iG_true, iG_false, gval_bool, beq_self_eq_true, beq_true, beq_false, Bool.not_true, Bool.not_false, iop, ev, upd, dstUpd, binV, binI, unV, ptr, Heap.cell, Heap.write, cellsOf, put, args0, partL, List.getD_cons_zero, List.getD_cons_succ, List.length_cons, List.length_nil, List.set_cons_zero, List.set_cons_succ, List.getElem?_cons_zero, List.getElem?_cons_succ, reduceIte, Nat.reduceEqDiff, Nat.reduceAdd, Nat.reduceMul, Nat.reduceLeDiff, Nat.zero_add, Nat.add_zero, Option.map_some, Int.reduceEq, Int.reduceLT, Int.reduceLE, Bool.false_eq_true, decide_true, decide_false, ge_iff_le, gt_iff_lt, set_get', ht]; rfl) ?_)
    exact Wc_ret (fin _ _ _ k2 (.inr rfl) (by simp only [upd, dstUpd, args0, List.getD_cons_zero, List.getD_cons_succ, reduceIte, Nat.reduceEqDiff, ptr] <;> first | rfl | assumption | (symm; assumption)))
  have n7' : ¬ mem7 x.kind = true := by rw [n7]; decide
  rw [textB, if_neg n7'] at ht
  refine Wc_case g6 (fun y15 => ?_) (fun n15 => ?_)
  · rw [if_pos y15] at ht
    refine Wc_seq (Wc_ops (Wo_pre 2 (fun call => by simp only [List.take_succ_cons, List.take_zero, List.drop_succ_cons, List.drop_zero, iops_nil, iops_op, iops_grd, iK_some, iG_true, iG_false, gval_bool, beq_self_eq_true, beq_true, beq_false, Bool.not_true, Bool.not_false, iop, ev, upd, dstUpd, binV, binI, unV, ptr, Heap.cell, Heap.write, cellsOf, put, args0, partL, List.getD_cons_zero, List.getD_cons_succ, List.length_cons, List.length_nil, List.set_cons_zero, List.set_cons_succ, List.getElem?_cons_zero, List.getElem?_cons_succ, reduceIte, Nat.reduceEqDiff, Nat.reduceAdd, Nat.reduceMul, Nat.reduceLeDiff, Nat.zero_add, Nat.add_zero, Option.map_some, Int.reduceEq, Int.reduceLT, Int.reduceLE, Bool.false_eq_true, decide_true, decide_false, ge_iff_le, gt_iff_lt, set_get', g1, hg, Nd.cells]; rfl) ?_))
    refine Wo_call (Wk_pure (numberS_ok F.Number F.worth (s := x.text) (by omega)) ?_)
    refine (Wo_run (fun call => by simp only [List.drop_succ_cons, List.drop_zero, iops_nil, iops_op, iops_grd, iK_some, iG_true, iG_false, gval_bool, beq_self_eq_true, beq_true, beq_false, Bool.not_true, Bool.not_false, iop, ev, upd, dstUpd, binV, binI, unV, ptr, Heap.cell, Heap.write, cellsOf, put, args0, partL, List.getD_cons_zero, List.getD_cons_succ, List.length_cons, List.length_nil, List.set_cons_zero, List.set_cons_succ, List.getElem?_cons_zero, List.getElem?_cons_succ, reduceIte, Nat.reduceEqDiff, Nat.reduceAdd, Nat.reduceMul, Nat.reduceLeDiff, Nat.zero_add, Nat.add_zero, Option.map_some, Int.reduceEq, Int.reduceLT, Int.reduceLE, Bool.false_eq_true, decide_true, decide_false, ge_iff_le, gt_iff_lt, set_get', numV]; rfl) ?_)
    show Wc T _ _ _
    have hnum : (numR (bs x.text)).2 = true := by
      rw [digB] at ht
      simp only [Bool.and_eq_true] at ht
      exact ht.1.1.1
    have h0 := num_ne hnum
    obtain ⟨c, hc⟩ := bs_at h0
    have s0 : x.text.data.toList[0]? = some c := hc
    have i0 := idx0 (k := .i64) h0
    obtain ⟨_, hz | ⟨x0, x1⟩⟩ := dig_facts hc ht
    · refine Wc_seq (Wc_ops (Wo_run (fun call => by simp only [List.drop_succ_cons, List.drop_zero, iops_nil, iops_op, iops_grd, iK_some, iG_true, iG_false, gval_bool, beq_self_eq_true, beq_true, beq_false, Bool.not_true, Bool.not_false, iop, ev, upd, dstUpd, binV, binI, unV, ptr, Heap.cell, Heap.write, cellsOf, put, args0, partL, List.getD_cons_zero, List.getD_cons_succ, List.length_cons, List.length_nil, List.set_cons_zero, List.set_cons_succ, List.getElem?_cons_zero, List.getElem?_cons_succ, reduceIte, Nat.reduceEqDiff, Nat.reduceAdd, Nat.reduceMul, Nat.reduceLeDiff, Nat.zero_add, Nat.add_zero, Option.map_some, Int.reduceEq, Int.reduceLT, Int.reduceLE, Bool.false_eq_true, decide_true, decide_false, ge_iff_le, gt_iff_lt, set_get', hnum, g1, hg, Nd.cells, hz]; rfl) ?_))
      exact Wc_ret (fin _ _ _ (.refl _) (.inr rfl) (by simp only [upd, dstUpd, args0, List.getD_cons_zero, List.getD_cons_succ, reduceIte, Nat.reduceEqDiff, ptr] <;> first | rfl | assumption | (symm; assumption)))
    · cases hz : decide (x.text = ⟨#[48]⟩)
      · refine Wc_seq (Wc_ops (Wo_run (fun call => by simp only [List.drop_succ_cons, List.drop_zero, iops_nil, iops_op, iops_grd, iK_some, iG_true, iG_false, gval_bool, beq_self_eq_true, beq_true, beq_false, Bool.not_true, Bool.not_false, iop, ev, upd, dstUpd, binV, binI, unV, ptr, Heap.cell, Heap.write, cellsOf, put, args0, partL, List.getD_cons_zero, List.getD_cons_succ, List.length_cons, List.length_nil, List.set_cons_zero, List.set_cons_succ, List.getElem?_cons_zero, List.getElem?_cons_succ, reduceIte, Nat.reduceEqDiff, Nat.reduceAdd, Nat.reduceMul, Nat.reduceLeDiff, Nat.zero_add, Nat.add_zero, Option.map_some, Int.reduceEq, Int.reduceLT, Int.reduceLE, Bool.false_eq_true, decide_true, decide_false, ge_iff_le, gt_iff_lt, set_get', hnum, g1, hg, Nd.cells, hz, i0, s0, x0, x1]; rfl) ?_))
        exact Wc_ret (fin _ _ _ (.refl _) (.inr rfl) (by simp only [upd, dstUpd, args0, List.getD_cons_zero, List.getD_cons_succ, reduceIte, Nat.reduceEqDiff, ptr] <;> first | rfl | assumption | (symm; assumption)))
      · refine Wc_seq (Wc_ops (Wo_run (fun call => by simp only [List.drop_succ_cons, List.drop_zero, iops_nil, iops_op, iops_grd, iK_some, iG_true, iG_false, gval_bool, beq_self_eq_true, beq_true, beq_false, Bool.not_true, Bool.not_false, iop, ev, upd, dstUpd, binV, binI, unV, ptr, Heap.cell, Heap.write, cellsOf, put, args0, partL, List.getD_cons_zero, List.getD_cons_succ, List.length_cons, List.length_nil, List.set_cons_zero, List.set_cons_succ, List.getElem?_cons_zero, List.getElem?_cons_succ, reduceIte, Nat.reduceEqDiff, Nat.reduceAdd, Nat.reduceMul, Nat.reduceLeDiff, Nat.zero_add, Nat.add_zero, Option.map_some, Int.reduceEq, Int.reduceLT, Int.reduceLE, Bool.false_eq_true, decide_true, decide_false, ge_iff_le, gt_iff_lt, set_get', hnum, g1, hg, Nd.cells, hz]; rfl) ?_))
        exact Wc_ret (fin _ _ _ (.refl _) (.inr rfl) (by simp only [upd, dstUpd, args0, List.getD_cons_zero, List.getD_cons_succ, reduceIte, Nat.reduceEqDiff, ptr] <;> first | rfl | assumption | (symm; assumption)))
  rw [if_neg n15] at ht
  refine Wc_case (by simp only [upd, dstUpd, args0, List.getD_cons_zero, List.getD_cons_succ, reduceIte, Nat.reduceEqDiff, ptr, g6] <;> first | rfl | assumption | (symm; assumption)) (fun y18 => ?_) (fun n18 => ?_)
  · rw [if_pos y18] at ht
    have hsz := sgn_size ht
    refine Wc_seq (Wc_ops (Wo_pre 7 (fun call => by simp only [List.take_succ_cons, List.take_zero, List.drop_succ_cons, List.drop_zero, iops_nil, iops_op, iops_grd, iK_some, iG_true, iG_false, gval_bool, beq_self_eq_true, beq_true, beq_false, Bool.not_true, Bool.not_false, iop, ev, upd, dstUpd, binV, binI, unV, ptr, Heap.cell, Heap.write, cellsOf, put, args0, partL, List.getD_cons_zero, List.getD_cons_succ, List.length_cons, List.length_nil, List.set_cons_zero, List.set_cons_succ, List.getElem?_cons_zero, List.getElem?_cons_succ, reduceIte, Nat.reduceEqDiff, Nat.reduceAdd, Nat.reduceMul, Nat.reduceLeDiff, Nat.zero_add, Nat.add_zero, Option.map_some, Int.reduceEq, Int.reduceLT, Int.reduceLE, Bool.false_eq_true, decide_true, decide_false, ge_iff_le, gt_iff_lt, set_get', g1, hg, Nd.cells, hsz, show ((1 : Nat) : Int) = 1 from rfl]; rfl) ?_))
    refine Wo_take (by simp only [upd, dstUpd, reduceIte, Nat.reduceEqDiff, gval_bool]; rfl) (Wo_call (F.con _ _ _ _ ?_ ?_))
    · simp only [conP, ht, sgnS, decide_true, Bool.and_self, Bool.true_or]
    refine (Wo_run (fun call => by simp only [List.drop_succ_cons, List.drop_zero, iops_nil, iops_op, iops_grd, iK_some, iG_true, iG_false, gval_bool, beq_self_eq_true, beq_true, beq_false, Bool.not_true, Bool.not_false, iop, ev, upd, dstUpd, binV, binI, unV, ptr, Heap.cell, Heap.write, cellsOf, put, args0, partL, List.getD_cons_zero, List.getD_cons_succ, List.length_cons, List.length_nil, List.set_cons_zero, List.set_cons_succ, List.getElem?_cons_zero, List.getElem?_cons_succ, reduceIte, Nat.reduceEqDiff, Nat.reduceAdd, Nat.reduceMul, Nat.reduceLeDiff, Nat.zero_add, Nat.add_zero, Option.map_some, Int.reduceEq, Int.reduceLT, Int.reduceLE, Bool.false_eq_true, decide_true, decide_false, ge_iff_le, gt_iff_lt, set_get']; rfl) ?_)
    exact Wc_ret (fin _ _ _ (.refl _) (.inr rfl) (by simp only [upd, dstUpd, args0, List.getD_cons_zero, List.getD_cons_succ, reduceIte, Nat.reduceEqDiff, ptr] <;> first | rfl | assumption | (symm; assumption)))
  rw [if_neg n18] at ht
  refine Wc_case (by simp only [upd, dstUpd, args0, List.getD_cons_zero, List.getD_cons_succ, reduceIte, Nat.reduceEqDiff, ptr, g6] <;> first | rfl | assumption | (symm; assumption)) (fun y19 => ?_) (fun n19 => Wc_skip ?_)
  · rw [if_pos y19] at ht
    obtain ⟨o1, o2, o3⟩ := op_facts ht
    have z1 : (⟨#[32]⟩ : ByteArray).size + x.text.size ≤ 9223372036854775807 := by
      have : (⟨#[32]⟩ : ByteArray).size = 1 := rfl
      omega
    have z2 : ((⟨#[32]⟩ : ByteArray) ++ x.text).size + (⟨#[32]⟩ : ByteArray).size ≤ 9223372036854775807 := by
      have : (⟨#[32]⟩ : ByteArray).size = 1 := rfl
      rw [ByteArray.size_append]
      omega
    refine Wc_seq (Wc_ops (Wo_pre 8 (fun call => by simp only [List.take_succ_cons, List.take_zero, List.drop_succ_cons, List.drop_zero, iops_nil, iops_op, iops_grd, iK_some, iG_true, iG_false, gval_bool, beq_self_eq_true, beq_true, beq_false, Bool.not_true, Bool.not_false, iop, ev, upd, dstUpd, binV, binI, unV, ptr, Heap.cell, Heap.write, cellsOf, put, args0, partL, List.getD_cons_zero, List.getD_cons_succ, List.length_cons, List.length_nil, List.set_cons_zero, List.set_cons_succ, List.getElem?_cons_zero, List.getElem?_cons_succ, reduceIte, Nat.reduceEqDiff, Nat.reduceAdd, Nat.reduceMul, Nat.reduceLeDiff, Nat.zero_add, Nat.add_zero, Option.map_some, Int.reduceEq, Int.reduceLT, Int.reduceLE, Bool.false_eq_true, decide_true, decide_false, ge_iff_le, gt_iff_lt, set_get', g1, hg, Nd.cells, o1, z1, z2]; rfl) ?_))
    refine Wo_take (by simp only [upd, dstUpd, reduceIte, Nat.reduceEqDiff, gval_bool]; rfl) (Wo_call (F.con _ _ _ _ ?_ ?_))
    · simp only [conP, o3, opsS, decide_true, Bool.and_self, Bool.or_true]
    refine (Wo_run (fun call => by simp only [List.drop_succ_cons, List.drop_zero, iops_nil, iops_op, iops_grd, iK_some, iG_true, iG_false, gval_bool, beq_self_eq_true, beq_true, beq_false, Bool.not_true, Bool.not_false, iop, ev, upd, dstUpd, binV, binI, unV, ptr, Heap.cell, Heap.write, cellsOf, put, args0, partL, List.getD_cons_zero, List.getD_cons_succ, List.length_cons, List.length_nil, List.set_cons_zero, List.set_cons_succ, List.getElem?_cons_zero, List.getElem?_cons_succ, reduceIte, Nat.reduceEqDiff, Nat.reduceAdd, Nat.reduceMul, Nat.reduceLeDiff, Nat.zero_add, Nat.add_zero, Option.map_some, Int.reduceEq, Int.reduceLT, Int.reduceLE, Bool.false_eq_true, decide_true, decide_false, ge_iff_le, gt_iff_lt, set_get']; rfl) ?_)
    exact Wc_ret (fin _ _ _ (.refl _) (.inr rfl) (by simp only [upd, dstUpd, args0, List.getD_cons_zero, List.getD_cons_succ, reduceIte, Nat.reduceEqDiff, ptr] <;> first | rfl | assumption | (symm; assumption)))
  rw [if_neg n19] at ht
  show Wc T _ _ _
  refine Wc_seq (Wc_ops (Wo_run (fun call => by simp only [List.drop_succ_cons, List.drop_zero, iops_nil, iops_op, iops_grd, iK_some, iG_true, iG_false, gval_bool, beq_self_eq_true, beq_true, beq_false, Bool.not_true, Bool.not_false, iop, ev, upd, dstUpd, binV, binI, unV, ptr, Heap.cell, Heap.write, cellsOf, put, args0, partL, List.getD_cons_zero, List.getD_cons_succ, List.length_cons, List.length_nil, List.set_cons_zero, List.set_cons_succ, List.getElem?_cons_zero, List.getElem?_cons_succ, reduceIte, Nat.reduceEqDiff, Nat.reduceAdd, Nat.reduceMul, Nat.reduceLeDiff, Nat.zero_add, Nat.add_zero, Option.map_some, Int.reduceEq, Int.reduceLT, Int.reduceLE, Bool.false_eq_true, decide_true, decide_false, ge_iff_le, gt_iff_lt, set_get', g1, hg, Nd.cells, ht]; rfl) ?_))
  exact Wc_ret (fin _ _ _ (.refl _) (.inr rfl) (by simp only [upd, dstUpd, args0, List.getD_cons_zero, List.getD_cons_succ, reduceIte, Nat.reduceEqDiff, ptr] <;> first | rfl | assumption | (symm; assumption)))

end Go.Idl
end

section
/- What kinds want; the program's check of a right tree. -/
namespace Go.Idl
set_option linter.unusedVariables false
set_option linter.unusedSimpArgs false
set_option maxRecDepth 100000

variable {T : Tbl}

def mapStep (p : Int × ByteArray) : Step := ⟨none, .op (.mapset (.one (.int .i64)) (.t 1) (.c (.int .i64 p.1)) (.c (.string p.2))), none⟩
def mapIn (es : List (Value × Value)) (p : Int × ByteArray) : List (Value × Value) := setK [.int .i64 p.1] (.int .i64 p.1) (.string p.2) es
def wantM : List (Value × Value) := wantL.foldl mapIn []

theorem Wo_maps {rest : List Step} {e : Env} {d : Option (List Dfr)} {Q : Option Value → St → Prop} {m : Nat} (he : e 1 = .map (some m)) : ∀ (ps : List (Int × ByteArray)) {h : Heap} {es : List (Value × Value)}, h.get m = some (.map (.one (.int .i64)) es) →
    (∀ h', KeptBut m h h' → h'.next = h.next → h'.get m = some (.map (.one (.int .i64)) (ps.foldl mapIn es)) → Wo T rest ⟨e, h', d⟩ Q) → Wo T (ps.map mapStep ++ rest) ⟨e, h, d⟩ Q
  | [], h, es, hm, k => k h (.refl _ _) rfl hm
  | p :: ps, h, es, hm, k => by
    rw [List.map_cons, List.cons_append]
    refine Wo_op (v := undef) (h' := h.set m (.map (.one (.int .i64)) (mapIn es p))) ?_ ?_
    · simp only [iop, ev, he, hm, keyOf, fit1, beq_self_eq_true, if_true]; rfl
    · refine Wo_maps he ps (set_get' _ _ _) fun h' k1 k2 k3 => k h' (((KeptBut.refl m h).set _ (.inl rfl)).trans k1) k2 k3

theorem wants_ok (hT : T.fn 22 = some C22) {h : Heap} : Wk T (.fn 22) [] h (fun o h' => Kept h h' ∧ ∃ m, h.next ≤ m ∧ m < h'.next ∧ o = .ret (.map (some m)) ∧ h'.get m = some (.map (.one (.int .i64)) wantM)) := by
  refine Wk_fn hT (by simp [C22]) ?_
  simp only [C22]
  refine Wc_seq (Wc_ops (Wo_run (fun call => by simp only [List.drop_succ_cons, List.drop_zero, iops_nil, iops_op, iops_grd, iK_some, iG_true, iG_false, gval_bool, beq_self_eq_true, beq_true, beq_false, Bool.not_true, Bool.not_false, iop, ev, upd, dstUpd, binV, binI, unV, ptr, Heap.cell, Heap.write, cellsOf, put, args0, partL, List.getD_cons_zero, List.getD_cons_succ, List.length_cons, List.length_nil, List.set_cons_zero, List.set_cons_succ, List.getElem?_cons_zero, List.getElem?_cons_succ, reduceIte, Nat.reduceEqDiff, Nat.reduceAdd, Nat.reduceMul, Nat.reduceLeDiff, Nat.zero_add, Nat.add_zero, Option.map_some, Int.reduceEq, Int.reduceLT, Int.reduceLE, Bool.false_eq_true, decide_true, decide_false, ge_iff_le, gt_iff_lt, set_get']; rfl) ?_))
  show Wc T _ _ _
  refine Wc_seq (Wc_ops (Wo_new (v := .map (some h.next)) (B := .map (.one (.int .i64)) []) rfl fun h1 n1 => ?_))
  refine Wo_maps (m := h.next) (by simp only [upd, dstUpd, reduceIte, Nat.reduceEqDiff]) wantL n1.get (rest := [⟨(some 2), .op (.mov (.t 1)), none⟩, ⟨(some 0), .op (.mov (.t 2)), none⟩]) fun h' k1 k2 k3 => ?_
  refine (Wo_run (fun call => by simp only [List.drop_succ_cons, List.drop_zero, iops_nil, iops_op, iops_grd, iK_some, iG_true, iG_false, gval_bool, beq_self_eq_true, beq_true, beq_false, Bool.not_true, Bool.not_false, iop, ev, upd, dstUpd, binV, binI, unV, ptr, Heap.cell, Heap.write, cellsOf, put, args0, partL, List.getD_cons_zero, List.getD_cons_succ, List.length_cons, List.length_nil, List.set_cons_zero, List.set_cons_succ, List.getElem?_cons_zero, List.getElem?_cons_succ, reduceIte, Nat.reduceEqDiff, Nat.reduceAdd, Nat.reduceMul, Nat.reduceLeDiff, Nat.zero_add, Nat.add_zero, Option.map_some, Int.reduceEq, Int.reduceLT, Int.reduceLE, Bool.false_eq_true, decide_true, decide_false, ge_iff_le, gt_iff_lt, set_get']; rfl) ?_)
  refine Wc_ret ⟨.inr rfl, rfl, [.map (some h.next)], by simp only [resAll, resV, upd, dstUpd, reduceIte, Nat.reduceEqDiff], n1.kept.of_but k1 (Nat.le_refl _), h.next, Nat.le_refl _, ?_, rfl, k3⟩
  show h.next < h'.next
  rw [k2, n1.next]; exact Nat.lt_succ_self _

theorem want_all : ((List.range 30).all fun n => match findK [.int .i64 ((n : Int) + 1)] wantM with | some (.string s) => decide (s = wantOf ((n : Int) + 1)) && s.size ≤ 3000 && s.data.toList.all fun b => b.toNat < 128 | _ => false) = true := by kernel_rfl
theorem want_at {k : Int} (h1 : 1 ≤ k) (h2 : k ≤ 30) : findK [.int .i64 k] wantM = some (.string (wantOf k)) ∧ (wantOf k).size ≤ 3000 ∧ Asc (wantOf k) := by
  obtain ⟨n, rfl⟩ : ∃ n : Nat, k = (n : Int) + 1 := ⟨(k - 1).toNat, by omega⟩
  have := List.all_eq_true.1 want_all n (List.mem_range.2 (by omega))
  split at this
  · rename_i s hs
    simp only [Bool.and_eq_true, decide_eq_true_eq] at this
    obtain ⟨⟨rfl, h4⟩, h5⟩ := this
    refine ⟨hs, h4, fun b hb => ?_⟩
    have := List.all_eq_true.1 h5 b hb
    exact of_decide_eq_true this
  · cases this

/-- Whose kids all are: what counts is whether there is a mother. -/
def momL (n : Nat) (S : List Int) (ms : List Int) : Prop := ms.length = n ∧ ∀ k, k < n → ∃ m : Int, ms[k]? = some m ∧ 0 ≤ m ∧ (m = 0 ↔ (k : Int) ∉ S)
theorem momL_nil (n : Nat) : momL n [] (List.replicate n 0) := ⟨List.length_replicate .., fun k hk => ⟨0, by rw [List.getElem?_replicate, if_pos hk], Int.le_refl _, by simp⟩⟩
theorem momL_set {n : Nat} {S ms : List Int} (h : momL n S ms) {k : Nat} (hk : k < n) {v : Int} (hv : 0 < v) : momL n (S ++ [(k : Int)]) (ms.set k v) := by
  refine ⟨by rw [List.length_set]; exact h.1, fun i hi => ?_⟩
  rw [List.getElem?_set, h.1]
  by_cases e : k = i
  · subst e
    rw [if_pos rfl, if_pos hk]
    exact ⟨v, rfl, by omega, by simp; omega⟩
  · rw [if_neg e]
    obtain ⟨m, h1, h2, h3⟩ := h.2 i hi
    refine ⟨m, h1, h2, ?_⟩
    rw [h3, List.mem_append, List.mem_singleton]
    constructor
    · rintro h (h' | h')
      · exact h h'
      · exact e (by omega)
    · exact fun h h' => h (.inl h')
theorem ints64_set (ms : List Int) (k : Nat) (v : Int) : (ints64 ms).set k (.int .i64 v) = ints64 (ms.set k v) := by simp [ints64, List.map_set]
theorem repI (n : Nat) : (List.replicate n [Value.int .i64 0]).flatten = ints64 (List.replicate n 0) := by
  have : (List.replicate n [Value.int .i64 0]).flatten = List.replicate n (.int .i64 0) := by induction n with | zero => rfl | succ n ih => rw [List.replicate_succ, List.flatten_cons, ih, List.replicate_succ]; rfl
  rw [this, ints64, List.map_replicate]

structure ChkFns (T : Tbl) : Prop where
  check : T.fn 11 = some C11
  wants : T.fn 22 = some C22
  deep : T.fn 13 = some C13
  says : SaysFns T
  fits : FitFns T

theorem check_ok (F : ChkFns T) {h : Heap} {v : Value} {l : List Nd} (hn : nodesAt h v l) (hN : l.length ≤ 3000) (hK : ∀ x ∈ l, x.kids.length ≤ 3000) (hS : ∀ x ∈ l, x.text.size < 4611686018427387904) (g : GoodT l) :
    Wk T (.fn 11) [v] h (fun o h' => Kept h h' ∧ o = .ret (.tuple #[.int .i64 0, .int .i64 0])) := by
  obtain ⟨va, vc, hvl⟩ := hn.len
  refine Wk_fn F.check (by simp [C11]) ?_
  simp only [C11]
  refine Wc_seq (Wc_ops (Wo_run (fun call => by simp only [List.drop_succ_cons, List.drop_zero, iops_nil, iops_op, iops_grd, iK_some, iG_true, iG_false, gval_bool, beq_self_eq_true, beq_true, beq_false, Bool.not_true, Bool.not_false, iop, ev, upd, dstUpd, binV, binI, unV, ptr, Heap.cell, Heap.write, cellsOf, put, args0, partL, List.getD_cons_zero, List.getD_cons_succ, List.length_cons, List.length_nil, List.set_cons_zero, List.set_cons_succ, List.getElem?_cons_zero, List.getElem?_cons_succ, reduceIte, Nat.reduceEqDiff, Nat.reduceAdd, Nat.reduceMul, Nat.reduceLeDiff, Nat.zero_add, Nat.add_zero, Option.map_some, Int.reduceEq, Int.reduceLT, Int.reduceLE, Bool.false_eq_true, decide_true, decide_false, ge_iff_le, gt_iff_lt, set_get']; rfl) ?_))
  show Wc T _ _ _
  have z1 : ¬ ((50000 : Int) < ((l.length : Nat) : Int)) := by omega
  refine Wc_seq (Wc_seq (Wc_ops (Wo_run (fun call => by simp only [List.drop_succ_cons, List.drop_zero, iops_nil, iops_op, iops_grd, iK_some, iG_true, iG_false, gval_bool, beq_self_eq_true, beq_true, beq_false, Bool.not_true, Bool.not_false, iop, ev, upd, dstUpd, binV, binI, unV, ptr, Heap.cell, Heap.write, cellsOf, put, args0, partL, List.getD_cons_zero, List.getD_cons_succ, List.length_cons, List.length_nil, List.set_cons_zero, List.set_cons_succ, List.getElem?_cons_zero, List.getElem?_cons_succ, reduceIte, Nat.reduceEqDiff, Nat.reduceAdd, Nat.reduceMul, Nat.reduceLeDiff, Nat.zero_add, Nat.add_zero, Option.map_some, Int.reduceEq, Int.reduceLT, Int.reduceLE, Bool.false_eq_true, decide_true, decide_false, ge_iff_le, gt_iff_lt, set_get', hvl, z1]; rfl) ?_)))
  show Wc T _ _ _
  refine Wc_cond false (by simp only [upd, dstUpd, args0, List.getD_cons_zero, List.getD_cons_succ, reduceIte, Nat.reduceEqDiff, ptr] <;> first | rfl | assumption | (symm; assumption)) (fun e => by cases e) (fun _ => Wc_skip ?_)
  show Wc T _ _ _
  refine Wc_seq (Wc_ops (Wo_call ((wants_ok F.wants).mono ?_)))
  rintro o h1 ⟨k1, M, hM0, hM, rfl, hMg⟩
  show Wo T _ _ _
  refine (Wo_run (fun call => by simp only [List.drop_succ_cons, List.drop_zero, iops_nil, iops_op, iops_grd, iK_some, iG_true, iG_false, gval_bool, beq_self_eq_true, beq_true, beq_false, Bool.not_true, Bool.not_false, iop, ev, upd, dstUpd, binV, binI, unV, ptr, Heap.cell, Heap.write, cellsOf, put, args0, partL, List.getD_cons_zero, List.getD_cons_succ, List.length_cons, List.length_nil, List.set_cons_zero, List.set_cons_succ, List.getElem?_cons_zero, List.getElem?_cons_succ, reduceIte, Nat.reduceEqDiff, Nat.reduceAdd, Nat.reduceMul, Nat.reduceLeDiff, Nat.zero_add, Nat.add_zero, Option.map_some, Int.reduceEq, Int.reduceLT, Int.reduceLE, Bool.false_eq_true, decide_true, decide_false, ge_iff_le, gt_iff_lt, set_get']; rfl) ?_)
  show Wc T _ _ _
  refine Wc_seq (Wc_ops (Wo_pre 2 (fun call => by simp only [List.take_succ_cons, List.take_zero, List.drop_succ_cons, List.drop_zero, iops_nil, iops_op, iops_grd, iK_some, iG_true, iG_false, gval_bool, beq_self_eq_true, beq_true, beq_false, Bool.not_true, Bool.not_false, iop, ev, upd, dstUpd, binV, binI, unV, ptr, Heap.cell, Heap.write, cellsOf, put, args0, partL, List.getD_cons_zero, List.getD_cons_succ, List.length_cons, List.length_nil, List.set_cons_zero, List.set_cons_succ, List.getElem?_cons_zero, List.getElem?_cons_succ, reduceIte, Nat.reduceEqDiff, Nat.reduceAdd, Nat.reduceMul, Nat.reduceLeDiff, Nat.zero_add, Nat.add_zero, Option.map_some, Int.reduceEq, Int.reduceLT, Int.reduceLE, Bool.false_eq_true, decide_true, decide_false, ge_iff_le, gt_iff_lt, set_get', hvl]; rfl) ?_))
  refine Wo_new (v := .slice (some ⟨h1.next, 0, none⟩) l.length l.length) (B := .cells (ints64 (List.replicate l.length 0)) true 1) ?_ fun h2 n2 => ?_
  · simp only [iop, ev, upd, dstUpd, reduceIte, Nat.reduceEqDiff, Int.toNat_natCast]
    rw [if_pos (by omega), repI]
  refine (Wo_run (fun call => by simp only [List.drop_succ_cons, List.drop_zero, iops_nil, iops_op, iops_grd, iK_some, iG_true, iG_false, gval_bool, beq_self_eq_true, beq_true, beq_false, Bool.not_true, Bool.not_false, iop, ev, upd, dstUpd, binV, binI, unV, ptr, Heap.cell, Heap.write, cellsOf, put, args0, partL, List.getD_cons_zero, List.getD_cons_succ, List.length_cons, List.length_nil, List.set_cons_zero, List.set_cons_succ, List.getElem?_cons_zero, List.getElem?_cons_succ, reduceIte, Nat.reduceEqDiff, Nat.reduceAdd, Nat.reduceMul, Nat.reduceLeDiff, Nat.zero_add, Nat.add_zero, Option.map_some, Int.reduceEq, Int.reduceLT, Int.reduceLE, Bool.false_eq_true, decide_true, decide_false, ge_iff_le, gt_iff_lt, set_get']; rfl) ?_)
  show Wc T _ _ _
  have hMg2 : h2.get M = some (.map (.one (.int .i64)) wantM) := by rw [n2.kept.get _ hM]; exact hMg
  have hM2 : M < h1.next := hM
  -- all is kept but the mothers
  have hkept : ∀ h', KeptBut h1.next h2 h' → Kept h h' := fun h' kb => (k1.trans n2.kept).of_but kb k1.next
  have hmap : ∀ h', KeptBut h1.next h2 h' → h'.get M = some (.map (.one (.int .i64)) wantM) := fun h' kb => by rw [kb.get _ (by have := n2.next; omega) (by omega)]; exact hMg2
  have hB : h1.next < h2.next := by rw [n2.next]; exact Nat.lt_succ_self _
  refine Wc_mid (fun s' => s'.d = some [] ∧ KeptBut h1.next h2 s'.h ∧ (∃ ms, s'.h.get h1.next = some (.cells (ints64 ms) true 1) ∧ momL l.length (kidsUp l l.length) ms) ∧ s'.e 0 = v ∧ s'.e 5 = .slice (some ⟨h1.next, 0, none⟩) l.length l.length) ?_ ?_
  · refine Wc_seq (Wc_ops (Wo_run (fun call => by simp only [List.drop_succ_cons, List.drop_zero, iops_nil, iops_op, iops_grd, iK_some, iG_true, iG_false, gval_bool, beq_self_eq_true, beq_true, beq_false, Bool.not_true, Bool.not_false, iop, ev, upd, dstUpd, binV, binI, unV, ptr, Heap.cell, Heap.write, cellsOf, put, args0, partL, List.getD_cons_zero, List.getD_cons_succ, List.length_cons, List.length_nil, List.set_cons_zero, List.set_cons_succ, List.getElem?_cons_zero, List.getElem?_cons_succ, reduceIte, Nat.reduceEqDiff, Nat.reduceAdd, Nat.reduceMul, Nat.reduceLeDiff, Nat.zero_add, Nat.add_zero, Option.map_some, Int.reduceEq, Int.reduceLT, Int.reduceLE, Bool.false_eq_true, decide_true, decide_false, ge_iff_le, gt_iff_lt, set_get', hvl]; rfl) ?_))
    show Wc T _ _ _
    refine Wc_range l.length (fun j e h' d => d = some [] ∧ KeptBut h1.next h2 h' ∧ (∃ ms, h'.get h1.next = some (.cells (ints64 ms) true 1) ∧ momL l.length (kidsUp l j) ms)) (by decide) (by simp only [upd, dstUpd, args0, List.getD_cons_zero, List.getD_cons_succ, reduceIte, Nat.reduceEqDiff, ptr] <;> first | rfl | assumption | (symm; assumption)) (by simp only [upd, dstUpd, args0, List.getD_cons_zero, List.getD_cons_succ, reduceIte, Nat.reduceEqDiff, ptr] <;> first | rfl | assumption | (symm; assumption)) (by omega) (by decide) ?_ ?_ ?_
    · exact ⟨rfl, .refl _ _, _, n2.get, momL_nil _⟩
    · rintro j e h' d hj ⟨rfl, hkb, ms, hu, hms⟩ hfr h24 h23
      obtain ⟨x, hx⟩ : ∃ x, l[j]? = some x := ⟨_, List.getElem?_eq_getElem hj⟩
      have hxm := List.mem_of_getElem? hx
      have hk : Kept h h' := hkept _ hkb
      have ok := g.ok j x hx
      obtain ⟨b, c, o, z, hvb, hb, hg, hcs⟩ := (hn.keep hk).load4 hx
      have e22 : e 22 = v := (by rw [hfr 22 (by decide)]; try simp only [upd, dstUpd, args0, List.getD_cons_zero, List.getD_cons_succ, reduceIte, Nat.reduceEqDiff] <;> first | rfl | assumption | (symm; assumption))
      have e0 : e 0 = v := (by rw [hfr 0 (by decide)]; try simp only [upd, dstUpd, args0, List.getD_cons_zero, List.getD_cons_succ, reduceIte, Nat.reduceEqDiff] <;> first | rfl | assumption | (symm; assumption))
      have e4 : e 4 = .map (some M) := (by rw [hfr 4 (by decide)]; try simp only [upd, dstUpd, args0, List.getD_cons_zero, List.getD_cons_succ, reduceIte, Nat.reduceEqDiff] <;> first | rfl | assumption | (symm; assumption))
      have e5 : e 5 = .slice (some ⟨h1.next, 0, none⟩) l.length l.length := (by rw [hfr 5 (by decide)]; try simp only [upd, dstUpd, args0, List.getD_cons_zero, List.getD_cons_succ, reduceIte, Nat.reduceEqDiff] <;> first | rfl | assumption | (symm; assumption))
      refine Wc_seq (Wc_ops (Wo_pre 5 (fun call => by simp only [List.take_succ_cons, List.take_zero, List.drop_succ_cons, List.drop_zero, iops_nil, iops_op, iops_grd, iK_some, iG_true, iG_false, gval_bool, beq_self_eq_true, beq_true, beq_false, Bool.not_true, Bool.not_false, iop, ev, upd, dstUpd, binV, binI, unV, ptr, Heap.cell, Heap.write, cellsOf, put, args0, partL, List.getD_cons_zero, List.getD_cons_succ, List.length_cons, List.length_nil, List.set_cons_zero, List.set_cons_succ, List.getElem?_cons_zero, List.getElem?_cons_succ, reduceIte, Nat.reduceEqDiff, Nat.reduceAdd, Nat.reduceMul, Nat.reduceLeDiff, Nat.zero_add, Nat.add_zero, Option.map_some, Int.reduceEq, Int.reduceLT, Int.reduceLE, Bool.false_eq_true, decide_true, decide_false, ge_iff_le, gt_iff_lt, set_get', h24, e22, hvb, idx_ok hj, hcs]; rfl) ?_))
      refine Wo_store_new (cs := x.cells) (h := h') (by simp only [upd, dstUpd, args0, List.getD_cons_zero, List.getD_cons_succ, reduceIte, Nat.reduceEqDiff, ptr] <;> first | rfl | assumption | (symm; assumption)) (by simp only [upd, dstUpd, args0, List.getD_cons_zero, List.getD_cons_succ, reduceIte, Nat.reduceEqDiff, ptr] <;> first | rfl | assumption | (symm; assumption)) rfl rfl fun h3 n3 => Wo_nil ?_
      show Wc T _ _ _
      have hk3 : KeptBut h1.next h2 h3 := hkb.kept n3.kept
      have hu3 : h3.get h1.next = some (.cells (ints64 ms) true 1) := by rw [n3.kept.get _ (by have := hkb.next; omega)]; exact hu
      have hm3 := hmap _ hk3
      have hki : intsAt h x.kv x.kids := hn.2 x hxm
      have hkl := hK x hxm
      obtain ⟨ka, kc, hkv⟩ := hki.len
      obtain ⟨w1, w2, w3⟩ := want_at ok.kind.1 ok.kind.2
      have hB3 : h1.next < h3.next := by have := hkb.next; have := n3.kept.next; omega
      have h7lt : h'.next < h3.next := by rw [n3.next]; exact Nat.lt_succ_self _
      have h7ne : h'.next ≠ h1.next := by have := hkb.next; omega
      -- what it wants
      refine Wc_seq (Wc_ops (Wo_pre 3 (fun call => by simp only [List.take_succ_cons, List.take_zero, List.drop_succ_cons, List.drop_zero, iops_nil, iops_op, iops_grd, iK_some, iG_true, iG_false, gval_bool, beq_self_eq_true, beq_true, beq_false, Bool.not_true, Bool.not_false, iop, ev, upd, dstUpd, binV, binI, unV, ptr, Heap.cell, Heap.write, cellsOf, put, args0, partL, List.getD_cons_zero, List.getD_cons_succ, List.length_cons, List.length_nil, List.set_cons_zero, List.set_cons_succ, List.getElem?_cons_zero, List.getElem?_cons_succ, reduceIte, Nat.reduceEqDiff, Nat.reduceAdd, Nat.reduceMul, Nat.reduceLeDiff, Nat.zero_add, Nat.add_zero, Option.map_some, Int.reduceEq, Int.reduceLT, Int.reduceLE, Bool.false_eq_true, decide_true, decide_false, ge_iff_le, gt_iff_lt, set_get', n3.get, Nd.cells, e4]; rfl) ?_))
      refine Wo_op (v := .tuple #[.string (wantOf x.kind), .bool true]) (h' := h3) (by simp only [iop, ev, upd, dstUpd, reduceIte, Nat.reduceEqDiff, hm3, keyOf, fit1, beq_self_eq_true, if_true, w1]) ?_
      refine (Wo_run (fun call => by simp only [List.drop_succ_cons, List.drop_zero, iops_nil, iops_op, iops_grd, iK_some, iG_true, iG_false, gval_bool, beq_self_eq_true, beq_true, beq_false, Bool.not_true, Bool.not_false, iop, ev, upd, dstUpd, binV, binI, unV, ptr, Heap.cell, Heap.write, cellsOf, put, args0, partL, List.getD_cons_zero, List.getD_cons_succ, List.length_cons, List.length_nil, List.set_cons_zero, List.set_cons_succ, List.getElem?_cons_zero, List.getElem?_cons_succ, reduceIte, Nat.reduceEqDiff, Nat.reduceAdd, Nat.reduceMul, Nat.reduceLeDiff, Nat.zero_add, Nat.add_zero, Option.map_some, Int.reduceEq, Int.reduceLT, Int.reduceLE, Bool.false_eq_true, decide_true, decide_false, ge_iff_le, gt_iff_lt, set_get']; rfl) ?_)
      show Wc T _ _ _
      have p0 : ¬ x.pos < 0 := by have := ok.pos; omega
      refine Wc_seq (Wc_seq (Wc_ops (Wo_run (fun call => by simp only [List.drop_succ_cons, List.drop_zero, iops_nil, iops_op, iops_grd, iK_some, iG_true, iG_false, gval_bool, beq_self_eq_true, beq_true, beq_false, Bool.not_true, Bool.not_false, iop, ev, upd, dstUpd, binV, binI, unV, ptr, Heap.cell, Heap.write, cellsOf, put, args0, partL, List.getD_cons_zero, List.getD_cons_succ, List.length_cons, List.length_nil, List.set_cons_zero, List.set_cons_succ, List.getElem?_cons_zero, List.getElem?_cons_succ, reduceIte, Nat.reduceEqDiff, Nat.reduceAdd, Nat.reduceMul, Nat.reduceLeDiff, Nat.zero_add, Nat.add_zero, Option.map_some, Int.reduceEq, Int.reduceLT, Int.reduceLE, Bool.false_eq_true, decide_true, decide_false, ge_iff_le, gt_iff_lt, set_get', n3.get, Nd.cells, p0]; rfl) ?_)))
      show Wc T _ _ _
      refine Wc_cond false (by simp only [upd, dstUpd, args0, List.getD_cons_zero, List.getD_cons_succ, reduceIte, Nat.reduceEqDiff, ptr] <;> first | rfl | assumption | (symm; assumption)) (fun e => by cases e) (fun _ => Wc_skip ?_)
      show Wc T _ _ _
      -- kid by kid
      refine Wc_mid (fun s' => s'.d = some [] ∧ KeptBut h1.next h3 s'.h ∧ (∃ ms, s'.h.get h1.next = some (.cells (ints64 ms) true 1) ∧ momL l.length (kidsUp l (j + 1)) ms) ∧ s'.e 0 = v ∧ s'.e 7 = ptr h'.next 0 ∧ s'.e 8 = .string (wantOf x.kind)) ?_ ?_
      · rw [kidsUp_succ hx]
        refine Wc_seq (Wc_ops (Wo_run (fun call => by simp only [List.drop_succ_cons, List.drop_zero, iops_nil, iops_op, iops_grd, iK_some, iG_true, iG_false, gval_bool, beq_self_eq_true, beq_true, beq_false, Bool.not_true, Bool.not_false, iop, ev, upd, dstUpd, binV, binI, unV, ptr, Heap.cell, Heap.write, cellsOf, put, args0, partL, List.getD_cons_zero, List.getD_cons_succ, List.length_cons, List.length_nil, List.set_cons_zero, List.set_cons_succ, List.getElem?_cons_zero, List.getElem?_cons_succ, reduceIte, Nat.reduceEqDiff, Nat.reduceAdd, Nat.reduceMul, Nat.reduceLeDiff, Nat.zero_add, Nat.add_zero, Option.map_some, Int.reduceEq, Int.reduceLT, Int.reduceLE, Bool.false_eq_true, decide_true, decide_false, ge_iff_le, gt_iff_lt, set_get', n3.get, Nd.cells, hkv]; rfl) ?_))
        show Wc T _ _ _
        refine Wc_range x.kids.length (fun m e h4 d => d = some [] ∧ KeptBut h1.next h3 h4 ∧ (∃ ms, h4.get h1.next = some (.cells (ints64 ms) true 1) ∧ momL l.length (kidsUp l j ++ x.kids.take m) ms)) (by decide) (by simp only [upd, dstUpd, args0, List.getD_cons_zero, List.getD_cons_succ, reduceIte, Nat.reduceEqDiff, ptr] <;> first | rfl | assumption | (symm; assumption)) (by simp only [upd, dstUpd, args0, List.getD_cons_zero, List.getD_cons_succ, reduceIte, Nat.reduceEqDiff, ptr] <;> first | rfl | assumption | (symm; assumption)) (by omega) (by decide) ?_ ?_ ?_
        · exact ⟨rfl, .refl _ _, ms, hu3, by rw [List.take_zero, List.append_nil]; exact hms⟩
        · rintro m e3 h4 d hm ⟨rfl, hkb4, ms4, hu4, hms4⟩ hfr h47 h46
          obtain ⟨k, hkm⟩ : ∃ k, x.kids[m]? = some k := ⟨_, List.getElem?_eq_getElem hm⟩
          have hkmem := List.mem_of_getElem? hkm
          have htake : x.kids.take (m + 1) = x.kids.take m ++ [k] := by rw [List.take_add_one, hkm]; rfl
          obtain ⟨k0, kj⟩ := ok.kids k hkmem
          have hk4 : Kept h h4 := hkept _ (hk3.trans hkb4)
          obtain ⟨bk, ck, hkvb, hbk, ⟨ok', zk, hgk⟩, hcell⟩ := (hki.keep hk4).load hkm
          rw [Nat.zero_add] at hcell
          have e45 : e3 45 = x.kv := (by rw [hfr 45 (by decide)]; try simp only [upd, dstUpd, args0, List.getD_cons_zero, List.getD_cons_succ, reduceIte, Nat.reduceEqDiff] <;> first | rfl | assumption | (symm; assumption))
          have e6 : e3 6 = .int .i64 j := (by rw [hfr 6 (by decide)]; try simp only [upd, dstUpd, args0, List.getD_cons_zero, List.getD_cons_succ, reduceIte, Nat.reduceEqDiff] <;> first | rfl | assumption | (symm; assumption))
          have e5' : e3 5 = .slice (some ⟨h1.next, 0, none⟩) l.length l.length := (by rw [hfr 5 (by decide)]; try simp only [upd, dstUpd, args0, List.getD_cons_zero, List.getD_cons_succ, reduceIte, Nat.reduceEqDiff] <;> first | rfl | assumption | (symm; assumption))
          refine Wc_seq (Wc_ops (Wo_run (fun call => by simp only [List.drop_succ_cons, List.drop_zero, iops_nil, iops_op, iops_grd, iK_some, iG_true, iG_false, gval_bool, beq_self_eq_true, beq_true, beq_false, Bool.not_true, Bool.not_false, iop, ev, upd, dstUpd, binV, binI, unV, ptr, Heap.cell, Heap.write, cellsOf, put, args0, partL, List.getD_cons_zero, List.getD_cons_succ, List.length_cons, List.length_nil, List.set_cons_zero, List.set_cons_succ, List.getElem?_cons_zero, List.getElem?_cons_succ, reduceIte, Nat.reduceEqDiff, Nat.reduceAdd, Nat.reduceMul, Nat.reduceLeDiff, Nat.zero_add, Nat.add_zero, Option.map_some, Int.reduceEq, Int.reduceLT, Int.reduceLE, Bool.false_eq_true, decide_true, decide_false, ge_iff_le, gt_iff_lt, set_get', h47, e45, hkvb, idx_ok hm, hgk, hcell]; rfl) ?_))
          show Wc T _ _ _
          obtain ⟨kk, rfl⟩ : ∃ kk : Nat, k = kk := ⟨k.toNat, by omega⟩
          have hkk : kk < l.length := by omega
          have hnew : (kk : Int) ∉ kidsUp l j ++ x.kids.take m := by
            have hnd : (kidsUp l (j + 1)).Nodup := g.nodup.sublist (kidsUp_sub (by omega))
            rw [kidsUp_succ hx] at hnd
            have hsub : (kidsUp l j ++ x.kids.take (m + 1)).Nodup := hnd.sublist (List.Sublist.append (List.Sublist.refl _) (List.take_sublist _ _))
            rw [htake, ← List.append_assoc] at hsub
            exact fun hm => (List.nodup_append.1 hsub).2.2 _ hm _ (List.mem_singleton.2 rfl) rfl
          obtain ⟨m0, hm0, _, hm1⟩ := hms4.2 kk hkk
          have hm00 : m0 = 0 := hm1.2 hnew
          subst hm00
          have hcm : (ints64 ms4)[kk * 1]? = some (.int .i64 0) := by rw [Nat.mul_one]; exact ints64_get hm0
          have k0' : ¬ ((kk : Nat) : Int) < 0 := by omega
          have kj' : ¬ ((j : Nat) : Int) ≤ ((kk : Nat) : Int) := by omega
          refine Wc_seq (Wc_seq (Wc_ops (Wo_run (fun call => by simp only [List.drop_succ_cons, List.drop_zero, iops_nil, iops_op, iops_grd, iK_some, iG_true, iG_false, gval_bool, beq_self_eq_true, beq_true, beq_false, Bool.not_true, Bool.not_false, iop, ev, upd, dstUpd, binV, binI, unV, ptr, Heap.cell, Heap.write, cellsOf, put, args0, partL, List.getD_cons_zero, List.getD_cons_succ, List.length_cons, List.length_nil, List.set_cons_zero, List.set_cons_succ, List.getElem?_cons_zero, List.getElem?_cons_succ, reduceIte, Nat.reduceEqDiff, Nat.reduceAdd, Nat.reduceMul, Nat.reduceLeDiff, Nat.zero_add, Nat.add_zero, Option.map_some, Int.reduceEq, Int.reduceLT, Int.reduceLE, Bool.false_eq_true, decide_true, decide_false, ge_iff_le, gt_iff_lt, set_get', e6, e5', k0', kj', idx_ok hkk, hu4, hcm]; rfl) ?_)))
          show Wc T _ _ _
          refine Wc_cond false (by simp only [upd, dstUpd, args0, List.getD_cons_zero, List.getD_cons_succ, reduceIte, Nat.reduceEqDiff, ptr] <;> first | rfl | assumption | (symm; assumption)) (fun e => by cases e) (fun _ => Wc_skip ?_)
          show Wc T _ _ _
          have ew : IntKind.i64.wrap (((j : Nat) : Int) + 1) = ((j : Nat) : Int) + 1 := wrap64 (by omega) (by omega)
          refine Wc_ops (Wo_pre 5 (fun call => by simp only [List.take_succ_cons, List.take_zero, List.drop_succ_cons, List.drop_zero, iops_nil, iops_op, iops_grd, iK_some, iG_true, iG_false, gval_bool, beq_self_eq_true, beq_true, beq_false, Bool.not_true, Bool.not_false, iop, ev, upd, dstUpd, binV, binI, unV, ptr, Heap.cell, Heap.write, cellsOf, put, args0, partL, List.getD_cons_zero, List.getD_cons_succ, List.length_cons, List.length_nil, List.set_cons_zero, List.set_cons_succ, List.getElem?_cons_zero, List.getElem?_cons_succ, reduceIte, Nat.reduceEqDiff, Nat.reduceAdd, Nat.reduceMul, Nat.reduceLeDiff, Nat.zero_add, Nat.add_zero, Option.map_some, Int.reduceEq, Int.reduceLT, Int.reduceLE, Bool.false_eq_true, decide_true, decide_false, ge_iff_le, gt_iff_lt, set_get', e6, e5', idx_ok hkk, ew]; rfl) ?_)
          refine Wo_op (iop_store_at (k := kk * 1) (v := .int .i64 (((j : Nat) : Int) + 1)) (by simp only [upd, dstUpd, args0, List.getD_cons_zero, List.getD_cons_succ, reduceIte, Nat.reduceEqDiff, ptr] <;> first | rfl | assumption | (symm; assumption)) (by simp only [ev, upd, dstUpd, reduceIte, Nat.reduceEqDiff]; rfl) hu4 (by rw [ints64_length, hms4.1]; omega)) (Wo_nil ?_)
          rw [Nat.mul_one, ints64_set]
          refine ⟨rfl, hkb4.set _ (.inl rfl), _, set_get' _ _ _, ?_⟩
          rw [htake, ← List.append_assoc]
          rw [Nat.mul_one]
          exact momL_set (v := ((j : Nat) : Int) + 1) hms4 hkk (by omega)
        · rintro e3 h4 d ⟨rfl, hkb4, hex⟩ hfr h47
          rw [List.take_length] at hex
          have e0' : e3 0 = v := (by rw [hfr 0 (by decide)]; try simp only [upd, dstUpd, args0, List.getD_cons_zero, List.getD_cons_succ, reduceIte, Nat.reduceEqDiff] <;> first | rfl | assumption | (symm; assumption))
          have e7 : e3 7 = ptr h'.next 0 := (by rw [hfr 7 (by decide)]; try simp only [upd, dstUpd, args0, List.getD_cons_zero, List.getD_cons_succ, reduceIte, Nat.reduceEqDiff] <;> first | rfl | assumption | (symm; assumption))
          have e8 : e3 8 = .string (wantOf x.kind) := (by rw [hfr 8 (by decide)]; try simp only [upd, dstUpd, args0, List.getD_cons_zero, List.getD_cons_succ, reduceIte, Nat.reduceEqDiff] <;> first | rfl | assumption | (symm; assumption))
          exact ⟨rfl, hkb4, hex, (by simp only [upd, dstUpd, args0, List.getD_cons_zero, List.getD_cons_succ, reduceIte, Nat.reduceEqDiff, ptr, e0'] <;> first | rfl | assumption | (symm; assumption)), by simp only [upd, dstUpd, reduceIte, Nat.reduceEqDiff]; exact e7, (by simp only [upd, dstUpd, args0, List.getD_cons_zero, List.getD_cons_succ, reduceIte, Nat.reduceEqDiff, ptr, e8] <;> first | rfl | assumption | (symm; assumption))⟩
      rintro ⟨e3, h4, d3⟩ ⟨hd3, hkb4, hex, e0', e7, e8⟩
      simp only at hd3 hkb4 hex e0' e7 e8
      rw [hd3]
      have hk4 : KeptBut h1.next h2 h4 := hk3.trans hkb4
      have hgx : h4.get h'.next = some (.cells x.cells true 0) := by rw [hkb4.get _ h7lt h7ne]; exact n3.get
      have pg : ptr h'.next 0 = .pointer (some ⟨h'.next, 0, none⟩) := rfl
      rw [pg] at e7
      have hcx : h4.cells h'.next 0 4 = some x.cells := cells_all hgx rfl
      refine Wc_block (Wc_seq (Wc_ops (Wo_pre 1 (fun call => by simp only [List.take_succ_cons, List.take_zero, List.drop_succ_cons, List.drop_zero, iops_nil, iops_op, iops_grd, iK_some, iG_true, iG_false, gval_bool, beq_self_eq_true, beq_true, beq_false, Bool.not_true, Bool.not_false, iop, ev, upd, dstUpd, binV, binI, unV, ptr, Heap.cell, Heap.write, cellsOf, put, args0, partL, List.getD_cons_zero, List.getD_cons_succ, List.length_cons, List.length_nil, List.set_cons_zero, List.set_cons_succ, List.getElem?_cons_zero, List.getElem?_cons_succ, reduceIte, Nat.reduceEqDiff, Nat.reduceAdd, Nat.reduceMul, Nat.reduceLeDiff, Nat.zero_add, Nat.add_zero, Option.map_some, Int.reduceEq, Int.reduceLT, Int.reduceLE, Bool.false_eq_true, decide_true, decide_false, ge_iff_le, gt_iff_lt, set_get', e7, hcx]; rfl) ?_)))
      refine Wo_call (Wk_kept (says_ok F.says (x := x) (hS x hxm) ok.text) fun h5 k5 => ?_)
      refine (Wo_run (fun call => by simp only [List.drop_succ_cons, List.drop_zero, iops_nil, iops_op, iops_grd, iK_some, iG_true, iG_false, gval_bool, beq_self_eq_true, beq_true, beq_false, Bool.not_true, Bool.not_false, iop, ev, upd, dstUpd, binV, binI, unV, ptr, Heap.cell, Heap.write, cellsOf, put, args0, partL, List.getD_cons_zero, List.getD_cons_succ, List.length_cons, List.length_nil, List.set_cons_zero, List.set_cons_succ, List.getElem?_cons_zero, List.getElem?_cons_succ, reduceIte, Nat.reduceEqDiff, Nat.reduceAdd, Nat.reduceMul, Nat.reduceLeDiff, Nat.zero_add, Nat.add_zero, Option.map_some, Int.reduceEq, Int.reduceLT, Int.reduceLE, Bool.false_eq_true, decide_true, decide_false, ge_iff_le, gt_iff_lt, set_get']; rfl) ?_)
      show Wc T _ _ _
      refine Wc_cond false (by simp only [upd, dstUpd, args0, List.getD_cons_zero, List.getD_cons_succ, reduceIte, Nat.reduceEqDiff, ptr] <;> first | rfl | assumption | (symm; assumption)) (fun e => by cases e) (fun _ => ?_)
      have hk5 : KeptBut h1.next h2 h5 := hk4.kept k5
      have hgx5 : h5.get h'.next = some (.cells x.cells true 0) := by rw [k5.get _ (by have := hkb4.next; omega)]; exact hgx
      refine Wc_seq (Wc_ops (Wo_pre 4 (fun call => by simp only [List.take_succ_cons, List.take_zero, List.drop_succ_cons, List.drop_zero, iops_nil, iops_op, iops_grd, iK_some, iG_true, iG_false, gval_bool, beq_self_eq_true, beq_true, beq_false, Bool.not_true, Bool.not_false, iop, ev, upd, dstUpd, binV, binI, unV, ptr, Heap.cell, Heap.write, cellsOf, put, args0, partL, List.getD_cons_zero, List.getD_cons_succ, List.length_cons, List.length_nil, List.set_cons_zero, List.set_cons_succ, List.getElem?_cons_zero, List.getElem?_cons_succ, reduceIte, Nat.reduceEqDiff, Nat.reduceAdd, Nat.reduceMul, Nat.reduceLeDiff, Nat.zero_add, Nat.add_zero, Option.map_some, Int.reduceEq, Int.reduceLT, Int.reduceLE, Bool.false_eq_true, decide_true, decide_false, ge_iff_le, gt_iff_lt, set_get', e0', e7, hgx5, Nd.cells, e8]; rfl) ?_))
      refine Wo_call (Wk_kept (fits_ok F.fits (hn.keep (hkept _ hk5)) (hki.keep (hkept _ hk5)) (fun k hk => ⟨(ok.kids k hk).1, by have := (ok.kids k hk).2; omega⟩) hkl w3 w2) fun h6 k6 => ?_)
      rw [fit_of_shape ok.kind.1 ok.kind.2 ok.shape]
      refine (Wo_run (fun call => by simp only [List.drop_succ_cons, List.drop_zero, iops_nil, iops_op, iops_grd, iK_some, iG_true, iG_false, gval_bool, beq_self_eq_true, beq_true, beq_false, Bool.not_true, Bool.not_false, iop, ev, upd, dstUpd, binV, binI, unV, ptr, Heap.cell, Heap.write, cellsOf, put, args0, partL, List.getD_cons_zero, List.getD_cons_succ, List.length_cons, List.length_nil, List.set_cons_zero, List.set_cons_succ, List.getElem?_cons_zero, List.getElem?_cons_succ, reduceIte, Nat.reduceEqDiff, Nat.reduceAdd, Nat.reduceMul, Nat.reduceLeDiff, Nat.zero_add, Nat.add_zero, Option.map_some, Int.reduceEq, Int.reduceLT, Int.reduceLE, Bool.false_eq_true, decide_true, decide_false, ge_iff_le, gt_iff_lt, set_get']; rfl) ?_)
      show Wc T _ _ _
      refine Wc_cond false (by simp only [upd, dstUpd, args0, List.getD_cons_zero, List.getD_cons_succ, reduceIte, Nat.reduceEqDiff, ptr] <;> first | rfl | assumption | (symm; assumption)) (fun e => by cases e) (fun _ => Wc_skip ?_)
      obtain ⟨ms', hu', hms'⟩ := hex
      refine ⟨rfl, hk5.kept k6, ms', ?_, hms'⟩
      show h6.get h1.next = _
      rw [k6.get _ (by have := hk5.next; omega), k5.get _ (by have := hk4.next; omega)]; exact hu'
    · rintro e h' d ⟨rfl, hkb, hex⟩ hfr h24
      have e0 : e 0 = v := (by rw [hfr 0 (by decide)]; try simp only [upd, dstUpd, args0, List.getD_cons_zero, List.getD_cons_succ, reduceIte, Nat.reduceEqDiff] <;> first | rfl | assumption | (symm; assumption))
      have e5 : e 5 = .slice (some ⟨h1.next, 0, none⟩) l.length l.length := (by rw [hfr 5 (by decide)]; try simp only [upd, dstUpd, args0, List.getD_cons_zero, List.getD_cons_succ, reduceIte, Nat.reduceEqDiff] <;> first | rfl | assumption | (symm; assumption))
      exact ⟨rfl, hkb, hex, (by simp only [upd, dstUpd, args0, List.getD_cons_zero, List.getD_cons_succ, reduceIte, Nat.reduceEqDiff, ptr, e0] <;> first | rfl | assumption | (symm; assumption)), (by simp only [upd, dstUpd, args0, List.getD_cons_zero, List.getD_cons_succ, reduceIte, Nat.reduceEqDiff, ptr, e5] <;> first | rfl | assumption | (symm; assumption))⟩
  rintro ⟨e, h3, d⟩ ⟨hd, hkb, ⟨ms, hu, hms⟩, e0, e5⟩
  simp only at hd hkb hu e0 e5
  rw [hd]
  have hne := g.ne
  have ew : IntKind.i64.wrap (((l.length : Nat) : Int) - 1) = ((l.length : Nat) : Int) - 1 := wrap64 (by omega) (by omega)
  refine Wc_seq (Wc_ops (Wo_run (fun call => by simp only [List.drop_succ_cons, List.drop_zero, iops_nil, iops_op, iops_grd, iK_some, iG_true, iG_false, gval_bool, beq_self_eq_true, beq_true, beq_false, Bool.not_true, Bool.not_false, iop, ev, upd, dstUpd, binV, binI, unV, ptr, Heap.cell, Heap.write, cellsOf, put, args0, partL, List.getD_cons_zero, List.getD_cons_succ, List.length_cons, List.length_nil, List.set_cons_zero, List.set_cons_succ, List.getElem?_cons_zero, List.getElem?_cons_succ, reduceIte, Nat.reduceEqDiff, Nat.reduceAdd, Nat.reduceMul, Nat.reduceLeDiff, Nat.zero_add, Nat.add_zero, Option.map_some, Int.reduceEq, Int.reduceLT, Int.reduceLE, Bool.false_eq_true, decide_true, decide_false, ge_iff_le, gt_iff_lt, set_get', e0, hvl, ew]; rfl) ?_))
  show Wc T _ _ _
  refine Wc_mid (fun s' => s'.d = some [] ∧ KeptBut h1.next h2 s'.h ∧ s'.e 0 = v ∧ s'.e 12 = .int .i64 (((l.length : Nat) : Int) - 1)) ?_ ?_
  · refine Wc_seq (Wc_ops (Wo_run (fun call => by simp only [List.drop_succ_cons, List.drop_zero, iops_nil, iops_op, iops_grd, iK_some, iG_true, iG_false, gval_bool, beq_self_eq_true, beq_true, beq_false, Bool.not_true, Bool.not_false, iop, ev, upd, dstUpd, binV, binI, unV, ptr, Heap.cell, Heap.write, cellsOf, put, args0, partL, List.getD_cons_zero, List.getD_cons_succ, List.length_cons, List.length_nil, List.set_cons_zero, List.set_cons_succ, List.getElem?_cons_zero, List.getElem?_cons_succ, reduceIte, Nat.reduceEqDiff, Nat.reduceAdd, Nat.reduceMul, Nat.reduceLeDiff, Nat.zero_add, Nat.add_zero, Option.map_some, Int.reduceEq, Int.reduceLT, Int.reduceLE, Bool.false_eq_true, decide_true, decide_false, ge_iff_le, gt_iff_lt, set_get', e0, hvl]; rfl) ?_))
    show Wc T _ _ _
    refine Wc_range l.length (fun j e h' d => d = some [] ∧ KeptBut h1.next h2 h' ∧ h'.get h1.next = some (.cells (ints64 ms) true 1)) (by decide) (by simp only [upd, dstUpd, args0, List.getD_cons_zero, List.getD_cons_succ, reduceIte, Nat.reduceEqDiff, ptr] <;> first | rfl | assumption | (symm; assumption)) (by simp only [upd, dstUpd, args0, List.getD_cons_zero, List.getD_cons_succ, reduceIte, Nat.reduceEqDiff, ptr] <;> first | rfl | assumption | (symm; assumption)) (by omega) (by decide) ⟨rfl, hkb, hu⟩ ?_ ?_
    · rintro j e' h' d hj ⟨rfl, hkb2, hu2⟩ hfr h91 h90
      obtain ⟨x, hx⟩ : ∃ x, l[j]? = some x := ⟨_, List.getElem?_eq_getElem hj⟩
      obtain ⟨b, c, o, z', hvb, hb, hg, hcs⟩ := (hn.keep (hkept _ hkb2)).load4 hx
      have e89 : e' 89 = v := (by rw [hfr 89 (by decide)]; try simp only [upd, dstUpd, args0, List.getD_cons_zero, List.getD_cons_succ, reduceIte, Nat.reduceEqDiff] <;> first | rfl | assumption | (symm; assumption))
      have e5' : e' 5 = .slice (some ⟨h1.next, 0, none⟩) l.length l.length := (by rw [hfr 5 (by decide)]; try simp only [upd, dstUpd, args0, List.getD_cons_zero, List.getD_cons_succ, reduceIte, Nat.reduceEqDiff] <;> first | rfl | assumption | (symm; assumption))
      have e12 : e' 12 = .int .i64 (((l.length : Nat) : Int) - 1) := (by rw [hfr 12 (by decide)]; try simp only [upd, dstUpd, args0, List.getD_cons_zero, List.getD_cons_succ, reduceIte, Nat.reduceEqDiff] <;> first | rfl | assumption | (symm; assumption))
      refine Wc_seq (Wc_ops (Wo_pre 5 (fun call => by simp only [List.take_succ_cons, List.take_zero, List.drop_succ_cons, List.drop_zero, iops_nil, iops_op, iops_grd, iK_some, iG_true, iG_false, gval_bool, beq_self_eq_true, beq_true, beq_false, Bool.not_true, Bool.not_false, iop, ev, upd, dstUpd, binV, binI, unV, ptr, Heap.cell, Heap.write, cellsOf, put, args0, partL, List.getD_cons_zero, List.getD_cons_succ, List.length_cons, List.length_nil, List.set_cons_zero, List.set_cons_succ, List.getElem?_cons_zero, List.getElem?_cons_succ, reduceIte, Nat.reduceEqDiff, Nat.reduceAdd, Nat.reduceMul, Nat.reduceLeDiff, Nat.zero_add, Nat.add_zero, Option.map_some, Int.reduceEq, Int.reduceLT, Int.reduceLE, Bool.false_eq_true, decide_true, decide_false, ge_iff_le, gt_iff_lt, set_get', h91, e89, hvb, idx_ok hj, hcs]; rfl) ?_))
      refine Wo_store_new (cs := x.cells) (h := h') (by simp only [upd, dstUpd, args0, List.getD_cons_zero, List.getD_cons_succ, reduceIte, Nat.reduceEqDiff, ptr] <;> first | rfl | assumption | (symm; assumption)) (by simp only [upd, dstUpd, args0, List.getD_cons_zero, List.getD_cons_succ, reduceIte, Nat.reduceEqDiff, ptr] <;> first | rfl | assumption | (symm; assumption)) rfl rfl fun h4 n4 => Wo_nil ?_
      show Wc T _ _ _
      have hu4 : h4.get h1.next = some (.cells (ints64 ms) true 1) := by
        rw [n4.kept.get _ (by have := hkb2.next; omega)]; exact hu2
      have hk4 : KeptBut h1.next h2 h4 := hkb2.kept n4.kept
      obtain ⟨m0, hm0, hm1, hm2⟩ := hms.2 j hj
      have hcm : (ints64 ms)[j * 1]? = some (.int .i64 m0) := by rw [Nat.mul_one]; exact ints64_get hm0
      have hq : (((j : Nat) : Int) == ((l.length : Nat) : Int) - 1) = decide (j + 1 = l.length) := by rw [Bool.beq_eq_decide_eq, decide_eq_decide]; omega
      have hp : (x.kind == 1) = decide (x.kind = 1) := Bool.beq_eq_decide_eq _ _
      have hlast := g.last j x hx
      have hroot : j + 1 = l.length → (j : Int) ∉ kidsUp l l.length := fun hj1 hm => by
        simp only [kidsUp, List.take_length, List.mem_flatMap] at hm
        obtain ⟨y, hy, hky⟩ := hm
        obtain ⟨i, hi⟩ := List.getElem?_of_mem hy
        have := ((g.ok i y hi).kids _ hky).2
        have := (List.getElem?_eq_some_iff.1 hi).1
        omega
      cases q : decide (j + 1 = l.length)
      · have q' := of_decide_eq_false q
        have p : decide (x.kind = 1) = false := decide_eq_false fun e => q' (hlast.1 e)
        have hm : (m0 == 0) = false := beq_eq_false_iff_ne.2 fun e => hm2.1 e (g.used j (by omega))
        refine Wc_seq (Wc_ops (Wo_run (fun call => by simp only [List.drop_succ_cons, List.drop_zero, iops_nil, iops_op, iops_grd, iK_some, iG_true, iG_false, gval_bool, beq_self_eq_true, beq_true, beq_false, Bool.not_true, Bool.not_false, iop, ev, upd, dstUpd, binV, binI, unV, ptr, Heap.cell, Heap.write, cellsOf, put, args0, partL, List.getD_cons_zero, List.getD_cons_succ, List.length_cons, List.length_nil, List.set_cons_zero, List.set_cons_succ, List.getElem?_cons_zero, List.getElem?_cons_succ, reduceIte, Nat.reduceEqDiff, Nat.reduceAdd, Nat.reduceMul, Nat.reduceLeDiff, Nat.zero_add, Nat.add_zero, Option.map_some, Int.reduceEq, Int.reduceLT, Int.reduceLE, Bool.false_eq_true, decide_true, decide_false, ge_iff_le, gt_iff_lt, set_get', n4.get, Nd.cells, e5', e12, hp, hq, p, q, bne, idx_ok hj, hu4, hcm, hm]; rfl) ?_))
        show Wc T _ _ _
        refine Wc_cond false (by simp only [upd, dstUpd, args0, List.getD_cons_zero, List.getD_cons_succ, reduceIte, Nat.reduceEqDiff, ptr] <;> first | rfl | assumption | (symm; assumption)) (fun e => by cases e) (fun _ => Wc_skip ?_)
        exact ⟨rfl, hk4, hu4⟩
      · have q' := of_decide_eq_true q
        have p : decide (x.kind = 1) = true := decide_eq_true (hlast.2 q')
        have hm : (m0 == 0) = true := beq_iff_eq.2 (hm2.2 (hroot q'))
        refine Wc_seq (Wc_ops (Wo_run (fun call => by simp only [List.drop_succ_cons, List.drop_zero, iops_nil, iops_op, iops_grd, iK_some, iG_true, iG_false, gval_bool, beq_self_eq_true, beq_true, beq_false, Bool.not_true, Bool.not_false, iop, ev, upd, dstUpd, binV, binI, unV, ptr, Heap.cell, Heap.write, cellsOf, put, args0, partL, List.getD_cons_zero, List.getD_cons_succ, List.length_cons, List.length_nil, List.set_cons_zero, List.set_cons_succ, List.getElem?_cons_zero, List.getElem?_cons_succ, reduceIte, Nat.reduceEqDiff, Nat.reduceAdd, Nat.reduceMul, Nat.reduceLeDiff, Nat.zero_add, Nat.add_zero, Option.map_some, Int.reduceEq, Int.reduceLT, Int.reduceLE, Bool.false_eq_true, decide_true, decide_false, ge_iff_le, gt_iff_lt, set_get', n4.get, Nd.cells, e5', e12, hp, hq, p, q, bne, idx_ok hj, hu4, hcm, hm]; rfl) ?_))
        show Wc T _ _ _
        refine Wc_cond false (by simp only [upd, dstUpd, args0, List.getD_cons_zero, List.getD_cons_succ, reduceIte, Nat.reduceEqDiff, ptr] <;> first | rfl | assumption | (symm; assumption)) (fun e => by cases e) (fun _ => Wc_skip ?_)
        exact ⟨rfl, hk4, hu4⟩
    · rintro e' h' d ⟨rfl, hkb2, hu2⟩ hfr h91
      have e0' : e' 0 = v := (by rw [hfr 0 (by decide)]; try simp only [upd, dstUpd, args0, List.getD_cons_zero, List.getD_cons_succ, reduceIte, Nat.reduceEqDiff] <;> first | rfl | assumption | (symm; assumption))
      have e12 : e' 12 = .int .i64 (((l.length : Nat) : Int) - 1) := (by rw [hfr 12 (by decide)]; try simp only [upd, dstUpd, args0, List.getD_cons_zero, List.getD_cons_succ, reduceIte, Nat.reduceEqDiff] <;> first | rfl | assumption | (symm; assumption))
      exact ⟨rfl, hkb2, (by simp only [upd, dstUpd, args0, List.getD_cons_zero, List.getD_cons_succ, reduceIte, Nat.reduceEqDiff, ptr, e0'] <;> first | rfl | assumption | (symm; assumption)), (by simp only [upd, dstUpd, args0, List.getD_cons_zero, List.getD_cons_succ, reduceIte, Nat.reduceEqDiff, ptr, e12] <;> first | rfl | assumption | (symm; assumption))⟩
  rintro ⟨e', h4, d⟩ ⟨hd4, hkb4, e0', e12⟩
  simp only at hd4 hkb4 e0' e12
  rw [hd4]
  have z : ¬ ((l.length : Nat) : Int) - 1 < 0 := by omega
  refine Wc_seq (Wc_block (Wc_seq (Wc_ops (Wo_run (fun call => by simp only [List.drop_succ_cons, List.drop_zero, iops_nil, iops_op, iops_grd, iK_some, iG_true, iG_false, gval_bool, beq_self_eq_true, beq_true, beq_false, Bool.not_true, Bool.not_false, iop, ev, upd, dstUpd, binV, binI, unV, ptr, Heap.cell, Heap.write, cellsOf, put, args0, partL, List.getD_cons_zero, List.getD_cons_succ, List.length_cons, List.length_nil, List.set_cons_zero, List.set_cons_succ, List.getElem?_cons_zero, List.getElem?_cons_succ, reduceIte, Nat.reduceEqDiff, Nat.reduceAdd, Nat.reduceMul, Nat.reduceLeDiff, Nat.zero_add, Nat.add_zero, Option.map_some, Int.reduceEq, Int.reduceLT, Int.reduceLE, Bool.false_eq_true, decide_true, decide_false, ge_iff_le, gt_iff_lt, set_get', e12, z]; rfl) ?_))))
  show Wc T _ _ _
  refine Wc_cond false (by simp only [upd, dstUpd, args0, List.getD_cons_zero, List.getD_cons_succ, reduceIte, Nat.reduceEqDiff, ptr] <;> first | rfl | assumption | (symm; assumption)) (fun e => by cases e) (fun _ => ?_)
  refine Wc_seq (Wc_ops (Wo_pre 1 (fun call => by simp only [List.take_succ_cons, List.take_zero, List.drop_succ_cons, List.drop_zero, iops_nil, iops_op, iops_grd, iK_some, iG_true, iG_false, gval_bool, beq_self_eq_true, beq_true, beq_false, Bool.not_true, Bool.not_false, iop, ev, upd, dstUpd, binV, binI, unV, ptr, Heap.cell, Heap.write, cellsOf, put, args0, partL, List.getD_cons_zero, List.getD_cons_succ, List.length_cons, List.length_nil, List.set_cons_zero, List.set_cons_succ, List.getElem?_cons_zero, List.getElem?_cons_succ, reduceIte, Nat.reduceEqDiff, Nat.reduceAdd, Nat.reduceMul, Nat.reduceLeDiff, Nat.zero_add, Nat.add_zero, Option.map_some, Int.reduceEq, Int.reduceLT, Int.reduceLE, Bool.false_eq_true, decide_true, decide_false, ge_iff_le, gt_iff_lt, set_get', e0']; rfl) ?_))
  refine Wo_call (Wk_kept (deep13 F.deep (hn.keep (hkept _ hkb4)) hN hK) fun h5 k5 => ?_)
  refine (Wo_run (fun call => by simp only [List.drop_succ_cons, List.drop_zero, iops_nil, iops_op, iops_grd, iK_some, iG_true, iG_false, gval_bool, beq_self_eq_true, beq_true, beq_false, Bool.not_true, Bool.not_false, iop, ev, upd, dstUpd, binV, binI, unV, ptr, Heap.cell, Heap.write, cellsOf, put, args0, partL, List.getD_cons_zero, List.getD_cons_succ, List.length_cons, List.length_nil, List.set_cons_zero, List.set_cons_succ, List.getElem?_cons_zero, List.getElem?_cons_succ, reduceIte, Nat.reduceEqDiff, Nat.reduceAdd, Nat.reduceMul, Nat.reduceLeDiff, Nat.zero_add, Nat.add_zero, Option.map_some, Int.reduceEq, Int.reduceLT, Int.reduceLE, Bool.false_eq_true, decide_true, decide_false, ge_iff_le, gt_iff_lt, set_get']; rfl) ?_)
  show Wc T _ _ _
  have hdp := g.deep
  refine Wc_cond false (by simp only [upd, dstUpd, args0, List.getD_cons_zero, List.getD_cons_succ, reduceIte, Nat.reduceEqDiff, ptr, decide_eq_false (show ¬ (200 : Int) < ((deepOf l : Nat) : Int) by omega)] <;> first | rfl | assumption | (symm; assumption)) (fun e => by cases e) (fun _ => Wc_skip ?_)
  show Wc T _ _ _
  refine Wc_seq (Wc_ops (Wo_run (fun call => by simp only [List.drop_succ_cons, List.drop_zero, iops_nil, iops_op, iops_grd, iK_some, iG_true, iG_false, gval_bool, beq_self_eq_true, beq_true, beq_false, Bool.not_true, Bool.not_false, iop, ev, upd, dstUpd, binV, binI, unV, ptr, Heap.cell, Heap.write, cellsOf, put, args0, partL, List.getD_cons_zero, List.getD_cons_succ, List.length_cons, List.length_nil, List.set_cons_zero, List.set_cons_succ, List.getElem?_cons_zero, List.getElem?_cons_succ, reduceIte, Nat.reduceEqDiff, Nat.reduceAdd, Nat.reduceMul, Nat.reduceLeDiff, Nat.zero_add, Nat.add_zero, Option.map_some, Int.reduceEq, Int.reduceLT, Int.reduceLE, Bool.false_eq_true, decide_true, decide_false, ge_iff_le, gt_iff_lt, set_get']; rfl) ?_))
  exact Wc_ret ⟨.inr rfl, rfl, [.int .i64 0, .int .i64 0], by simp only [resAll, resV, upd, dstUpd, reduceIte, Nat.reduceEqDiff], (hkept _ hkb4).trans k5, rfl⟩

end Go.Idl
end

section
/- Telling a tree's nodes: each just once (plain). -/
namespace Go.Idl
set_option linter.unusedVariables false
set_option linter.unusedSimpArgs false

def kidsAtN (l : List Nd) (p : Nat) : List Int := (l[p]?.map (·.kids)).getD []
/-- The kids of all that are not told yet. -/
def restK (l : List Nd) (told : List Int) (n : Nat) : List Int := (List.range n).flatMap fun p : Nat => if (p : Int) ∈ told then [] else kidsAtN l p
/-- Each node was told, or is to be told, or is the kid of one that is not told yet: just one of it, once. -/
def Bal (l : List Nd) (told todo : List Int) : Prop := ∀ k : Nat, k < l.length → told.count (k : Int) + todo.count (k : Int) + (restK l told l.length).count (k : Int) = 1

theorem restK_nil (l : List Nd) : ∀ n, n ≤ l.length → restK l [] n = kidsUp l n
  | 0, _ => rfl
  | n + 1, h => by
    obtain ⟨x, hx⟩ : ∃ x, l[n]? = some x := ⟨_, List.getElem?_eq_getElem h⟩
    rw [kidsUp_succ hx, ← restK_nil l n (by omega)]
    simp [restK, List.range_succ, kidsAtN, hx]

theorem bal_start {l : List Nd} (g : GoodT l) : Bal l [] [((l.length : Nat) : Int) - 1] := by
  intro k hk
  rw [restK_nil l _ (Nat.le_refl _)]
  have hne := g.ne
  have hroot : ((l.length : Nat) : Int) - 1 ∉ kidsUp l l.length := fun hm => by
    simp only [kidsUp, List.take_length, List.mem_flatMap] at hm
    obtain ⟨y, hy, hky⟩ := hm
    obtain ⟨i, hi⟩ := List.getElem?_of_mem hy
    have := ((g.ok i y hi).kids _ hky).2
    have := (List.getElem?_eq_some_iff.1 hi).1
    omega
  by_cases h : k + 1 = l.length
  · have : (k : Int) = ((l.length : Nat) : Int) - 1 := by omega
    rw [this, List.count_eq_zero.2 hroot]
    simp
  · have h1 : (k : Int) ≠ ((l.length : Nat) : Int) - 1 := by omega
    have h2 := g.used k (by omega)
    have h3 : (kidsUp l l.length).count (k : Int) = 1 := by
      have a := List.nodup_iff_count.1 g.nodup (k : Int)
      have b := List.count_pos_iff.2 h2
      omega
    rw [h3, List.count_nil, List.count_cons, List.count_nil]
    rw [if_neg (by simpa using Ne.symm h1)]

theorem restK_step {l : List Nd} {told : List Int} {n : Nat} (hn : (n : Int) ∉ told) (k : Int) : ∀ m, n < m → (restK l told m).count k = (restK l (told ++ [(n : Int)]) m).count k + (kidsAtN l n).count k
  | m + 1, h => by
    have e : ∀ t : List Int, restK l t (m + 1) = restK l t m ++ (if (m : Int) ∈ t then [] else kidsAtN l m) := fun t => by simp [restK, List.range_succ]
    rw [e, e, List.count_append, List.count_append]
    by_cases hm : n = m
    · subst hm
      rw [if_neg hn, if_pos (List.mem_append_right _ (List.mem_singleton.2 rfl))]
      have same : restK l told n = restK l (told ++ [(n : Int)]) n := by
        simp only [restK]
        refine congrArg List.flatten (List.map_congr_left fun p hp => ?_)
        have hlt := List.mem_range.1 hp
        have : ((p : Int) ∈ told) = ((p : Int) ∈ told ++ [(n : Int)]) := propext (by
          rw [List.mem_append, List.mem_singleton]
          exact ⟨.inl, fun h => h.resolve_right (by omega)⟩)
        simp only [this]
      rw [same]; simp
    · have ih := restK_step (l := l) hn k m (by omega)
      have : ((m : Int) ∈ told) = ((m : Int) ∈ told ++ [(n : Int)]) := propext (by
        rw [List.mem_append, List.mem_singleton]
        exact ⟨.inl, fun h => h.resolve_right (by omega)⟩)
      rw [ih]
      simp only [this]
      omega

theorem bal_new {l : List Nd} {told todo : List Int} {n : Nat} (h : Bal l told (todo ++ [(n : Int)])) (hn : n < l.length) : (n : Int) ∉ told := fun hm => by
  have h1 := h n hn
  have h2 := List.count_pos_iff.2 hm
  rw [List.count_append, List.count_cons, List.count_nil] at h1
  simp at h1
  omega
theorem bal_step {l : List Nd} {told todo : List Int} {n : Nat} (h : Bal l told (todo ++ [(n : Int)])) (hn : n < l.length) : Bal l (told ++ [(n : Int)]) (todo ++ (kidsAtN l n).reverse) := by
  intro k hk
  have h1 := h k hk
  rw [restK_step (bal_new h hn) (k : Int) l.length hn] at h1
  rw [List.count_append] at h1 ⊢
  rw [List.count_append, List.count_reverse]
  omega

/-- How many are not told yet. -/
def untold (l : List Nd) (told : List Int) : Nat := (List.range l.length).countP fun p : Nat => !decide ((p : Int) ∈ told)
theorem countP_lt {α : Type} {p q : α → Bool} : ∀ {L : List α} {y : α}, (∀ x, q x = true → p x = true) → y ∈ L → p y = true → q y = false → L.countP q < L.countP p
  | x :: L, y, hpq, hm, hp, hq => by
    rw [List.countP_cons, List.countP_cons]
    have mono : L.countP q ≤ L.countP p := List.countP_mono_left fun x _ => hpq x
    rcases List.mem_cons.1 hm with rfl | hm
    · rw [hp, hq]; simp; omega
    · have ih := countP_lt hpq hm hp hq
      have : (if q x = true then 1 else 0) ≤ (if p x = true then 1 else 0) := by
        by_cases h : q x = true
        · rw [if_pos h, if_pos (hpq x h)]; exact Nat.le_refl _
        · rw [if_neg h]; exact Nat.zero_le _
      omega
theorem untold_lt {l : List Nd} {told : List Int} {n : Nat} (hn : n < l.length) (h : (n : Int) ∉ told) : untold l (told ++ [(n : Int)]) < untold l told := by
  refine countP_lt (y := n) ?_ (List.mem_range.2 hn) ?_ ?_
  · intro x hx
    simp only [Bool.not_eq_true', decide_eq_false_iff_not, List.mem_append, not_or] at hx ⊢
    exact hx.1
  · simp [h]
  · simp

theorem bal_end {l : List Nd} (g : GoodT l) {told : List Int} (h : Bal l told []) : ∀ k : Nat, k < l.length → told.count (k : Int) = 1 := by
  have all : ∀ m k : Nat, k < l.length → l.length - k ≤ m → (k : Int) ∈ told := by
    intro m
    induction m with
    | zero => intro k hk h; omega
    | succ m ih =>
      intro k hk hm
      refine Decidable.byContradiction fun hn => ?_
      have h1 := h k hk
      rw [List.count_eq_zero.2 hn, List.count_nil] at h1
      have h2 : (k : Int) ∈ restK l told l.length := List.count_pos_iff.1 (by omega)
      simp only [restK, List.mem_flatMap] at h2
      obtain ⟨p, hp, h3⟩ := h2
      have hpl := List.mem_range.1 hp
      split at h3
      · cases h3
      · rename_i hpn
        obtain ⟨x, hx⟩ : ∃ x, l[p]? = some x := ⟨_, List.getElem?_eq_getElem hpl⟩
        simp only [kidsAtN, hx, Option.map_some, Option.getD_some] at h3
        have := ((g.ok p x hx).kids _ h3).2
        exact hpn (ih p hpl (by omega))
  intro k hk
  have h1 := h k hk
  have h2 := List.count_pos_iff.2 (all _ k hk (Nat.le_refl _))
  omega

end Go.Idl
end

section
/- The program's walk. -/
namespace Go.Idl
set_option linter.unusedVariables false
set_option linter.unusedSimpArgs false
set_option maxRecDepth 100000

variable {T : Tbl}

/-- Below n all stays. -/
structure Low (n : Nat) (h h' : Heap) : Prop where
  next : h.next ≤ h'.next
  get : ∀ b, b < n → h'.get b = h.get b
theorem Low.refl (n : Nat) (h : Heap) : Low n h h := ⟨Nat.le_refl _, fun _ _ => rfl⟩
theorem Low.trans {n : Nat} {a b c : Heap} (x : Low n a b) (y : Low n b c) : Low n a c := ⟨Nat.le_trans x.next y.next, fun k hk => (y.get k hk).trans (x.get k hk)⟩
theorem Low.kept {n : Nat} {h h' : Heap} (x : Kept h h') (hn : n ≤ h.next) : Low n h h' := ⟨x.next, fun b hb => x.get b (Nat.lt_of_lt_of_le hb hn)⟩

def prC (p : Int × Int) : List Value := [.int .i64 p.1, .int .i64 p.2]
theorem prC_len : ∀ l : List (Int × Int), (l.flatMap prC).length = l.length * 2
  | [] => rfl
  | p :: l => by rw [List.flatMap_cons, List.length_append, prC_len l]; simp [prC]; omega
/-- The stack of what is still to be told. -/
def todoAt (nb xb : Nat) (h : Heap) (v : Value) (l : List (Int × Int)) : Prop :=
  ∃ b c cs, nb ≤ b ∧ b < h.next ∧ b ≠ xb ∧ v = .slice (some ⟨b, 0, none⟩) l.length c ∧ h.get b = some (.cells cs true 2) ∧ cs.take (l.length * 2) = l.flatMap prC ∧ l.length * 2 ≤ cs.length

theorem todoAt.keep {nb xb xb' : Nat} {h h' : Heap} {v : Value} {l : List (Int × Int)} (ht : todoAt nb xb h v l) (hn : h.next ≤ h'.next) (hg : ∀ b, nb ≤ b → b < h.next → h'.get b = h.get b) (hx : xb' = xb ∨ h.next ≤ xb') : todoAt nb xb' h' v l := by
  obtain ⟨b, c, cs, h1, h2, h3, h4, h5, h6, h7⟩ := ht
  exact ⟨b, c, cs, h1, Nat.lt_of_lt_of_le h2 hn, by omega, h4, by rw [hg b h1 h2]; exact h5, h6, h7⟩

theorem todoAt.append {nb xb : Nat} {h : Heap} {v x : Value} {l : List (Int × Int)} {p : Int × Int} (ht : todoAt nb xb h v l) (hx : elemsOf h 2 x = some (1, prC p)) (hs : l.length ≤ 10000000) (hnb : nb ≤ h.next) (hxb : xb < h.next) :
    ∃ v' h', appendV 2 16 v x h = some (v', h') ∧ todoAt nb xb h' v' (l ++ [p]) ∧ Low nb h h' ∧ h'.get xb = h.get xb := by
  obtain ⟨b, c, cs, h1, h2, h3, rfl, h5, h6, h7⟩ := ht
  have hlen : (l ++ [p]).length = l.length + 1 := by simp
  have hfl : (l ++ [p]).flatMap prC = l.flatMap prC ++ prC p := by simp
  have hcl : (l.flatMap prC ++ prC p).take ((l ++ [p]).length * 2) = (l ++ [p]).flatMap prC := by
    rw [hfl, List.take_of_length_le]
    rw [List.length_append, prC_len, hlen]; simp [prC]; omega
  have hlc : (l ++ [p]).length * 2 ≤ (l.flatMap prC ++ prC p).length := by
    rw [hlen, List.length_append, prC_len]; simp [prC]; omega
  by_cases hc : l.length = c
  · refine ⟨.slice (some ⟨h.next, 0, none⟩) (l.length + 1) (l.length + 1 + 1), h.new (.cells (l.flatMap prC ++ prC p) true 2), ?_, ⟨h.next, l.length + 1 + 1, _, hnb, Nat.lt_succ_self _, by omega, by rw [hlen], new_get' _ _, hcl, hlc⟩, ⟨Nat.le_succ _, fun k hk => new_get_ne' _ _ (by omega)⟩, new_get_ne' _ _ (by omega)⟩
    have hold : (if l.length = 0 then some [] else h.cells b 0 (l.length * 2)) = some (l.flatMap prC) := by
      by_cases h0 : l.length = 0
      · rw [if_pos h0, List.length_eq_zero_iff.1 h0]; rfl
      · rw [if_neg h0]
        simp only [Heap.cells, h5, Nat.zero_add]
        rw [if_pos h7, List.drop_zero, h6]
    simp only [appendV, hx, Nat.one_ne_zero, if_false]
    rw [if_pos (by omega), if_pos hc, hold]
  · refine ⟨.slice (some ⟨h.next, 0, none⟩) (l.length + 1) (l.length + 1 + 1), (h.set b .dead).new (.cells (l.flatMap prC ++ prC p) true 2), ?_, ⟨h.next, l.length + 1 + 1, _, hnb, Nat.lt_succ_self _, by omega, by rw [hlen], new_get' _ _, hcl, hlc⟩, ⟨Nat.le_succ _, fun k hk => ?_⟩, ?_⟩
    · simp only [appendV, hx, Nat.one_ne_zero, if_false, h5]
      rw [if_pos (by omega), if_neg hc, if_pos ⟨trivial, by omega⟩, List.drop_zero, h6]
    · rw [new_get_ne' _ _ (by rw [set_next]; omega), set_get_ne' _ _ (by omega)]
    · rw [new_get_ne' _ _ (by rw [set_next]; omega), set_get_ne' _ _ (by omega)]

/-- The stack's top. -/
theorem todoAt.top {nb xb : Nat} {h : Heap} {v : Value} {l : List (Int × Int)} {p : Int × Int} (ht : todoAt nb xb h v (l ++ [p])) : ∃ b c cs, v = .slice (some ⟨b, 0, none⟩) (l.length + 1) c ∧ b < h.next ∧ b ≠ xb ∧ h.get b = some (.cells cs true 2) ∧ h.cells b (l.length * 2) 2 = some (prC p) ∧ todoAt nb xb h (subSl 2 (l.length + 1) c 0 l.length none (some ⟨b, 0, none⟩)) l := by
  obtain ⟨b, c, cs, h1, h2, h3, rfl, h5, h6, h7⟩ := ht
  rw [List.length_append, List.length_singleton] at h6 h7
  have hfl : (l ++ [p]).flatMap prC = l.flatMap prC ++ prC p := by simp
  rw [hfl] at h6
  refine ⟨b, c, cs, by simp, h2, h3, h5, ?_, b, _, cs, h1, h2, h3, rfl, h5, ?_, by omega⟩
  · simp only [Heap.cells, h5]
    rw [if_pos (by omega)]
    have : (cs.drop (l.length * 2)).take 2 = (cs.take ((l.length + 1) * 2)).drop (l.length * 2) := by
      rw [List.drop_take]; congr 1; omega
    rw [this, h6, List.drop_append_of_le_length (by rw [prC_len]; exact Nat.le_refl _), ← prC_len l, List.drop_length, List.nil_append]
  · have : cs.take (l.length * 2) = (cs.take ((l.length + 1) * 2)).take (l.length * 2) := by
      rw [List.take_take]; congr 1; omega
    rw [this, h6, List.take_append_of_le_length (by rw [prC_len]; exact Nat.le_refl _), List.take_of_length_le (by rw [prC_len]; exact Nat.le_refl _)]

end Go.Idl
end

section
/- The program's walk of a right tree tells each node once. -/
namespace Go.Idl
set_option linter.unusedVariables false
set_option linter.unusedSimpArgs false
set_option maxRecDepth 100000

variable {T : Tbl}

theorem walk_ok (F : ChkFns T) (hT : T.fn 28 = some C28) {v : Value} {l : List Nd} {lp cb : Nat} {I : List Int → Heap → Prop} {h : Heap} (g : GoodT l) (hN : l.length ≤ 3000) (hK : ∀ x ∈ l, x.kids.length ≤ 3000) (hS : ∀ x ∈ l, x.text.size < 4611686018427387904)
    (hmem : ∀ told h1, I told h1 → nodesAt h1 v l ∧ h1.get cb = some (.cells [v] true 0))
    (hlow : ∀ told h1 h2, I told h1 → Low h.next h1 h2 → I told h2)
    (hyld : ∀ (told : List Int) (n : Nat) (d : Int) h1, I told h1 → h.next ≤ h1.next → n < l.length → (n : Int) ∉ told → Wk T (.yld lp) [.int .i64 n, .int .i64 d] h1 (fun o h2 => o = .ret (.bool true) ∧ I (told ++ [(n : Int)]) h2 ∧ h1.next ≤ h2.next ∧ ∀ b, h.next ≤ b → b < h1.next → h2.get b = h1.get b))
    (h0 : I [] h) : Wk T (.fn 28) [.func (.yield lp) #[] #[], ptr cb 0] h (fun o h' => (∃ r, o = .ret r) ∧ ∃ told, I told h' ∧ ∀ k : Nat, k < l.length → told.count (k : Int) = 1) := by
  refine Wk_fn hT (by simp [C28]) ?_
  simp only [C28]
  obtain ⟨hn, hcb⟩ := hmem _ _ h0
  obtain ⟨va, vc, hvl⟩ := hn.len
  have hcell : h.cell cb 0 = some v := by simp only [Heap.cell, hcb]; rfl
  have pcb : ptr cb 0 = .pointer (some ⟨cb, 0, none⟩) := rfl
  have hne := g.ne
  refine Wc_seq (Wc_seq (Wc_ops (Wo_pre 1 (fun call => by simp only [List.take_succ_cons, List.take_zero, List.drop_succ_cons, List.drop_zero, iops_nil, iops_op, iops_grd, iK_some, iG_true, iG_false, gval_bool, beq_self_eq_true, beq_true, beq_false, Bool.not_true, Bool.not_false, iop, ev, upd, dstUpd, binV, binI, unV, ptr, Heap.cell, Heap.write, cellsOf, put, args0, partL, List.getD_cons_zero, List.getD_cons_succ, List.length_cons, List.length_nil, List.set_cons_zero, List.set_cons_succ, List.getElem?_cons_zero, List.getElem?_cons_succ, reduceIte, Nat.reduceEqDiff, Nat.reduceAdd, Nat.reduceMul, Nat.reduceLeDiff, Nat.zero_add, Nat.add_zero, Option.map_some, Int.reduceEq, Int.reduceLT, Int.reduceLE, Bool.false_eq_true, decide_true, decide_false, ge_iff_le, gt_iff_lt, set_get', hcb]; rfl) ?_)))
  refine Wo_call (Wk_kept (check_ok F hn hN hK hS g) fun h1 k1 => ?_)
  refine (Wo_run (fun call => by simp only [List.drop_succ_cons, List.drop_zero, iops_nil, iops_op, iops_grd, iK_some, iG_true, iG_false, gval_bool, beq_self_eq_true, beq_true, beq_false, Bool.not_true, Bool.not_false, iop, ev, upd, dstUpd, binV, binI, unV, ptr, Heap.cell, Heap.write, cellsOf, put, args0, partL, List.getD_cons_zero, List.getD_cons_succ, List.length_cons, List.length_nil, List.set_cons_zero, List.set_cons_succ, List.getElem?_cons_zero, List.getElem?_cons_succ, reduceIte, Nat.reduceEqDiff, Nat.reduceAdd, Nat.reduceMul, Nat.reduceLeDiff, Nat.zero_add, Nat.add_zero, Option.map_some, Int.reduceEq, Int.reduceLT, Int.reduceLE, Bool.false_eq_true, decide_true, decide_false, ge_iff_le, gt_iff_lt, set_get']; rfl) ?_)
  show Wc T _ _ _
  refine Wc_seq (Wc_ops (Wo_run (fun call => by simp only [List.drop_succ_cons, List.drop_zero, iops_nil, iops_op, iops_grd, iK_some, iG_true, iG_false, gval_bool, beq_self_eq_true, beq_true, beq_false, Bool.not_true, Bool.not_false, iop, ev, upd, dstUpd, binV, binI, unV, ptr, Heap.cell, Heap.write, cellsOf, put, args0, partL, List.getD_cons_zero, List.getD_cons_succ, List.length_cons, List.length_nil, List.set_cons_zero, List.set_cons_succ, List.getElem?_cons_zero, List.getElem?_cons_succ, reduceIte, Nat.reduceEqDiff, Nat.reduceAdd, Nat.reduceMul, Nat.reduceLeDiff, Nat.zero_add, Nat.add_zero, Option.map_some, Int.reduceEq, Int.reduceLT, Int.reduceLE, Bool.false_eq_true, decide_true, decide_false, ge_iff_le, gt_iff_lt, set_get', bne]; rfl) ?_))
  show Wc T _ _ _
  refine Wc_cond false (by simp only [upd, dstUpd, args0, List.getD_cons_zero, List.getD_cons_succ, reduceIte, Nat.reduceEqDiff, ptr] <;> first | rfl | assumption | (symm; assumption)) (fun e => by cases e) (fun _ => Wc_skip ?_)
  show Wc T _ _ _
  have l1 : Low h.next h h1 := .kept k1 (Nat.le_refl _)
  have I1 : I [] h1 := hlow _ _ _ h0 l1
  have hcb1 := (hmem _ _ I1).2
  have ew : IntKind.i64.wrap (((l.length : Nat) : Int) - 1) = ((l.length : Nat) : Int) - 1 := wrap64 (by omega) (by omega)
  refine Wc_seq (Wc_ops (Wo_pre 3 (fun call => by simp only [List.take_succ_cons, List.take_zero, List.drop_succ_cons, List.drop_zero, iops_nil, iops_op, iops_grd, iK_some, iG_true, iG_false, gval_bool, beq_self_eq_true, beq_true, beq_false, Bool.not_true, Bool.not_false, iop, ev, upd, dstUpd, binV, binI, unV, ptr, Heap.cell, Heap.write, cellsOf, put, args0, partL, List.getD_cons_zero, List.getD_cons_succ, List.length_cons, List.length_nil, List.set_cons_zero, List.set_cons_succ, List.getElem?_cons_zero, List.getElem?_cons_succ, reduceIte, Nat.reduceEqDiff, Nat.reduceAdd, Nat.reduceMul, Nat.reduceLeDiff, Nat.zero_add, Nat.add_zero, Option.map_some, Int.reduceEq, Int.reduceLT, Int.reduceLE, Bool.false_eq_true, decide_true, decide_false, ge_iff_le, gt_iff_lt, set_get', hcb1, hvl, ew]; rfl) ?_))
  refine Wo_op (v := .agg (prC (((l.length : Nat) : Int) - 1, 0)).toArray) (h' := h1) (by rfl) ?_
  refine Wo_new (v := .slice (some ⟨h1.next, 0, none⟩) 1 1) (B := .cells (prC (((l.length : Nat) : Int) - 1, 0)) true 2) (by rfl) fun h2 n2 => ?_
  refine (Wo_run (fun call => by simp only [List.drop_succ_cons, List.drop_zero, iops_nil, iops_op, iops_grd, iK_some, iG_true, iG_false, gval_bool, beq_self_eq_true, beq_true, beq_false, Bool.not_true, Bool.not_false, iop, ev, upd, dstUpd, binV, binI, unV, ptr, Heap.cell, Heap.write, cellsOf, put, args0, partL, List.getD_cons_zero, List.getD_cons_succ, List.length_cons, List.length_nil, List.set_cons_zero, List.set_cons_succ, List.getElem?_cons_zero, List.getElem?_cons_succ, reduceIte, Nat.reduceEqDiff, Nat.reduceAdd, Nat.reduceMul, Nat.reduceLeDiff, Nat.zero_add, Nat.add_zero, Option.map_some, Int.reduceEq, Int.reduceLT, Int.reduceLE, Bool.false_eq_true, decide_true, decide_false, ge_iff_le, gt_iff_lt, set_get']; rfl) ?_)
  show Wc T _ _ _
  have I2 : I [] h2 := hlow _ _ _ I1 (.kept n2.kept l1.next)
  have loop : ∀ (m : Nat) (e : Env) (h3 : Heap) (tv : Value) (todo : List (Int × Int)) (told : List Int) (xb : Nat), untold l told ≤ m → e 0 = .func (.yield lp) #[] #[] → e 1 = ptr cb 0 → e 5 = tv → I told h3 → h.next ≤ h3.next → todoAt h.next xb h3 tv todo → (∀ p ∈ todo, ∃ n : Nat, p.1 = n ∧ n < l.length) → Bal l told (todo.map (·.1)) → todo.length + 3000 * untold l told ≤ 9000001 →
      Wc T (.loop C28L1) ⟨e, h3, some []⟩ (Tb 0 fun x s => (x = .normal ∨ x = .ret) ∧ s.d = some [] ∧ ∃ vs, resAll s.e s.h [] = some vs ∧ (∃ r, Out.ret (tup vs) = .ret r) ∧ ∃ told, I told s.h ∧ ∀ k : Nat, k < l.length → told.count (k : Int) = 1) := by
    intro m
    induction m with
    | zero =>
      intro e h3 tv todo told xb hm e0 e1 e5 I3 hb3 ht hr hB hlen
      rcases List.eq_nil_or_concat todo with rfl | ⟨L, p, rfl⟩
      · obtain ⟨b, c, cs, _, _, _, rfl, _⟩ := ht
        refine Wc_unroll (Wc_seq (Wc_seq (Wc_ops (Wo_run (fun call => by simp only [List.drop_succ_cons, List.drop_zero, iops_nil, iops_op, iops_grd, iK_some, iG_true, iG_false, gval_bool, beq_self_eq_true, beq_true, beq_false, Bool.not_true, Bool.not_false, iop, ev, upd, dstUpd, binV, binI, unV, ptr, Heap.cell, Heap.write, cellsOf, put, args0, partL, List.getD_cons_zero, List.getD_cons_succ, List.length_cons, List.length_nil, List.set_cons_zero, List.set_cons_succ, List.getElem?_cons_zero, List.getElem?_cons_succ, reduceIte, Nat.reduceEqDiff, Nat.reduceAdd, Nat.reduceMul, Nat.reduceLeDiff, Nat.zero_add, Nat.add_zero, Option.map_some, Int.reduceEq, Int.reduceLT, Int.reduceLE, Bool.false_eq_true, decide_true, decide_false, ge_iff_le, gt_iff_lt, set_get', e5]; rfl) ?_))))
        show Wc T _ _ _
        refine Wc_cond false (by simp only [upd, dstUpd, args0, List.getD_cons_zero, List.getD_cons_succ, reduceIte, Nat.reduceEqDiff, ptr] <;> first | rfl | assumption | (symm; assumption)) (fun e => by cases e) (fun _ => Wc_exit ?_)
        exact ⟨.inl rfl, rfl, [], rfl, ⟨_, rfl⟩, told, I3, bal_end g hB⟩
      · rw [List.concat_eq_append] at hr hB
        obtain ⟨n, hpn, hnl⟩ := hr p (by simp)
        rw [List.map_append, List.map_cons, List.map_nil, hpn] at hB
        have := untold_lt hnl (bal_new hB hnl)
        omega
    | succ m ih =>
      intro e h3 tv todo told xb hm e0 e1 e5 I3 hb3 ht hr hB hlen
      rcases List.eq_nil_or_concat todo with rfl | ⟨L, p, rfl⟩
      · obtain ⟨b, c, cs, _, _, _, rfl, _⟩ := ht
        refine Wc_unroll (Wc_seq (Wc_seq (Wc_ops (Wo_run (fun call => by simp only [List.drop_succ_cons, List.drop_zero, iops_nil, iops_op, iops_grd, iK_some, iG_true, iG_false, gval_bool, beq_self_eq_true, beq_true, beq_false, Bool.not_true, Bool.not_false, iop, ev, upd, dstUpd, binV, binI, unV, ptr, Heap.cell, Heap.write, cellsOf, put, args0, partL, List.getD_cons_zero, List.getD_cons_succ, List.length_cons, List.length_nil, List.set_cons_zero, List.set_cons_succ, List.getElem?_cons_zero, List.getElem?_cons_succ, reduceIte, Nat.reduceEqDiff, Nat.reduceAdd, Nat.reduceMul, Nat.reduceLeDiff, Nat.zero_add, Nat.add_zero, Option.map_some, Int.reduceEq, Int.reduceLT, Int.reduceLE, Bool.false_eq_true, decide_true, decide_false, ge_iff_le, gt_iff_lt, set_get', e5]; rfl) ?_))))
        show Wc T _ _ _
        refine Wc_cond false (by simp only [upd, dstUpd, args0, List.getD_cons_zero, List.getD_cons_succ, reduceIte, Nat.reduceEqDiff, ptr] <;> first | rfl | assumption | (symm; assumption)) (fun e => by cases e) (fun _ => Wc_exit ?_)
        exact ⟨.inl rfl, rfl, [], rfl, ⟨_, rfl⟩, told, I3, bal_end g hB⟩
      rw [List.concat_eq_append] at hr hB hlen ht
      obtain ⟨pn, pd⟩ := p
      obtain ⟨n, hpn, hnl⟩ := hr (pn, pd) (by simp)
      simp only at hpn
      subst hpn
      rw [List.map_append, List.map_cons, List.map_nil] at hB
      have hnew := bal_new hB hnl
      have hlt := untold_lt hnl hnew
      have hB' := bal_step hB hnl
      rw [List.length_append, List.length_singleton] at hlen
      obtain ⟨b, c, cs, rfl, hb, hbx, hgb, hcell, ht'⟩ := ht.top
      obtain ⟨x, hx⟩ : ∃ x, l[n]? = some x := ⟨_, List.getElem?_eq_getElem hnl⟩
      have hkids : kidsAtN l n = x.kids := by simp only [kidsAtN, hx, Option.map_some, Option.getD_some]
      rw [hkids] at hB'
      have hxm := List.mem_of_getElem? hx
      have hkl := hK x hxm
      have z1 : (0 : Int) < ((L.length + 1 : Nat) : Int) := by omega
      have e26 : IntKind.i64.wrap (((L.length + 1 : Nat) : Int) - 1) = ((L.length : Nat) : Int) := by rw [wrap64] <;> omega
      refine Wc_unroll (Wc_seq (Wc_seq (Wc_ops (Wo_run (fun call => by simp only [List.drop_succ_cons, List.drop_zero, iops_nil, iops_op, iops_grd, iK_some, iG_true, iG_false, gval_bool, beq_self_eq_true, beq_true, beq_false, Bool.not_true, Bool.not_false, iop, ev, upd, dstUpd, binV, binI, unV, ptr, Heap.cell, Heap.write, cellsOf, put, args0, partL, List.getD_cons_zero, List.getD_cons_succ, List.length_cons, List.length_nil, List.set_cons_zero, List.set_cons_succ, List.getElem?_cons_zero, List.getElem?_cons_succ, reduceIte, Nat.reduceEqDiff, Nat.reduceAdd, Nat.reduceMul, Nat.reduceLeDiff, Nat.zero_add, Nat.add_zero, Option.map_some, Int.reduceEq, Int.reduceLT, Int.reduceLE, Bool.false_eq_true, decide_true, decide_false, ge_iff_le, gt_iff_lt, set_get', e5, z1]; rfl) ?_))))
      show Wc T _ _ _
      refine Wc_cond true (by simp only [upd, dstUpd, args0, List.getD_cons_zero, List.getD_cons_succ, reduceIte, Nat.reduceEqDiff, ptr] <;> first | rfl | assumption | (symm; assumption)) (fun _ => Wc_skip ?_) (fun e => by cases e)
      show Wc T _ _ _
      refine Wc_block (Wc_seq (Wc_ops (Wo_pre 6 (fun call => by simp only [List.take_succ_cons, List.take_zero, List.drop_succ_cons, List.drop_zero, iops_nil, iops_op, iops_grd, iK_some, iG_true, iG_false, gval_bool, beq_self_eq_true, beq_true, beq_false, Bool.not_true, Bool.not_false, iop, ev, upd, dstUpd, binV, binI, unV, ptr, Heap.cell, Heap.write, cellsOf, put, args0, partL, List.getD_cons_zero, List.getD_cons_succ, List.length_cons, List.length_nil, List.set_cons_zero, List.set_cons_succ, List.getElem?_cons_zero, List.getElem?_cons_succ, reduceIte, Nat.reduceEqDiff, Nat.reduceAdd, Nat.reduceMul, Nat.reduceLeDiff, Nat.zero_add, Nat.add_zero, Option.map_some, Int.reduceEq, Int.reduceLT, Int.reduceLE, Bool.false_eq_true, decide_true, decide_false, ge_iff_le, gt_iff_lt, set_get', e5, e26, idx_ok (show L.length < L.length + 1 by omega), hcell]; rfl) ?_)))
      refine Wo_store_new (cs := prC ((n : Nat), pd)) (h := h3) (by simp only [upd, dstUpd, args0, List.getD_cons_zero, List.getD_cons_succ, reduceIte, Nat.reduceEqDiff, ptr] <;> first | rfl | assumption | (symm; assumption)) (by simp only [upd, dstUpd, args0, List.getD_cons_zero, List.getD_cons_succ, reduceIte, Nat.reduceEqDiff, ptr] <;> first | rfl | assumption | (symm; assumption)) rfl rfl fun h4 n4 => Wo_nil ?_
      show Wc T _ _ _
      have hgb4 : h4.get b = some (.cells cs true 2) := by rw [n4.kept.get _ hb]; exact hgb
      have I4 : I told h4 := hlow _ _ _ I3 (.kept n4.kept hb3)
      have hb4 : h.next ≤ h4.next := Nat.le_trans hb3 n4.kept.next
      have ht4 : todoAt h.next h3.next h4 (subSl 2 (L.length + 1) c 0 L.length none (some ⟨b, 0, none⟩)) L := ht'.keep n4.kept.next (fun b _ hb => n4.kept.get b hb) (.inr (Nat.le_refl _))
      have hx4 : h3.next < h4.next := by rw [n4.next]; exact Nat.lt_succ_self _
      -- off the stack
      refine Wc_seq (Wc_ops (Wo_pre 4 (fun call => by simp only [List.take_succ_cons, List.take_zero, List.drop_succ_cons, List.drop_zero, iops_nil, iops_op, iops_grd, iK_some, iG_true, iG_false, gval_bool, beq_self_eq_true, beq_true, beq_false, Bool.not_true, Bool.not_false, iop, ev, upd, dstUpd, binV, binI, unV, ptr, Heap.cell, Heap.write, cellsOf, put, args0, partL, List.getD_cons_zero, List.getD_cons_succ, List.length_cons, List.length_nil, List.set_cons_zero, List.set_cons_succ, List.getElem?_cons_zero, List.getElem?_cons_succ, reduceIte, Nat.reduceEqDiff, Nat.reduceAdd, Nat.reduceMul, Nat.reduceLeDiff, Nat.zero_add, Nat.add_zero, Option.map_some, Int.reduceEq, Int.reduceLT, Int.reduceLE, Bool.false_eq_true, decide_true, decide_false, ge_iff_le, gt_iff_lt, set_get', e5, e26]; rfl) ?_))
      refine Wo_op (v := subSl 2 (L.length + 1) c 0 L.length none (some ⟨b, 0, none⟩)) (h' := h4) ?_ ?_
      · simp only [iop, ev, upd, dstUpd, reduceIte, Nat.reduceEqDiff, bndO, bnd_ok (Nat.zero_le L.length) (Nat.le_succ L.length), Option.isSome_none, Bool.false_and, Bool.false_or, okSzO, okSz, hgb4, beq_self_eq_true, Bool.or_true, Bool.not_true, Option.getD_none, Bool.false_eq_true]
      refine (Wo_run (fun call => by simp only [List.drop_succ_cons, List.drop_zero, iops_nil, iops_op, iops_grd, iK_some, iG_true, iG_false, gval_bool, beq_self_eq_true, beq_true, beq_false, Bool.not_true, Bool.not_false, iop, ev, upd, dstUpd, binV, binI, unV, ptr, Heap.cell, Heap.write, cellsOf, put, args0, partL, List.getD_cons_zero, List.getD_cons_succ, List.length_cons, List.length_nil, List.set_cons_zero, List.set_cons_succ, List.getElem?_cons_zero, List.getElem?_cons_succ, reduceIte, Nat.reduceEqDiff, Nat.reduceAdd, Nat.reduceMul, Nat.reduceLeDiff, Nat.zero_add, Nat.add_zero, Option.map_some, Int.reduceEq, Int.reduceLT, Int.reduceLE, Bool.false_eq_true, decide_true, decide_false, ge_iff_le, gt_iff_lt, set_get']; rfl) ?_)
      show Wc T _ _ _
      -- told
      refine Wc_seq (Wc_seq (Wc_ops (Wo_pre 5 (fun call => by simp only [List.take_succ_cons, List.take_zero, List.drop_succ_cons, List.drop_zero, iops_nil, iops_op, iops_grd, iK_some, iG_true, iG_false, gval_bool, beq_self_eq_true, beq_true, beq_false, Bool.not_true, Bool.not_false, iop, ev, upd, dstUpd, binV, binI, unV, ptr, Heap.cell, Heap.write, cellsOf, put, args0, partL, List.getD_cons_zero, List.getD_cons_succ, List.length_cons, List.length_nil, List.set_cons_zero, List.set_cons_succ, List.getElem?_cons_zero, List.getElem?_cons_succ, reduceIte, Nat.reduceEqDiff, Nat.reduceAdd, Nat.reduceMul, Nat.reduceLeDiff, Nat.zero_add, Nat.add_zero, Option.map_some, Int.reduceEq, Int.reduceLT, Int.reduceLE, Bool.false_eq_true, decide_true, decide_false, ge_iff_le, gt_iff_lt, set_get', e0, n4.get, prC]; rfl) ?_)))
      refine Wo_callv (c := .yld lp) (vs := [.int .i64 n, .int .i64 pd]) (by simp only [upd, dstUpd, args0, List.getD_cons_zero, List.getD_cons_succ, reduceIte, Nat.reduceEqDiff, ptr, target, e0] <;> first | rfl | assumption | (symm; assumption)) ((hyld told n pd h4 I4 hb4 hnl hnew).mono ?_)
      rintro o h5 ⟨rfl, I5, k5, g5⟩
      show Wo T _ _ _
      refine (Wo_run (fun call => by simp only [List.drop_succ_cons, List.drop_zero, iops_nil, iops_op, iops_grd, iK_some, iG_true, iG_false, gval_bool, beq_self_eq_true, beq_true, beq_false, Bool.not_true, Bool.not_false, iop, ev, upd, dstUpd, binV, binI, unV, ptr, Heap.cell, Heap.write, cellsOf, put, args0, partL, List.getD_cons_zero, List.getD_cons_succ, List.length_cons, List.length_nil, List.set_cons_zero, List.set_cons_succ, List.getElem?_cons_zero, List.getElem?_cons_succ, reduceIte, Nat.reduceEqDiff, Nat.reduceAdd, Nat.reduceMul, Nat.reduceLeDiff, Nat.zero_add, Nat.add_zero, Option.map_some, Int.reduceEq, Int.reduceLT, Int.reduceLE, Bool.false_eq_true, decide_true, decide_false, ge_iff_le, gt_iff_lt, set_get']; rfl) ?_)
      show Wc T _ _ _
      refine Wc_cond false (by simp only [upd, dstUpd, args0, List.getD_cons_zero, List.getD_cons_succ, reduceIte, Nat.reduceEqDiff, ptr] <;> first | rfl | assumption | (symm; assumption)) (fun e => by cases e) (fun _ => Wc_skip ?_)
      show Wc T _ _ _
      have ht5 := ht4.keep (xb' := h3.next) k5 g5 (.inl rfl)
      have hx5 : h5.get h3.next = some (.cells (prC ((n : Nat), pd)) true 0) := by rw [g5 _ hb3 hx4]; exact n4.get
      have hb5 : h.next ≤ h5.next := Nat.le_trans hb4 k5
      obtain ⟨hn5, hcb5⟩ := hmem _ _ I5
      obtain ⟨b6, c6, o6, z6, hvb, hb6, hg6, _⟩ := hn5.load4 hx
      have hkv := (flatN_at hx).2.2.1
      have hki : intsAt h5 x.kv x.kids := hn5.2 x hxm
      obtain ⟨ka, kc, hkvl⟩ := hki.len
      rw [pcb] at e1
      refine Wc_seq (Wc_ops (Wo_run (fun call => by simp only [List.drop_succ_cons, List.drop_zero, iops_nil, iops_op, iops_grd, iK_some, iG_true, iG_false, gval_bool, beq_self_eq_true, beq_true, beq_false, Bool.not_true, Bool.not_false, iop, ev, upd, dstUpd, binV, binI, unV, ptr, Heap.cell, Heap.write, cellsOf, put, args0, partL, List.getD_cons_zero, List.getD_cons_succ, List.length_cons, List.length_nil, List.set_cons_zero, List.set_cons_succ, List.getElem?_cons_zero, List.getElem?_cons_succ, reduceIte, Nat.reduceEqDiff, Nat.reduceAdd, Nat.reduceMul, Nat.reduceLeDiff, Nat.zero_add, Nat.add_zero, Option.map_some, Int.reduceEq, Int.reduceLT, Int.reduceLE, Bool.false_eq_true, decide_true, decide_false, ge_iff_le, gt_iff_lt, set_get', e1, hcb5, hx5, prC, hvb, idx_ok hnl, hg6, hkv]; rfl) ?_))
      show Wc T _ _ _
      refine Wc_seq (Wc_ops (Wo_run (fun call => by simp only [List.drop_succ_cons, List.drop_zero, iops_nil, iops_op, iops_grd, iK_some, iG_true, iG_false, gval_bool, beq_self_eq_true, beq_true, beq_false, Bool.not_true, Bool.not_false, iop, ev, upd, dstUpd, binV, binI, unV, ptr, Heap.cell, Heap.write, cellsOf, put, args0, partL, List.getD_cons_zero, List.getD_cons_succ, List.length_cons, List.length_nil, List.set_cons_zero, List.set_cons_succ, List.getElem?_cons_zero, List.getElem?_cons_succ, reduceIte, Nat.reduceEqDiff, Nat.reduceAdd, Nat.reduceMul, Nat.reduceLeDiff, Nat.zero_add, Nat.add_zero, Option.map_some, Int.reduceEq, Int.reduceLT, Int.reduceLE, Bool.false_eq_true, decide_true, decide_false, ge_iff_le, gt_iff_lt, set_get', hkvl]; rfl) ?_))
      show Wc T _ _ _
      refine Wc_range x.kids.length (fun j e h' d => d = some [] ∧ I (told ++ [(n : Int)]) h' ∧ h5.next ≤ h'.next ∧ h'.get h3.next = some (.cells (prC ((n : Nat), pd)) true 0) ∧ ∃ t, todoAt h.next h3.next h' (e 5) t ∧ t.map (·.1) = L.map (·.1) ++ x.kids.reverse.take j) (by decide) (by simp only [upd, dstUpd, args0, List.getD_cons_zero, List.getD_cons_succ, reduceIte, Nat.reduceEqDiff, ptr] <;> first | rfl | assumption | (symm; assumption)) (by simp only [upd, dstUpd, args0, List.getD_cons_zero, List.getD_cons_succ, reduceIte, Nat.reduceEqDiff, ptr] <;> first | rfl | assumption | (symm; assumption)) (by omega) (by decide) ?_ ?_ ?_
      · exact ⟨rfl, I5, Nat.le_refl _, hx5, L, by simpa only [upd, dstUpd, reduceIte, Nat.reduceEqDiff] using ht5, by simp⟩
      · rintro j e' h' d hj ⟨rfl, I', hb', hx', t, ht', hmap⟩ hfr h50 h49
        obtain ⟨hn', _⟩ := hmem _ _ I'
        have hki' : intsAt h' x.kv x.kids := hn'.2 x hxm
        have hjr : x.kids.length - 1 - j < x.kids.length := by omega
        obtain ⟨k, hkm⟩ : ∃ k, x.kids[x.kids.length - 1 - j]? = some k := ⟨_, List.getElem?_eq_getElem hjr⟩
        have hkr : x.kids.reverse[j]? = some k := by rw [List.getElem?_reverse hj]; exact hkm
        obtain ⟨bk, ck, hkvb, hbk, ⟨ok', zk, hgk⟩, hcell'⟩ := hki'.load hkm
        rw [Nat.zero_add] at hcell'
        have htl : t.length = L.length + j := by
          have := congrArg List.length hmap
          simp only [List.length_map, List.length_append, List.length_take, List.length_reverse] at this
          omega
        have e7 : e' 7 = x.kv := (by rw [hfr 7 (by decide)]; try simp only [upd, dstUpd, args0, List.getD_cons_zero, List.getD_cons_succ, reduceIte, Nat.reduceEqDiff] <;> first | rfl | assumption | (symm; assumption))
        have e6 : e' 6 = .pointer (some ⟨h3.next, 0, none⟩) := (by rw [hfr 6 (by decide)]; try simp only [upd, dstUpd, args0, List.getD_cons_zero, List.getD_cons_succ, reduceIte, Nat.reduceEqDiff] <;> first | rfl | assumption | (symm; assumption))
        have w1 : IntKind.i64.wrap (((x.kids.length : Nat) : Int) - 1) = ((x.kids.length : Nat) : Int) - 1 := wrap64 (by omega) (by omega)
        have w2 : IntKind.i64.wrap (((x.kids.length : Nat) : Int) - 1 - ((j : Nat) : Int)) = ((x.kids.length - 1 - j : Nat) : Int) := by rw [wrap64] <;> omega
        refine Wc_seq (Wc_ops (Wo_run (fun call => by simp only [List.drop_succ_cons, List.drop_zero, iops_nil, iops_op, iops_grd, iK_some, iG_true, iG_false, gval_bool, beq_self_eq_true, beq_true, beq_false, Bool.not_true, Bool.not_false, iop, ev, upd, dstUpd, binV, binI, unV, ptr, Heap.cell, Heap.write, cellsOf, put, args0, partL, List.getD_cons_zero, List.getD_cons_succ, List.length_cons, List.length_nil, List.set_cons_zero, List.set_cons_succ, List.getElem?_cons_zero, List.getElem?_cons_succ, reduceIte, Nat.reduceEqDiff, Nat.reduceAdd, Nat.reduceMul, Nat.reduceLeDiff, Nat.zero_add, Nat.add_zero, Option.map_some, Int.reduceEq, Int.reduceLT, Int.reduceLE, Bool.false_eq_true, decide_true, decide_false, ge_iff_le, gt_iff_lt, set_get', h50]; rfl) ?_))
        show Wc T _ _ _
        refine Wc_draw_still (by decide) ?_
        refine (Wo_pre 12 (fun call => by simp only [List.take_succ_cons, List.take_zero, List.drop_succ_cons, List.drop_zero, iops_nil, iops_op, iops_grd, iK_some, iG_true, iG_false, gval_bool, beq_self_eq_true, beq_true, beq_false, Bool.not_true, Bool.not_false, iop, ev, upd, dstUpd, binV, binI, unV, ptr, Heap.cell, Heap.write, cellsOf, put, args0, partL, List.getD_cons_zero, List.getD_cons_succ, List.length_cons, List.length_nil, List.set_cons_zero, List.set_cons_succ, List.getElem?_cons_zero, List.getElem?_cons_succ, reduceIte, Nat.reduceEqDiff, Nat.reduceAdd, Nat.reduceMul, Nat.reduceLeDiff, Nat.zero_add, Nat.add_zero, Option.map_some, Int.reduceEq, Int.reduceLT, Int.reduceLE, Bool.false_eq_true, decide_true, decide_false, ge_iff_le, gt_iff_lt, set_get', e7, e6, hkvb, w1, w2, idx_ok hjr, hgk, hcell', hx', prC]; rfl) ?_)
        refine Wo_op (v := .agg (prC (k, IntKind.i64.wrap (pd + 1))).toArray) (h' := h') (by rfl) ?_
        refine Wo_new (v := .slice (some ⟨h'.next, 0, none⟩) 1 1) (B := .cells (prC (k, IntKind.i64.wrap (pd + 1))) true 2) (by rfl) fun h6 n6 => ?_
        have hel : elemsOf h6 2 (.slice (some ⟨h'.next, 0, none⟩) 1 1) = some (1, prC (k, IntKind.i64.wrap (pd + 1))) := by
          simp only [elemsOf, Nat.one_ne_zero, if_false, Heap.cells, n6.get]; rfl
        have ht6 : todoAt h.next h3.next h6 (e' 5) t := ht'.keep n6.kept.next (fun b _ hb => n6.kept.get b hb) (.inl rfl)
        have hx3 : h3.next < h'.next := by omega
        obtain ⟨v', h7, ha, ht7, hl7, hx7⟩ := ht6.append hel (by omega) (by have := n6.kept.next; omega) (by have := n6.kept.next; omega)
        refine Wo_op (v := v') (h' := h7) (by simp only [iop, ev, upd, dstUpd, reduceIte, Nat.reduceEqDiff]; exact ha) ?_
        refine (Wo_run (fun call => by simp only [List.drop_succ_cons, List.drop_zero, iops_nil, iops_op, iops_grd, iK_some, iG_true, iG_false, gval_bool, beq_self_eq_true, beq_true, beq_false, Bool.not_true, Bool.not_false, iop, ev, upd, dstUpd, binV, binI, unV, ptr, Heap.cell, Heap.write, cellsOf, put, args0, partL, List.getD_cons_zero, List.getD_cons_succ, List.length_cons, List.length_nil, List.set_cons_zero, List.set_cons_succ, List.getElem?_cons_zero, List.getElem?_cons_succ, reduceIte, Nat.reduceEqDiff, Nat.reduceAdd, Nat.reduceMul, Nat.reduceLeDiff, Nat.zero_add, Nat.add_zero, Option.map_some, Int.reduceEq, Int.reduceLT, Int.reduceLE, Bool.false_eq_true, decide_true, decide_false, ge_iff_le, gt_iff_lt, set_get']; rfl) ?_)
        have hl67 : Low h.next h' h7 := (Low.kept n6.kept (by omega)).trans hl7
        refine ⟨rfl, rfl, hlow _ _ _ I' hl67, Nat.le_trans hb' hl67.next, ?_, t ++ [(k, IntKind.i64.wrap (pd + 1))], ?_, ?_⟩
        · show h7.get h3.next = _
          rw [hx7, n6.kept.get _ hx3]; exact hx'
        · simpa only [upd, dstUpd, reduceIte, Nat.reduceEqDiff] using ht7
        · rw [List.map_append, hmap, List.take_add_one, hkr, List.append_assoc]; rfl
      · rintro e' h' d ⟨rfl, I', hb', hx', t, ht', hmap⟩ hfr h50
        rw [← List.length_reverse, List.take_length] at hmap
        have e0' : e' 0 = .func (.yield lp) #[] #[] := (by rw [hfr 0 (by decide)]; try simp only [upd, dstUpd, args0, List.getD_cons_zero, List.getD_cons_succ, reduceIte, Nat.reduceEqDiff] <;> first | rfl | assumption | (symm; assumption))
        have e1' : e' 1 = .pointer (some ⟨cb, 0, none⟩) := (by rw [hfr 1 (by decide)]; try simp only [upd, dstUpd, args0, List.getD_cons_zero, List.getD_cons_succ, reduceIte, Nat.reduceEqDiff] <;> first | rfl | assumption | (symm; assumption))
        have htl : t.length = L.length + x.kids.length := by
          have := congrArg List.length hmap
          simp only [List.length_map, List.length_append, List.length_reverse] at this
          omega
        refine ih _ h' _ t (told ++ [(n : Int)]) h3.next (by omega) (by simp only [upd, dstUpd, args0, List.getD_cons_zero, List.getD_cons_succ, reduceIte, Nat.reduceEqDiff, ptr, e0'] <;> first | rfl | assumption | (symm; assumption)) (by simp only [upd, dstUpd, args0, List.getD_cons_zero, List.getD_cons_succ, reduceIte, Nat.reduceEqDiff, ptr, e1'] <;> first | rfl | assumption | (symm; assumption)) (by simp only [upd, dstUpd, args0, List.getD_cons_zero, List.getD_cons_succ, reduceIte, Nat.reduceEqDiff, ptr] <;> first | rfl | assumption | (symm; assumption)) I' (Nat.le_trans hb5 hb') ht' ?_ (by rw [hmap]; exact hB') (by omega)
        intro p hp
        have hm1 : p.1 ∈ t.map (·.1) := List.mem_map_of_mem hp
        rw [hmap, List.mem_append] at hm1
        rcases hm1 with hm1 | hm1
        · obtain ⟨q, hq, hqe⟩ := List.mem_map.1 hm1
          obtain ⟨i, hi1, hi2⟩ := hr q (List.mem_append_left _ hq)
          exact ⟨i, by rw [← hqe]; exact hi1, hi2⟩
        · have := (g.ok n x hx).kids _ (List.mem_reverse.1 hm1)
          exact ⟨p.1.toNat, by omega, by omega⟩
  refine Wc_block (loop _ _ h2 _ [(((l.length : Nat) : Int) - 1, 0)] [] h2.next (Nat.le_refl _) (by simp only [upd, dstUpd, args0, List.getD_cons_zero, List.getD_cons_succ, reduceIte, Nat.reduceEqDiff, ptr] <;> first | rfl | assumption | (symm; assumption)) (by simp only [upd, dstUpd, args0, List.getD_cons_zero, List.getD_cons_succ, reduceIte, Nat.reduceEqDiff, ptr] <;> first | rfl | assumption | (symm; assumption)) rfl I2 (Nat.le_trans l1.next n2.kept.next) ?_ ?_ (bal_start g) ?_)
  · exact ⟨h1.next, 1, _, l1.next, by rw [n2.next]; exact Nat.lt_succ_self _, by rw [n2.next]; omega, (by simp only [upd, dstUpd, args0, List.getD_cons_zero, List.getD_cons_succ, reduceIte, Nat.reduceEqDiff, ptr] <;> first | rfl | assumption | (symm; assumption)), n2.get, rfl, Nat.le_refl _⟩
  · intro p hp
    rw [List.mem_singleton] at hp
    subst hp
    exact ⟨l.length - 1, by simp only; omega, by omega⟩
  · have : untold l [] ≤ l.length := by
      have := List.countP_le_length (p := fun p : Nat => !decide ((p : Int) ∈ ([] : List Int))) (l := List.range l.length)
      rw [List.length_range] at this
      exact this
    simp only [List.length_singleton]
    omega

end Go.Idl
end
