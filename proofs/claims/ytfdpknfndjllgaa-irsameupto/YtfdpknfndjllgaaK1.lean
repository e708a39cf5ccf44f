/- An instruction's row: both packages' tables. -/
import Derived.Test.YtfdpknfndjllgaaK0
import Derived.Test.YtfdpknfndjllgaaFrow
namespace Go.Idl
set_option linter.unusedVariables false
set_option linter.unusedSimpArgs false
set_option maxRecDepth 100000
open Go.Proofs

/-- Name, fields, what is read, what is written. -/
def rowsT : List (List UInt8 × List UInt8 × List UInt8 × List UInt8) :=
  [([], [], [], []),
  ([110, 117, 109], [65, 75], [], [65]),
  ([110, 117, 108, 108], [65], [], [65]),
  ([109, 111, 118, 101], [65, 66], [66], [65]),
  ([98, 105, 110], [65, 66, 67, 75], [66, 67], [65]),
  ([117, 110], [65, 66, 75], [66], [65]),
  ([101, 113], [65, 66, 67], [66, 67], [65]),
  ([110, 101], [65, 66, 67], [66, 67], [65]),
  ([103, 101, 116], [65, 66, 67, 75], [66], [65]),
  ([112, 117, 116], [65, 66, 67, 75], [65, 66], []),
  ([101, 108, 101, 109], [65, 66, 67], [66, 67], [65]),
  ([115, 101, 116, 101, 108, 101, 109], [65, 66, 67], [65, 66, 67], []),
  ([108, 101, 110], [65, 66], [66], [65]),
  ([110, 101, 119], [65, 67, 75], [], [65]),
  ([97, 114, 114], [65, 66], [66], [65]),
  ([105, 110], [65], [], [65]),
  ([111, 117, 116], [65], [65], []),
  ([105, 109, 103], [65, 66], [66], [65]),
  ([115, 105, 122, 101], [65], [], [65]),
  ([114, 111, 111, 116], [65], [], [65]),
  ([115, 101, 116, 114, 111, 111, 116], [65], [65], []),
  ([106, 117, 109, 112], [75], [], []),
  ([122, 101, 114, 111], [65, 75], [65], []),
  ([99, 97, 108, 108], [65, 75, 76], [76], [65]),
  ([114, 101, 116], [65], [65], []),
  ([115, 116, 111, 112], [65], [65], []),
  ([115, 116, 101, 112], [], [], []),
  ([109, 101, 114, 103, 101], [75, 76], [76], []),
  ([112, 114, 111, 109, 111, 116, 101], [65, 66], [66], [65])]
def rowAt (op : Int) : List UInt8 × List UInt8 × List UInt8 × List UInt8 := if 0 ≤ op ∧ op < 29 then rowsT.getD op.toNat ([], [], [], []) else ([], [], [], [])

def strB (l : List UInt8) : Value := .string ⟨l.toArray⟩
def rowL (op : Int) : List Value := [strB (rowAt op).1, strB (rowAt op).2.1, strB (rowAt op).2.2.1, strB (rowAt op).2.2.2]
def ofP : List Value → Option Value
  | [.int .i64 op] => some (.agg (rowL op).toArray)
  | _ => none
def rowP : List Value → Option Value
  | [.int .i64 op] => some (.tuple (rowL op).toArray)
  | _ => none

theorem of_run : ((List.range 29).all fun (k : Nat) => optEq (cprim Tb0 60 25 [.int .i64 (k : Int)]) (ofP [.int .i64 (k : Int)])) = true := by kernel_rfl
theorem row_run : ((List.range 29).all fun (k : Nat) => optEq (cprim Tb0 60 27 [.int .i64 (k : Int)]) (rowP [.int .i64 (k : Int)])) = true := by kernel_rfl

def chk42 : Option (Out × Heap) → Bool
  | some (.ret (.agg cs), h) => cs.size == 116 && h.next == 2 && (match h.get 0 with | some (.cells l true 0) => l.length == 4 | _ => false)
  | _ => false
theorem rows_run : chk42 (ccall Tb0 60 (.fn 42) [] ((⟨fun _ => none, 0⟩ : Heap).new (.cells [.string ⟨#[]⟩, .string ⟨#[]⟩, .string ⟨#[]⟩, .string ⟨#[]⟩] true 0))) = true := by kernel_rfl

theorem Tb0_25 : Tb0.fn 25 = some C25 := by
  have h : cfn Try.prog Try.f25 = some C25 := by kernel_rfl
  simp only [Tb0, Try.func25, Option.bind_some, h]
theorem Tb0_27 : Tb0.fn 27 = some C27 := by
  have h : cfn Try.prog Try.f27 = some C27 := by kernel_rfl
  simp only [Tb0, Try.func27, Option.bind_some, h]

theorem row_out {op : Int} (ho : ¬ (0 ≤ op ∧ op < 29)) : rowL op = [.string ⟨#[]⟩, .string ⟨#[]⟩, .string ⟨#[]⟩, .string ⟨#[]⟩] := by
  simp only [rowL, rowAt, if_neg ho]; rfl

theorem row27 {op : Int} (ho : ¬ (0 ≤ op ∧ op < 29)) : Wk Tb0 (.fn 27) [.int .i64 op] ⟨fun _ => none, 0⟩ (fun o h' => o = .ret (.tuple (rowL op).toArray)) := by
  have hk : ∀ k : Int, 0 < k → k < 29 → (op == k) = false := by
    intro k h1 h2
    simp only [beq_eq_false_iff_ne, ne_eq]
    omega
  refine Wk_fn Tb0_27 (by simp [C27]) ?_
  simp only [C27]
  refine Wc_seq (Wc_ops (Wo_run (fun call => by simp only [List.drop_succ_cons, List.drop_zero, iops_nil, iops_op, iops_grd, iK_some, iG_true, iG_false, gval_bool, beq_true, beq_false, Bool.not_true, Bool.not_false, iop, ev, upd, dstUpd, binV, binI, unV, ptr, Heap.cell, Heap.write, cellsOf, put, args0, partL, List.getD_cons_zero, List.getD_cons_succ, List.length_cons, List.length_nil, List.set_cons_zero, List.set_cons_succ, List.getElem?_cons_zero, List.getElem?_cons_succ, reduceIte, Nat.reduceEqDiff, Nat.reduceAdd, Nat.reduceMul, Nat.reduceLeDiff, Nat.zero_add, Nat.add_zero, Option.map_some, Int.reduceEq, Int.reduceLT, Int.reduceLE, Bool.false_eq_true, decide_true, decide_false, ge_iff_le, gt_iff_lt, set_get']; rfl) ?_))
  show Wc _ _ _ _
  refine Wc_seq (Wc_seq (Wc_ops (Wo_run (fun call => by simp only [List.drop_succ_cons, List.drop_zero, iops_nil, iops_op, iops_grd, iK_some, iG_true, iG_false, gval_bool, beq_true, beq_false, Bool.not_true, Bool.not_false, iop, ev, upd, dstUpd, binV, binI, unV, ptr, Heap.cell, Heap.write, cellsOf, put, args0, partL, List.getD_cons_zero, List.getD_cons_succ, List.length_cons, List.length_nil, List.set_cons_zero, List.set_cons_succ, List.getElem?_cons_zero, List.getElem?_cons_succ, reduceIte, Nat.reduceEqDiff, Nat.reduceAdd, Nat.reduceMul, Nat.reduceLeDiff, Nat.zero_add, Nat.add_zero, Option.map_some, Int.reduceEq, Int.reduceLT, Int.reduceLE, Bool.false_eq_true, decide_true, decide_false, ge_iff_le, gt_iff_lt, set_get']; rfl) ?_)))
  show Wc _ _ _ _
  refine Wc_block ?_
  refine Wc_seq (Wc_ops (Wo_run (fun call => by simp only [List.drop_succ_cons, List.drop_zero, iops_nil, iops_op, iops_grd, iK_some, iG_true, iG_false, gval_bool, beq_true, beq_false, Bool.not_true, Bool.not_false, iop, ev, upd, dstUpd, binV, binI, unV, ptr, Heap.cell, Heap.write, cellsOf, put, args0, partL, List.getD_cons_zero, List.getD_cons_succ, List.length_cons, List.length_nil, List.set_cons_zero, List.set_cons_succ, List.getElem?_cons_zero, List.getElem?_cons_succ, reduceIte, Nat.reduceEqDiff, Nat.reduceAdd, Nat.reduceMul, Nat.reduceLeDiff, Nat.zero_add, Nat.add_zero, Option.map_some, Int.reduceEq, Int.reduceLT, Int.reduceLE, Bool.false_eq_true, decide_true, decide_false, ge_iff_le, gt_iff_lt, set_get', hk 1 (by decide) (by decide)]; rfl) ?_))
  show Wc _ _ _ _
  refine Wc_cond false (by simp [ev, upd]) (fun h => by cases h) (fun _ => ?_)
  refine Wc_seq (Wc_ops (Wo_run (fun call => by simp only [List.drop_succ_cons, List.drop_zero, iops_nil, iops_op, iops_grd, iK_some, iG_true, iG_false, gval_bool, beq_true, beq_false, Bool.not_true, Bool.not_false, iop, ev, upd, dstUpd, binV, binI, unV, ptr, Heap.cell, Heap.write, cellsOf, put, args0, partL, List.getD_cons_zero, List.getD_cons_succ, List.length_cons, List.length_nil, List.set_cons_zero, List.set_cons_succ, List.getElem?_cons_zero, List.getElem?_cons_succ, reduceIte, Nat.reduceEqDiff, Nat.reduceAdd, Nat.reduceMul, Nat.reduceLeDiff, Nat.zero_add, Nat.add_zero, Option.map_some, Int.reduceEq, Int.reduceLT, Int.reduceLE, Bool.false_eq_true, decide_true, decide_false, ge_iff_le, gt_iff_lt, set_get', hk 2 (by decide) (by decide)]; rfl) ?_))
  show Wc _ _ _ _
  refine Wc_cond false (by simp [ev, upd]) (fun h => by cases h) (fun _ => ?_)
  refine Wc_seq (Wc_ops (Wo_run (fun call => by simp only [List.drop_succ_cons, List.drop_zero, iops_nil, iops_op, iops_grd, iK_some, iG_true, iG_false, gval_bool, beq_true, beq_false, Bool.not_true, Bool.not_false, iop, ev, upd, dstUpd, binV, binI, unV, ptr, Heap.cell, Heap.write, cellsOf, put, args0, partL, List.getD_cons_zero, List.getD_cons_succ, List.length_cons, List.length_nil, List.set_cons_zero, List.set_cons_succ, List.getElem?_cons_zero, List.getElem?_cons_succ, reduceIte, Nat.reduceEqDiff, Nat.reduceAdd, Nat.reduceMul, Nat.reduceLeDiff, Nat.zero_add, Nat.add_zero, Option.map_some, Int.reduceEq, Int.reduceLT, Int.reduceLE, Bool.false_eq_true, decide_true, decide_false, ge_iff_le, gt_iff_lt, set_get', hk 3 (by decide) (by decide)]; rfl) ?_))
  show Wc _ _ _ _
  refine Wc_cond false (by simp [ev, upd]) (fun h => by cases h) (fun _ => ?_)
  refine Wc_seq (Wc_ops (Wo_run (fun call => by simp only [List.drop_succ_cons, List.drop_zero, iops_nil, iops_op, iops_grd, iK_some, iG_true, iG_false, gval_bool, beq_true, beq_false, Bool.not_true, Bool.not_false, iop, ev, upd, dstUpd, binV, binI, unV, ptr, Heap.cell, Heap.write, cellsOf, put, args0, partL, List.getD_cons_zero, List.getD_cons_succ, List.length_cons, List.length_nil, List.set_cons_zero, List.set_cons_succ, List.getElem?_cons_zero, List.getElem?_cons_succ, reduceIte, Nat.reduceEqDiff, Nat.reduceAdd, Nat.reduceMul, Nat.reduceLeDiff, Nat.zero_add, Nat.add_zero, Option.map_some, Int.reduceEq, Int.reduceLT, Int.reduceLE, Bool.false_eq_true, decide_true, decide_false, ge_iff_le, gt_iff_lt, set_get', hk 4 (by decide) (by decide)]; rfl) ?_))
  show Wc _ _ _ _
  refine Wc_cond false (by simp [ev, upd]) (fun h => by cases h) (fun _ => ?_)
  refine Wc_seq (Wc_ops (Wo_run (fun call => by simp only [List.drop_succ_cons, List.drop_zero, iops_nil, iops_op, iops_grd, iK_some, iG_true, iG_false, gval_bool, beq_true, beq_false, Bool.not_true, Bool.not_false, iop, ev, upd, dstUpd, binV, binI, unV, ptr, Heap.cell, Heap.write, cellsOf, put, args0, partL, List.getD_cons_zero, List.getD_cons_succ, List.length_cons, List.length_nil, List.set_cons_zero, List.set_cons_succ, List.getElem?_cons_zero, List.getElem?_cons_succ, reduceIte, Nat.reduceEqDiff, Nat.reduceAdd, Nat.reduceMul, Nat.reduceLeDiff, Nat.zero_add, Nat.add_zero, Option.map_some, Int.reduceEq, Int.reduceLT, Int.reduceLE, Bool.false_eq_true, decide_true, decide_false, ge_iff_le, gt_iff_lt, set_get', hk 5 (by decide) (by decide)]; rfl) ?_))
  show Wc _ _ _ _
  refine Wc_cond false (by simp [ev, upd]) (fun h => by cases h) (fun _ => ?_)
  refine Wc_seq (Wc_ops (Wo_run (fun call => by simp only [List.drop_succ_cons, List.drop_zero, iops_nil, iops_op, iops_grd, iK_some, iG_true, iG_false, gval_bool, beq_true, beq_false, Bool.not_true, Bool.not_false, iop, ev, upd, dstUpd, binV, binI, unV, ptr, Heap.cell, Heap.write, cellsOf, put, args0, partL, List.getD_cons_zero, List.getD_cons_succ, List.length_cons, List.length_nil, List.set_cons_zero, List.set_cons_succ, List.getElem?_cons_zero, List.getElem?_cons_succ, reduceIte, Nat.reduceEqDiff, Nat.reduceAdd, Nat.reduceMul, Nat.reduceLeDiff, Nat.zero_add, Nat.add_zero, Option.map_some, Int.reduceEq, Int.reduceLT, Int.reduceLE, Bool.false_eq_true, decide_true, decide_false, ge_iff_le, gt_iff_lt, set_get', hk 6 (by decide) (by decide)]; rfl) ?_))
  show Wc _ _ _ _
  refine Wc_cond false (by simp [ev, upd]) (fun h => by cases h) (fun _ => ?_)
  refine Wc_seq (Wc_ops (Wo_run (fun call => by simp only [List.drop_succ_cons, List.drop_zero, iops_nil, iops_op, iops_grd, iK_some, iG_true, iG_false, gval_bool, beq_true, beq_false, Bool.not_true, Bool.not_false, iop, ev, upd, dstUpd, binV, binI, unV, ptr, Heap.cell, Heap.write, cellsOf, put, args0, partL, List.getD_cons_zero, List.getD_cons_succ, List.length_cons, List.length_nil, List.set_cons_zero, List.set_cons_succ, List.getElem?_cons_zero, List.getElem?_cons_succ, reduceIte, Nat.reduceEqDiff, Nat.reduceAdd, Nat.reduceMul, Nat.reduceLeDiff, Nat.zero_add, Nat.add_zero, Option.map_some, Int.reduceEq, Int.reduceLT, Int.reduceLE, Bool.false_eq_true, decide_true, decide_false, ge_iff_le, gt_iff_lt, set_get', hk 7 (by decide) (by decide)]; rfl) ?_))
  show Wc _ _ _ _
  refine Wc_cond false (by simp [ev, upd]) (fun h => by cases h) (fun _ => ?_)
  refine Wc_seq (Wc_ops (Wo_run (fun call => by simp only [List.drop_succ_cons, List.drop_zero, iops_nil, iops_op, iops_grd, iK_some, iG_true, iG_false, gval_bool, beq_true, beq_false, Bool.not_true, Bool.not_false, iop, ev, upd, dstUpd, binV, binI, unV, ptr, Heap.cell, Heap.write, cellsOf, put, args0, partL, List.getD_cons_zero, List.getD_cons_succ, List.length_cons, List.length_nil, List.set_cons_zero, List.set_cons_succ, List.getElem?_cons_zero, List.getElem?_cons_succ, reduceIte, Nat.reduceEqDiff, Nat.reduceAdd, Nat.reduceMul, Nat.reduceLeDiff, Nat.zero_add, Nat.add_zero, Option.map_some, Int.reduceEq, Int.reduceLT, Int.reduceLE, Bool.false_eq_true, decide_true, decide_false, ge_iff_le, gt_iff_lt, set_get', hk 8 (by decide) (by decide)]; rfl) ?_))
  show Wc _ _ _ _
  refine Wc_cond false (by simp [ev, upd]) (fun h => by cases h) (fun _ => ?_)
  refine Wc_seq (Wc_ops (Wo_run (fun call => by simp only [List.drop_succ_cons, List.drop_zero, iops_nil, iops_op, iops_grd, iK_some, iG_true, iG_false, gval_bool, beq_true, beq_false, Bool.not_true, Bool.not_false, iop, ev, upd, dstUpd, binV, binI, unV, ptr, Heap.cell, Heap.write, cellsOf, put, args0, partL, List.getD_cons_zero, List.getD_cons_succ, List.length_cons, List.length_nil, List.set_cons_zero, List.set_cons_succ, List.getElem?_cons_zero, List.getElem?_cons_succ, reduceIte, Nat.reduceEqDiff, Nat.reduceAdd, Nat.reduceMul, Nat.reduceLeDiff, Nat.zero_add, Nat.add_zero, Option.map_some, Int.reduceEq, Int.reduceLT, Int.reduceLE, Bool.false_eq_true, decide_true, decide_false, ge_iff_le, gt_iff_lt, set_get', hk 9 (by decide) (by decide)]; rfl) ?_))
  show Wc _ _ _ _
  refine Wc_cond false (by simp [ev, upd]) (fun h => by cases h) (fun _ => ?_)
  refine Wc_seq (Wc_ops (Wo_run (fun call => by simp only [List.drop_succ_cons, List.drop_zero, iops_nil, iops_op, iops_grd, iK_some, iG_true, iG_false, gval_bool, beq_true, beq_false, Bool.not_true, Bool.not_false, iop, ev, upd, dstUpd, binV, binI, unV, ptr, Heap.cell, Heap.write, cellsOf, put, args0, partL, List.getD_cons_zero, List.getD_cons_succ, List.length_cons, List.length_nil, List.set_cons_zero, List.set_cons_succ, List.getElem?_cons_zero, List.getElem?_cons_succ, reduceIte, Nat.reduceEqDiff, Nat.reduceAdd, Nat.reduceMul, Nat.reduceLeDiff, Nat.zero_add, Nat.add_zero, Option.map_some, Int.reduceEq, Int.reduceLT, Int.reduceLE, Bool.false_eq_true, decide_true, decide_false, ge_iff_le, gt_iff_lt, set_get', hk 10 (by decide) (by decide)]; rfl) ?_))
  show Wc _ _ _ _
  refine Wc_cond false (by simp [ev, upd]) (fun h => by cases h) (fun _ => ?_)
  refine Wc_seq (Wc_ops (Wo_run (fun call => by simp only [List.drop_succ_cons, List.drop_zero, iops_nil, iops_op, iops_grd, iK_some, iG_true, iG_false, gval_bool, beq_true, beq_false, Bool.not_true, Bool.not_false, iop, ev, upd, dstUpd, binV, binI, unV, ptr, Heap.cell, Heap.write, cellsOf, put, args0, partL, List.getD_cons_zero, List.getD_cons_succ, List.length_cons, List.length_nil, List.set_cons_zero, List.set_cons_succ, List.getElem?_cons_zero, List.getElem?_cons_succ, reduceIte, Nat.reduceEqDiff, Nat.reduceAdd, Nat.reduceMul, Nat.reduceLeDiff, Nat.zero_add, Nat.add_zero, Option.map_some, Int.reduceEq, Int.reduceLT, Int.reduceLE, Bool.false_eq_true, decide_true, decide_false, ge_iff_le, gt_iff_lt, set_get', hk 11 (by decide) (by decide)]; rfl) ?_))
  show Wc _ _ _ _
  refine Wc_cond false (by simp [ev, upd]) (fun h => by cases h) (fun _ => ?_)
  refine Wc_seq (Wc_ops (Wo_run (fun call => by simp only [List.drop_succ_cons, List.drop_zero, iops_nil, iops_op, iops_grd, iK_some, iG_true, iG_false, gval_bool, beq_true, beq_false, Bool.not_true, Bool.not_false, iop, ev, upd, dstUpd, binV, binI, unV, ptr, Heap.cell, Heap.write, cellsOf, put, args0, partL, List.getD_cons_zero, List.getD_cons_succ, List.length_cons, List.length_nil, List.set_cons_zero, List.set_cons_succ, List.getElem?_cons_zero, List.getElem?_cons_succ, reduceIte, Nat.reduceEqDiff, Nat.reduceAdd, Nat.reduceMul, Nat.reduceLeDiff, Nat.zero_add, Nat.add_zero, Option.map_some, Int.reduceEq, Int.reduceLT, Int.reduceLE, Bool.false_eq_true, decide_true, decide_false, ge_iff_le, gt_iff_lt, set_get', hk 12 (by decide) (by decide)]; rfl) ?_))
  show Wc _ _ _ _
  refine Wc_cond false (by simp [ev, upd]) (fun h => by cases h) (fun _ => ?_)
  refine Wc_seq (Wc_ops (Wo_run (fun call => by simp only [List.drop_succ_cons, List.drop_zero, iops_nil, iops_op, iops_grd, iK_some, iG_true, iG_false, gval_bool, beq_true, beq_false, Bool.not_true, Bool.not_false, iop, ev, upd, dstUpd, binV, binI, unV, ptr, Heap.cell, Heap.write, cellsOf, put, args0, partL, List.getD_cons_zero, List.getD_cons_succ, List.length_cons, List.length_nil, List.set_cons_zero, List.set_cons_succ, List.getElem?_cons_zero, List.getElem?_cons_succ, reduceIte, Nat.reduceEqDiff, Nat.reduceAdd, Nat.reduceMul, Nat.reduceLeDiff, Nat.zero_add, Nat.add_zero, Option.map_some, Int.reduceEq, Int.reduceLT, Int.reduceLE, Bool.false_eq_true, decide_true, decide_false, ge_iff_le, gt_iff_lt, set_get', hk 13 (by decide) (by decide)]; rfl) ?_))
  show Wc _ _ _ _
  refine Wc_cond false (by simp [ev, upd]) (fun h => by cases h) (fun _ => ?_)
  refine Wc_seq (Wc_ops (Wo_run (fun call => by simp only [List.drop_succ_cons, List.drop_zero, iops_nil, iops_op, iops_grd, iK_some, iG_true, iG_false, gval_bool, beq_true, beq_false, Bool.not_true, Bool.not_false, iop, ev, upd, dstUpd, binV, binI, unV, ptr, Heap.cell, Heap.write, cellsOf, put, args0, partL, List.getD_cons_zero, List.getD_cons_succ, List.length_cons, List.length_nil, List.set_cons_zero, List.set_cons_succ, List.getElem?_cons_zero, List.getElem?_cons_succ, reduceIte, Nat.reduceEqDiff, Nat.reduceAdd, Nat.reduceMul, Nat.reduceLeDiff, Nat.zero_add, Nat.add_zero, Option.map_some, Int.reduceEq, Int.reduceLT, Int.reduceLE, Bool.false_eq_true, decide_true, decide_false, ge_iff_le, gt_iff_lt, set_get', hk 14 (by decide) (by decide)]; rfl) ?_))
  show Wc _ _ _ _
  refine Wc_cond false (by simp [ev, upd]) (fun h => by cases h) (fun _ => ?_)
  refine Wc_seq (Wc_ops (Wo_run (fun call => by simp only [List.drop_succ_cons, List.drop_zero, iops_nil, iops_op, iops_grd, iK_some, iG_true, iG_false, gval_bool, beq_true, beq_false, Bool.not_true, Bool.not_false, iop, ev, upd, dstUpd, binV, binI, unV, ptr, Heap.cell, Heap.write, cellsOf, put, args0, partL, List.getD_cons_zero, List.getD_cons_succ, List.length_cons, List.length_nil, List.set_cons_zero, List.set_cons_succ, List.getElem?_cons_zero, List.getElem?_cons_succ, reduceIte, Nat.reduceEqDiff, Nat.reduceAdd, Nat.reduceMul, Nat.reduceLeDiff, Nat.zero_add, Nat.add_zero, Option.map_some, Int.reduceEq, Int.reduceLT, Int.reduceLE, Bool.false_eq_true, decide_true, decide_false, ge_iff_le, gt_iff_lt, set_get', hk 15 (by decide) (by decide)]; rfl) ?_))
  show Wc _ _ _ _
  refine Wc_cond false (by simp [ev, upd]) (fun h => by cases h) (fun _ => ?_)
  refine Wc_seq (Wc_ops (Wo_run (fun call => by simp only [List.drop_succ_cons, List.drop_zero, iops_nil, iops_op, iops_grd, iK_some, iG_true, iG_false, gval_bool, beq_true, beq_false, Bool.not_true, Bool.not_false, iop, ev, upd, dstUpd, binV, binI, unV, ptr, Heap.cell, Heap.write, cellsOf, put, args0, partL, List.getD_cons_zero, List.getD_cons_succ, List.length_cons, List.length_nil, List.set_cons_zero, List.set_cons_succ, List.getElem?_cons_zero, List.getElem?_cons_succ, reduceIte, Nat.reduceEqDiff, Nat.reduceAdd, Nat.reduceMul, Nat.reduceLeDiff, Nat.zero_add, Nat.add_zero, Option.map_some, Int.reduceEq, Int.reduceLT, Int.reduceLE, Bool.false_eq_true, decide_true, decide_false, ge_iff_le, gt_iff_lt, set_get', hk 16 (by decide) (by decide)]; rfl) ?_))
  show Wc _ _ _ _
  refine Wc_cond false (by simp [ev, upd]) (fun h => by cases h) (fun _ => ?_)
  refine Wc_seq (Wc_ops (Wo_run (fun call => by simp only [List.drop_succ_cons, List.drop_zero, iops_nil, iops_op, iops_grd, iK_some, iG_true, iG_false, gval_bool, beq_true, beq_false, Bool.not_true, Bool.not_false, iop, ev, upd, dstUpd, binV, binI, unV, ptr, Heap.cell, Heap.write, cellsOf, put, args0, partL, List.getD_cons_zero, List.getD_cons_succ, List.length_cons, List.length_nil, List.set_cons_zero, List.set_cons_succ, List.getElem?_cons_zero, List.getElem?_cons_succ, reduceIte, Nat.reduceEqDiff, Nat.reduceAdd, Nat.reduceMul, Nat.reduceLeDiff, Nat.zero_add, Nat.add_zero, Option.map_some, Int.reduceEq, Int.reduceLT, Int.reduceLE, Bool.false_eq_true, decide_true, decide_false, ge_iff_le, gt_iff_lt, set_get', hk 17 (by decide) (by decide)]; rfl) ?_))
  show Wc _ _ _ _
  refine Wc_cond false (by simp [ev, upd]) (fun h => by cases h) (fun _ => ?_)
  refine Wc_seq (Wc_ops (Wo_run (fun call => by simp only [List.drop_succ_cons, List.drop_zero, iops_nil, iops_op, iops_grd, iK_some, iG_true, iG_false, gval_bool, beq_true, beq_false, Bool.not_true, Bool.not_false, iop, ev, upd, dstUpd, binV, binI, unV, ptr, Heap.cell, Heap.write, cellsOf, put, args0, partL, List.getD_cons_zero, List.getD_cons_succ, List.length_cons, List.length_nil, List.set_cons_zero, List.set_cons_succ, List.getElem?_cons_zero, List.getElem?_cons_succ, reduceIte, Nat.reduceEqDiff, Nat.reduceAdd, Nat.reduceMul, Nat.reduceLeDiff, Nat.zero_add, Nat.add_zero, Option.map_some, Int.reduceEq, Int.reduceLT, Int.reduceLE, Bool.false_eq_true, decide_true, decide_false, ge_iff_le, gt_iff_lt, set_get', hk 18 (by decide) (by decide)]; rfl) ?_))
  show Wc _ _ _ _
  refine Wc_cond false (by simp [ev, upd]) (fun h => by cases h) (fun _ => ?_)
  refine Wc_seq (Wc_ops (Wo_run (fun call => by simp only [List.drop_succ_cons, List.drop_zero, iops_nil, iops_op, iops_grd, iK_some, iG_true, iG_false, gval_bool, beq_true, beq_false, Bool.not_true, Bool.not_false, iop, ev, upd, dstUpd, binV, binI, unV, ptr, Heap.cell, Heap.write, cellsOf, put, args0, partL, List.getD_cons_zero, List.getD_cons_succ, List.length_cons, List.length_nil, List.set_cons_zero, List.set_cons_succ, List.getElem?_cons_zero, List.getElem?_cons_succ, reduceIte, Nat.reduceEqDiff, Nat.reduceAdd, Nat.reduceMul, Nat.reduceLeDiff, Nat.zero_add, Nat.add_zero, Option.map_some, Int.reduceEq, Int.reduceLT, Int.reduceLE, Bool.false_eq_true, decide_true, decide_false, ge_iff_le, gt_iff_lt, set_get', hk 19 (by decide) (by decide)]; rfl) ?_))
  show Wc _ _ _ _
  refine Wc_cond false (by simp [ev, upd]) (fun h => by cases h) (fun _ => ?_)
  refine Wc_seq (Wc_ops (Wo_run (fun call => by simp only [List.drop_succ_cons, List.drop_zero, iops_nil, iops_op, iops_grd, iK_some, iG_true, iG_false, gval_bool, beq_true, beq_false, Bool.not_true, Bool.not_false, iop, ev, upd, dstUpd, binV, binI, unV, ptr, Heap.cell, Heap.write, cellsOf, put, args0, partL, List.getD_cons_zero, List.getD_cons_succ, List.length_cons, List.length_nil, List.set_cons_zero, List.set_cons_succ, List.getElem?_cons_zero, List.getElem?_cons_succ, reduceIte, Nat.reduceEqDiff, Nat.reduceAdd, Nat.reduceMul, Nat.reduceLeDiff, Nat.zero_add, Nat.add_zero, Option.map_some, Int.reduceEq, Int.reduceLT, Int.reduceLE, Bool.false_eq_true, decide_true, decide_false, ge_iff_le, gt_iff_lt, set_get', hk 20 (by decide) (by decide)]; rfl) ?_))
  show Wc _ _ _ _
  refine Wc_cond false (by simp [ev, upd]) (fun h => by cases h) (fun _ => ?_)
  refine Wc_seq (Wc_ops (Wo_run (fun call => by simp only [List.drop_succ_cons, List.drop_zero, iops_nil, iops_op, iops_grd, iK_some, iG_true, iG_false, gval_bool, beq_true, beq_false, Bool.not_true, Bool.not_false, iop, ev, upd, dstUpd, binV, binI, unV, ptr, Heap.cell, Heap.write, cellsOf, put, args0, partL, List.getD_cons_zero, List.getD_cons_succ, List.length_cons, List.length_nil, List.set_cons_zero, List.set_cons_succ, List.getElem?_cons_zero, List.getElem?_cons_succ, reduceIte, Nat.reduceEqDiff, Nat.reduceAdd, Nat.reduceMul, Nat.reduceLeDiff, Nat.zero_add, Nat.add_zero, Option.map_some, Int.reduceEq, Int.reduceLT, Int.reduceLE, Bool.false_eq_true, decide_true, decide_false, ge_iff_le, gt_iff_lt, set_get', hk 21 (by decide) (by decide)]; rfl) ?_))
  show Wc _ _ _ _
  refine Wc_cond false (by simp [ev, upd]) (fun h => by cases h) (fun _ => ?_)
  refine Wc_seq (Wc_ops (Wo_run (fun call => by simp only [List.drop_succ_cons, List.drop_zero, iops_nil, iops_op, iops_grd, iK_some, iG_true, iG_false, gval_bool, beq_true, beq_false, Bool.not_true, Bool.not_false, iop, ev, upd, dstUpd, binV, binI, unV, ptr, Heap.cell, Heap.write, cellsOf, put, args0, partL, List.getD_cons_zero, List.getD_cons_succ, List.length_cons, List.length_nil, List.set_cons_zero, List.set_cons_succ, List.getElem?_cons_zero, List.getElem?_cons_succ, reduceIte, Nat.reduceEqDiff, Nat.reduceAdd, Nat.reduceMul, Nat.reduceLeDiff, Nat.zero_add, Nat.add_zero, Option.map_some, Int.reduceEq, Int.reduceLT, Int.reduceLE, Bool.false_eq_true, decide_true, decide_false, ge_iff_le, gt_iff_lt, set_get', hk 22 (by decide) (by decide)]; rfl) ?_))
  show Wc _ _ _ _
  refine Wc_cond false (by simp [ev, upd]) (fun h => by cases h) (fun _ => ?_)
  refine Wc_seq (Wc_ops (Wo_run (fun call => by simp only [List.drop_succ_cons, List.drop_zero, iops_nil, iops_op, iops_grd, iK_some, iG_true, iG_false, gval_bool, beq_true, beq_false, Bool.not_true, Bool.not_false, iop, ev, upd, dstUpd, binV, binI, unV, ptr, Heap.cell, Heap.write, cellsOf, put, args0, partL, List.getD_cons_zero, List.getD_cons_succ, List.length_cons, List.length_nil, List.set_cons_zero, List.set_cons_succ, List.getElem?_cons_zero, List.getElem?_cons_succ, reduceIte, Nat.reduceEqDiff, Nat.reduceAdd, Nat.reduceMul, Nat.reduceLeDiff, Nat.zero_add, Nat.add_zero, Option.map_some, Int.reduceEq, Int.reduceLT, Int.reduceLE, Bool.false_eq_true, decide_true, decide_false, ge_iff_le, gt_iff_lt, set_get', hk 23 (by decide) (by decide)]; rfl) ?_))
  show Wc _ _ _ _
  refine Wc_cond false (by simp [ev, upd]) (fun h => by cases h) (fun _ => ?_)
  refine Wc_seq (Wc_ops (Wo_run (fun call => by simp only [List.drop_succ_cons, List.drop_zero, iops_nil, iops_op, iops_grd, iK_some, iG_true, iG_false, gval_bool, beq_true, beq_false, Bool.not_true, Bool.not_false, iop, ev, upd, dstUpd, binV, binI, unV, ptr, Heap.cell, Heap.write, cellsOf, put, args0, partL, List.getD_cons_zero, List.getD_cons_succ, List.length_cons, List.length_nil, List.set_cons_zero, List.set_cons_succ, List.getElem?_cons_zero, List.getElem?_cons_succ, reduceIte, Nat.reduceEqDiff, Nat.reduceAdd, Nat.reduceMul, Nat.reduceLeDiff, Nat.zero_add, Nat.add_zero, Option.map_some, Int.reduceEq, Int.reduceLT, Int.reduceLE, Bool.false_eq_true, decide_true, decide_false, ge_iff_le, gt_iff_lt, set_get', hk 24 (by decide) (by decide)]; rfl) ?_))
  show Wc _ _ _ _
  refine Wc_cond false (by simp [ev, upd]) (fun h => by cases h) (fun _ => ?_)
  refine Wc_seq (Wc_ops (Wo_run (fun call => by simp only [List.drop_succ_cons, List.drop_zero, iops_nil, iops_op, iops_grd, iK_some, iG_true, iG_false, gval_bool, beq_true, beq_false, Bool.not_true, Bool.not_false, iop, ev, upd, dstUpd, binV, binI, unV, ptr, Heap.cell, Heap.write, cellsOf, put, args0, partL, List.getD_cons_zero, List.getD_cons_succ, List.length_cons, List.length_nil, List.set_cons_zero, List.set_cons_succ, List.getElem?_cons_zero, List.getElem?_cons_succ, reduceIte, Nat.reduceEqDiff, Nat.reduceAdd, Nat.reduceMul, Nat.reduceLeDiff, Nat.zero_add, Nat.add_zero, Option.map_some, Int.reduceEq, Int.reduceLT, Int.reduceLE, Bool.false_eq_true, decide_true, decide_false, ge_iff_le, gt_iff_lt, set_get', hk 25 (by decide) (by decide)]; rfl) ?_))
  show Wc _ _ _ _
  refine Wc_cond false (by simp [ev, upd]) (fun h => by cases h) (fun _ => ?_)
  refine Wc_seq (Wc_ops (Wo_run (fun call => by simp only [List.drop_succ_cons, List.drop_zero, iops_nil, iops_op, iops_grd, iK_some, iG_true, iG_false, gval_bool, beq_true, beq_false, Bool.not_true, Bool.not_false, iop, ev, upd, dstUpd, binV, binI, unV, ptr, Heap.cell, Heap.write, cellsOf, put, args0, partL, List.getD_cons_zero, List.getD_cons_succ, List.length_cons, List.length_nil, List.set_cons_zero, List.set_cons_succ, List.getElem?_cons_zero, List.getElem?_cons_succ, reduceIte, Nat.reduceEqDiff, Nat.reduceAdd, Nat.reduceMul, Nat.reduceLeDiff, Nat.zero_add, Nat.add_zero, Option.map_some, Int.reduceEq, Int.reduceLT, Int.reduceLE, Bool.false_eq_true, decide_true, decide_false, ge_iff_le, gt_iff_lt, set_get', hk 26 (by decide) (by decide)]; rfl) ?_))
  show Wc _ _ _ _
  refine Wc_cond false (by simp [ev, upd]) (fun h => by cases h) (fun _ => ?_)
  refine Wc_seq (Wc_ops (Wo_run (fun call => by simp only [List.drop_succ_cons, List.drop_zero, iops_nil, iops_op, iops_grd, iK_some, iG_true, iG_false, gval_bool, beq_true, beq_false, Bool.not_true, Bool.not_false, iop, ev, upd, dstUpd, binV, binI, unV, ptr, Heap.cell, Heap.write, cellsOf, put, args0, partL, List.getD_cons_zero, List.getD_cons_succ, List.length_cons, List.length_nil, List.set_cons_zero, List.set_cons_succ, List.getElem?_cons_zero, List.getElem?_cons_succ, reduceIte, Nat.reduceEqDiff, Nat.reduceAdd, Nat.reduceMul, Nat.reduceLeDiff, Nat.zero_add, Nat.add_zero, Option.map_some, Int.reduceEq, Int.reduceLT, Int.reduceLE, Bool.false_eq_true, decide_true, decide_false, ge_iff_le, gt_iff_lt, set_get', hk 27 (by decide) (by decide)]; rfl) ?_))
  show Wc _ _ _ _
  refine Wc_cond false (by simp [ev, upd]) (fun h => by cases h) (fun _ => ?_)
  refine Wc_seq (Wc_ops (Wo_run (fun call => by simp only [List.drop_succ_cons, List.drop_zero, iops_nil, iops_op, iops_grd, iK_some, iG_true, iG_false, gval_bool, beq_true, beq_false, Bool.not_true, Bool.not_false, iop, ev, upd, dstUpd, binV, binI, unV, ptr, Heap.cell, Heap.write, cellsOf, put, args0, partL, List.getD_cons_zero, List.getD_cons_succ, List.length_cons, List.length_nil, List.set_cons_zero, List.set_cons_succ, List.getElem?_cons_zero, List.getElem?_cons_succ, reduceIte, Nat.reduceEqDiff, Nat.reduceAdd, Nat.reduceMul, Nat.reduceLeDiff, Nat.zero_add, Nat.add_zero, Option.map_some, Int.reduceEq, Int.reduceLT, Int.reduceLE, Bool.false_eq_true, decide_true, decide_false, ge_iff_le, gt_iff_lt, set_get', hk 28 (by decide) (by decide)]; rfl) ?_))
  show Wc _ _ _ _
  refine Wc_cond false (by simp [ev, upd]) (fun h => by cases h) (fun _ => ?_)
  refine Wc_skip ?_
  show Wc _ _ _ _
  refine Wc_seq (Wc_ops (Wo_run (fun call => by simp only [List.drop_succ_cons, List.drop_zero, iops_nil, iops_op, iops_grd, iK_some, iG_true, iG_false, gval_bool, beq_true, beq_false, Bool.not_true, Bool.not_false, iop, ev, upd, dstUpd, binV, binI, unV, ptr, Heap.cell, Heap.write, cellsOf, put, args0, partL, List.getD_cons_zero, List.getD_cons_succ, List.length_cons, List.length_nil, List.set_cons_zero, List.set_cons_succ, List.getElem?_cons_zero, List.getElem?_cons_succ, reduceIte, Nat.reduceEqDiff, Nat.reduceAdd, Nat.reduceMul, Nat.reduceLeDiff, Nat.zero_add, Nat.add_zero, Option.map_some, Int.reduceEq, Int.reduceLT, Int.reduceLE, Bool.false_eq_true, decide_true, decide_false, ge_iff_le, gt_iff_lt, set_get']; rfl) ?_))
  show Wc _ _ _ _
  refine Wc_ret ⟨.inr rfl, rfl, [.string ⟨#[]⟩, .string ⟨#[]⟩, .string ⟨#[]⟩, .string ⟨#[]⟩], by simp only [resAll, resV, upd, dstUpd, Nat.reduceEqDiff, reduceIte], by rw [row_out ho]; rfl⟩

theorem of25 {op : Int} (ho : ¬ (0 ≤ op ∧ op < 29)) : Wk Tb0 (.fn 25) [.int .i64 op] ⟨fun _ => none, 0⟩ (fun o h' => o = .ret (.agg (rowL op).toArray)) := by
  refine Wk_fn Tb0_25 (by simp [C25]) ?_
  simp only [C25]
  refine Wc_seq (Wc_ops (Wo_run (fun call => by simp only [List.drop_succ_cons, List.drop_zero, iops_nil, iops_op, iops_grd, iK_some, iG_true, iG_false, gval_bool, beq_true, beq_false, Bool.not_true, Bool.not_false, iop, ev, upd, dstUpd, binV, binI, unV, ptr, Heap.cell, Heap.write, cellsOf, put, args0, partL, List.getD_cons_zero, List.getD_cons_succ, List.length_cons, List.length_nil, List.set_cons_zero, List.set_cons_succ, List.getElem?_cons_zero, List.getElem?_cons_succ, reduceIte, Nat.reduceEqDiff, Nat.reduceAdd, Nat.reduceMul, Nat.reduceLeDiff, Nat.zero_add, Nat.add_zero, Option.map_some, Int.reduceEq, Int.reduceLT, Int.reduceLE, Bool.false_eq_true, decide_true, decide_false, ge_iff_le, gt_iff_lt, set_get']; rfl) ?_))
  show Wc _ _ _ _
  have hr := rows_run
  unfold chk42 at hr
  split at hr
  case h_2 => cases hr
  rename_i cs h1 hc
  simp only [Bool.and_eq_true, beq_iff_eq] at hr
  obtain ⟨⟨hcs, hnx⟩, hg⟩ := hr
  split at hg
  case h_2 => cases hg
  rename_i l hl
  simp only [beq_iff_eq] at hg
  obtain ⟨a, b, c, d, rfl⟩ : ∃ a b c d, l = [a, b, c, d] := by
    match l, hg with
    | [a, b, c, d], _ => exact ⟨a, b, c, d, rfl⟩
  refine Wc_seq (Wc_ops (Wo_call ⟨60, _, _, ccall_ideal Tb0 60 _ _ _ _ hc, ?_⟩))
  show Wo _ _ _ _
  have hcl : cs.toList.length = 116 := by simpa using hcs
  have hput : ∀ (xs vs : List Value), vs.length = 116 → xs.length = 116 → (put xs 0 vs).length = 116 := by
    have key : ∀ (vs xs : List Value) (o : Nat), (put xs o vs).length = xs.length := by
      intro vs
      induction vs with
      | nil => intro xs o; rfl
      | cons v vs ih => intro xs o; rw [put, ih, List.length_set]
    intro xs vs _ h; rw [key]; exact h
  refine Wo_op (by simp only [iop]; rfl) ?_
  refine Wo_op (by simp only [iop, ev, dstUpd, upd, reduceIte, Nat.reduceEqDiff, ptr, cellsOf, hcl, Heap.write, new_get', List.length_cons, List.length_nil, Nat.reduceAdd, Nat.reduceLeDiff, Nat.zero_add, Option.map_some]; rfl) ?_
  refine Wo_nil ?_
  show Wc _ _ _ _
  generalize put _ _ cs.toList = ms
  have hgo : ∀ m, ((h1.new m).set h1.next (.cells ms true 0)).get 0 = some (.cells [a, b, c, d] true 0) := by
    intro m
    rw [set_get_ne' _ _ (by omega), new_get_ne' _ _ (by omega), hl]
  have fin : ∀ (e : Env) (hp : Heap), e 2 = ptr 0 0 → hp.get 0 = some (.cells [.string ⟨#[]⟩, .string ⟨#[]⟩, .string ⟨#[]⟩, .string ⟨#[]⟩] true 0) → ((Ex.ret = .normal ∨ Ex.ret = .ret) ∧ some ([] : List Dfr) = some [] ∧ ∃ vs, resAll e hp [.cell 2 (some 4)] = some vs ∧ Out.ret (tup vs) = .ret (.agg (rowL op).toArray)) := by
    intro e hp h2 hg
    refine ⟨.inr rfl, rfl, [.agg #[.string ⟨#[]⟩, .string ⟨#[]⟩, .string ⟨#[]⟩, .string ⟨#[]⟩]], ?_, by rw [row_out ho]; rfl⟩
    simp only [resAll, resV, h2, ptr, Heap.cells, hg, List.length_cons, List.length_nil, Nat.reduceAdd, Nat.reduceLeDiff, reduceIte, List.drop_zero, List.take_succ_cons, List.take_zero, Option.map_some]
  by_cases hneg : op < 0
  · refine Wc_seq (Wc_seq (Wc_ops (Wo_run (fun call => by simp only [List.drop_succ_cons, List.drop_zero, iops_nil, iops_op, iops_grd, iK_some, iG_true, iG_false, gval_bool, beq_true, beq_false, Bool.not_true, Bool.not_false, iop, ev, upd, dstUpd, binV, binI, unV, ptr, Heap.cell, Heap.write, cellsOf, put, args0, partL, List.getD_cons_zero, List.getD_cons_succ, List.length_cons, List.length_nil, List.set_cons_zero, List.set_cons_succ, List.getElem?_cons_zero, List.getElem?_cons_succ, reduceIte, Nat.reduceEqDiff, Nat.reduceAdd, Nat.reduceMul, Nat.reduceLeDiff, Nat.zero_add, Nat.add_zero, Option.map_some, Int.reduceEq, Int.reduceLT, Int.reduceLE, Bool.false_eq_true, decide_true, decide_false, ge_iff_le, gt_iff_lt, set_get', hneg]; rfl) ?_)))
    show Wc _ _ _ _
    refine Wc_cond true (by simp [ev, upd]) (fun _ => ?_) (fun h => by cases h)
    refine Wc_seq (Wc_ops (Wo_run (fun call => by simp only [List.drop_succ_cons, List.drop_zero, iops_nil, iops_op, iops_grd, iK_some, iG_true, iG_false, gval_bool, beq_true, beq_false, Bool.not_true, Bool.not_false, iop, ev, upd, dstUpd, binV, binI, unV, ptr, Heap.cell, Heap.write, cellsOf, put, args0, partL, List.getD_cons_zero, List.getD_cons_succ, List.length_cons, List.length_nil, List.set_cons_zero, List.set_cons_succ, List.getElem?_cons_zero, List.getElem?_cons_succ, reduceIte, Nat.reduceEqDiff, Nat.reduceAdd, Nat.reduceMul, Nat.reduceLeDiff, Nat.zero_add, Nat.add_zero, Option.map_some, Int.reduceEq, Int.reduceLT, Int.reduceLE, Bool.false_eq_true, decide_true, decide_false, ge_iff_le, gt_iff_lt, set_get', hgo, fillL, evps, List.map_nil]; rfl) ?_))
    refine Wc_ret (fin _ _ (by simp [upd, dstUpd, ptr]) (by rw [set_get']))
  · have hge : 29 ≤ op := by omega
    refine Wc_seq (Wc_seq (Wc_ops (Wo_run (fun call => by simp only [List.drop_succ_cons, List.drop_zero, iops_nil, iops_op, iops_grd, iK_some, iG_true, iG_false, gval_bool, beq_true, beq_false, Bool.not_true, Bool.not_false, iop, ev, upd, dstUpd, binV, binI, unV, ptr, Heap.cell, Heap.write, cellsOf, put, args0, partL, List.getD_cons_zero, List.getD_cons_succ, List.length_cons, List.length_nil, List.set_cons_zero, List.set_cons_succ, List.getElem?_cons_zero, List.getElem?_cons_succ, reduceIte, Nat.reduceEqDiff, Nat.reduceAdd, Nat.reduceMul, Nat.reduceLeDiff, Nat.zero_add, Nat.add_zero, Option.map_some, Int.reduceEq, Int.reduceLT, Int.reduceLE, Bool.false_eq_true, decide_true, decide_false, ge_iff_le, gt_iff_lt, set_get', hneg, hge]; rfl) ?_)))
    show Wc _ _ _ _
    refine Wc_cond true (by simp [ev, upd]) (fun _ => ?_) (fun h => by cases h)
    refine Wc_seq (Wc_ops (Wo_run (fun call => by simp only [List.drop_succ_cons, List.drop_zero, iops_nil, iops_op, iops_grd, iK_some, iG_true, iG_false, gval_bool, beq_true, beq_false, Bool.not_true, Bool.not_false, iop, ev, upd, dstUpd, binV, binI, unV, ptr, Heap.cell, Heap.write, cellsOf, put, args0, partL, List.getD_cons_zero, List.getD_cons_succ, List.length_cons, List.length_nil, List.set_cons_zero, List.set_cons_succ, List.getElem?_cons_zero, List.getElem?_cons_succ, reduceIte, Nat.reduceEqDiff, Nat.reduceAdd, Nat.reduceMul, Nat.reduceLeDiff, Nat.zero_add, Nat.add_zero, Option.map_some, Int.reduceEq, Int.reduceLT, Int.reduceLE, Bool.false_eq_true, decide_true, decide_false, ge_iff_le, gt_iff_lt, set_get', hgo, fillL, evps, List.map_nil]; rfl) ?_))
    refine Wc_ret (fin _ _ (by simp [upd, dstUpd, ptr]) (by rw [set_get']))

theorem in_range {op : Int} (h : 0 ≤ op ∧ op < 29) : op.toNat ∈ List.range 29 ∧ ((op.toNat : Nat) : Int) = op := ⟨by simp; omega, by omega⟩

theorem rowL_pure (op : Int) : (rowL op).all scal = true := by simp [rowL, strB, scal]

theorem cprim_icall {T : Tbl} {n : Nat} {f : FuncId} {args : List Value} {v : Value} (h : cprim T n f args = some v) : ∃ h', icall T n (.fn f) args ⟨fun _ => none, 0⟩ = some (.ret v, h') := by
  unfold cprim at h
  split at h
  case isFalse => cases h
  split at h
  case h_2 => cases h
  rename_i u h' hc
  split at h
  case isFalse => cases h
  cases h
  exact ⟨h', ccall_ideal T n _ _ _ _ hc⟩

theorem ofP_ok : PrimOk Try.prog 25 ofP := by
  refine primOk_pure Tb0ok (calleeOk_mk Try.func25 (by kernel_rfl) (by kernel_rfl)) fun args v h => ?_
  unfold ofP at h
  split at h
  case h_2 => cases h
  rename_i op
  refine ⟨rfl, by cases h; exact rowL_pure op, ?_⟩
  by_cases ho : 0 ≤ op ∧ op < 29
  · obtain ⟨h1, h2⟩ := in_range ho
    obtain ⟨u, e1, e2⟩ := optEq_eq (List.all_eq_true.1 of_run _ h1)
    rw [h2] at e1 e2
    simp only [ofP] at e2
    rw [h] at e2; cases e2
    obtain ⟨h', hi⟩ := cprim_icall e1
    exact ⟨60, h', hi⟩
  · obtain ⟨n, o, h', hi, rfl⟩ := of25 ho
    cases h
    exact ⟨n, h', hi⟩

theorem rowP_ok : PrimOk Try.prog 27 rowP := by
  refine primOk_pure Tb0ok (calleeOk_mk Try.func27 (by kernel_rfl) (by kernel_rfl)) fun args v h => ?_
  unfold rowP at h
  split at h
  case h_2 => cases h
  rename_i op
  refine ⟨rfl, by cases h; exact rowL_pure op, ?_⟩
  by_cases ho : 0 ≤ op ∧ op < 29
  · obtain ⟨h1, h2⟩ := in_range ho
    obtain ⟨u, e1, e2⟩ := optEq_eq (List.all_eq_true.1 row_run _ h1)
    rw [h2] at e1 e2
    simp only [rowP] at e2
    rw [h] at e2; cases e2
    obtain ⟨h', hi⟩ := cprim_icall e1
    exact ⟨60, h', hi⟩
  · obtain ⟨n, o, h', hi, rfl⟩ := row27 ho
    cases h
    exact ⟨n, h', hi⟩

theorem awakeP_ok : PrimOk Try.prog 7 (cprim T0 200 7) := primOk_cprim T0ok 200 (calleeOk_mk Try.func7 (by kernel_rfl) (by kernel_rfl))

noncomputable def T1 : Tbl := setPrim (setPrim (setPrim T0 7 (cprim T0 200 7)) 25 ofP) 27 rowP
theorem T1ok : TblOk Try.prog T1 := setPrim_ok (setPrim_ok (setPrim_ok T0ok awakeP_ok) ofP_ok) rowP_ok
theorem wake7 {h : Heap} {K : Out → Heap → Prop} (hK : K (.ret (.bool true)) h) : Wk T1 (.fn 7) [] h K := Wk_prim (p := cprim T0 200 7) (v := .bool true) rfl rfl (isTV_eq awake_run) hK
theorem of25' {op : Int} {h : Heap} {K : Out → Heap → Prop} (hK : K (.ret (.agg (rowL op).toArray)) h) : Wk T1 (.fn 25) [.int .i64 op] h K := Wk_prim (p := ofP) rfl rfl rfl hK
theorem row27' {op : Int} {h : Heap} {K : Out → Heap → Prop} (hK : K (.ret (.tuple (rowL op).toArray)) h) : Wk T1 (.fn 27) [.int .i64 op] h K := Wk_prim (p := rowP) rfl rfl rfl hK

end Go.Idl
