/- What an instruction reads: both packages. -/
import Derived.Test.YtfdpknfndjllgaaK1
import Derived.Test.YtfdpknfndjllgaaI16
import Derived.Test.YtfdpknfndjllgaaFuses
namespace Go.Idl
set_option linter.unusedVariables false
set_option linter.unusedSimpArgs false

/-- An instruction. -/
structure Ins where
  op : Int
  a : Int
  b : Int
  c : Int
  k : Int
  l : List Int
  lv : Value

def Ins.cells (x : Ins) : List Value := [.int .i64 x.op, .int .i64 x.a, .int .i64 x.b, .int .i64 x.c, .int .i64 x.k, x.lv]
def Ins.val (x : Ins) : Value := .agg x.cells.toArray
def fld (x : Ins) (c : Int) : Int := if c = 65 then x.a else if c = 66 then x.b else x.c
def lets (x : Ins) (c : UInt8) : List Int := if c = 76 then x.l else [fld x c.toNat]
def rd (x : Ins) : List UInt8 := (rowAt x.op).2.2.1
def readsOf (x : Ins) : List Int := (rd x).flatMap (lets x)

theorem rows_ok : (rowsT.all fun r => decide (r.2.2.1.length ≤ 3) && r.2.2.1.all fun c => decide (c.toNat < 128)) = true := by decide
theorem rd_ok (x : Ins) : (rd x).length ≤ 3 ∧ ∀ c ∈ rd x, c.toNat < 128 := by
  unfold rd rowAt
  split
  · rename_i h
    have hl : rowsT.length = 29 := by decide
    have hlt : x.op.toNat < rowsT.length := by omega
    rw [List.getD_eq_getElem?_getD, List.getElem?_eq_getElem hlt, Option.getD_some]
    have := List.all_eq_true.1 rows_ok _ (List.getElem_mem hlt)
    simp only [Bool.and_eq_true, decide_eq_true_eq, List.all_eq_true] at this
    exact this
  · exact ⟨by simp, by simp⟩

theorem decodeL {l : List UInt8} {k : Nat} {c : UInt8} (h : l[k]? = some c) (hc : c.toNat < 128) : Utf8.decode ⟨l.toArray⟩ k = (c.toNat, 1) := by
  have hlt : k < l.length := (List.getElem?_eq_some_iff.1 h).1
  have hs : k < (⟨l.toArray⟩ : ByteArray).size := by simpa [ByteArray.size] using hlt
  have he : (⟨l.toArray⟩ : ByteArray)[k]'hs = c := by
    have : l[k] = c := (List.getElem?_eq_some_iff.1 h).2
    simpa [ByteArray.getElem_eq_getElem_data] using this
  rw [decode_ascii _ _ hs (by rw [he]; exact hc), he]

theorem reg26 {T : Tbl} (hT : T.fn 26 = some C26) (x : Ins) (c : Int) (h : Heap) : Wk T (.fn 26) [x.val, .int .i32 c] h (fun o h' => Kept h h' ∧ o = .ret (.int .i64 (fld x c))) := by
  refine Wk_fn hT (by simp [C26]) ?_
  simp only [C26]
  have hb : iop (.box (.t 0)) (args0 [x.val, .int .i32 c]) h = some (ptr h.next 0, h.new (.cells x.cells true 0)) := by simp [iop, ev, args0, Ins.val, cellsOf]
  refine Wc_seq (Wc_ops (Wo_op hb (Wo_run (fun call => by simp only [List.drop_succ_cons, List.drop_zero, iops_nil, iops_op, iops_grd, iK_some, iG_true, iG_false, gval_bool, beq_true, beq_false, Bool.not_true, Bool.not_false, iop, ev, upd, dstUpd, binV, binI, unV, ptr, Heap.cell, Heap.write, cellsOf, put, args0, partL, List.getD_cons_zero, List.getD_cons_succ, List.length_cons, List.length_nil, List.set_cons_zero, List.set_cons_succ, List.getElem?_cons_zero, List.getElem?_cons_succ, reduceIte, Nat.reduceEqDiff, Nat.reduceAdd, Nat.reduceMul, Nat.reduceLeDiff, Nat.zero_add, Nat.add_zero, Option.map_some, Int.reduceEq, Int.reduceLT, Int.reduceLE, Bool.false_eq_true, decide_true, decide_false, ge_iff_le, gt_iff_lt, set_get']; rfl) ?_)))
  show Wc T _ _ _
  have hg : (h.new (.cells x.cells true 0)).get h.next = some (.cells x.cells true 0) := new_get' _ _
  have hk : Kept h (h.new (.cells x.cells true 0)) := (Kept.refl h).new _
  generalize h.new (.cells x.cells true 0) = h1 at hg hk ⊢
  have fin : ∀ (e : Env) (n : Int), e 4 = .int .i64 n → fld x c = n → ((Ex.ret = .normal ∨ Ex.ret = .ret) ∧ some ([] : List Dfr) = some [] ∧ ∃ vs, resAll e h1 [.tmp 4] = some vs ∧ Kept h h1 ∧ Out.ret (tup vs) = .ret (.int .i64 (fld x c))) := by
    intro e n h4 hn
    exact ⟨.inr rfl, rfl, [.int .i64 n], by simp only [resAll, resV, h4], hk, by rw [hn]; rfl⟩
  refine Wc_seq (Wc_seq (Wc_ops (Wo_run (fun call => by simp only [List.drop_succ_cons, List.drop_zero, iops_nil, iops_op, iops_grd, iK_some, iG_true, iG_false, gval_bool, beq_true, beq_false, Bool.not_true, Bool.not_false, iop, ev, upd, dstUpd, binV, binI, unV, ptr, Heap.cell, Heap.write, cellsOf, put, args0, partL, List.getD_cons_zero, List.getD_cons_succ, List.length_cons, List.length_nil, List.set_cons_zero, List.set_cons_succ, List.getElem?_cons_zero, List.getElem?_cons_succ, reduceIte, Nat.reduceEqDiff, Nat.reduceAdd, Nat.reduceMul, Nat.reduceLeDiff, Nat.zero_add, Nat.add_zero, Option.map_some, Int.reduceEq, Int.reduceLT, Int.reduceLE, Bool.false_eq_true, decide_true, decide_false, ge_iff_le, gt_iff_lt, set_get']; rfl) ?_)))
  show Wc T _ _ _
  by_cases h65 : c = 65
  · subst h65
    refine Wc_block (Wc_seq (Wc_ops (Wo_run (fun call => by simp only [List.drop_succ_cons, List.drop_zero, iops_nil, iops_op, iops_grd, iK_some, iG_true, iG_false, gval_bool, beq_true, beq_false, Bool.not_true, Bool.not_false, iop, ev, upd, dstUpd, binV, binI, unV, ptr, Heap.cell, Heap.write, cellsOf, put, args0, partL, List.getD_cons_zero, List.getD_cons_succ, List.length_cons, List.length_nil, List.set_cons_zero, List.set_cons_succ, List.getElem?_cons_zero, List.getElem?_cons_succ, reduceIte, Nat.reduceEqDiff, Nat.reduceAdd, Nat.reduceMul, Nat.reduceLeDiff, Nat.zero_add, Nat.add_zero, Option.map_some, Int.reduceEq, Int.reduceLT, Int.reduceLE, Bool.false_eq_true, decide_true, decide_false, ge_iff_le, gt_iff_lt, set_get', beq_self_eq_true]; rfl) ?_)))
    show Wc T _ _ _
    refine Wc_cond true (by simp [ev, upd]) (fun _ => ?_) (fun h => by cases h)
    refine Wc_seq (Wc_ops (Wo_run (fun call => by simp only [List.drop_succ_cons, List.drop_zero, iops_nil, iops_op, iops_grd, iK_some, iG_true, iG_false, gval_bool, beq_true, beq_false, Bool.not_true, Bool.not_false, iop, ev, upd, dstUpd, binV, binI, unV, ptr, Heap.cell, Heap.write, cellsOf, put, args0, partL, List.getD_cons_zero, List.getD_cons_succ, List.length_cons, List.length_nil, List.set_cons_zero, List.set_cons_succ, List.getElem?_cons_zero, List.getElem?_cons_succ, reduceIte, Nat.reduceEqDiff, Nat.reduceAdd, Nat.reduceMul, Nat.reduceLeDiff, Nat.zero_add, Nat.add_zero, Option.map_some, Int.reduceEq, Int.reduceLT, Int.reduceLE, Bool.false_eq_true, decide_true, decide_false, ge_iff_le, gt_iff_lt, set_get', hg, Ins.cells]; rfl) ?_))
    exact Wc_ret (fin _ x.a (by simp [upd, dstUpd]) (by simp [fld]))
  have hc65 : (c == 65) = false := by simpa using h65
  refine Wc_block (Wc_seq (Wc_ops (Wo_run (fun call => by simp only [List.drop_succ_cons, List.drop_zero, iops_nil, iops_op, iops_grd, iK_some, iG_true, iG_false, gval_bool, beq_true, beq_false, Bool.not_true, Bool.not_false, iop, ev, upd, dstUpd, binV, binI, unV, ptr, Heap.cell, Heap.write, cellsOf, put, args0, partL, List.getD_cons_zero, List.getD_cons_succ, List.length_cons, List.length_nil, List.set_cons_zero, List.set_cons_succ, List.getElem?_cons_zero, List.getElem?_cons_succ, reduceIte, Nat.reduceEqDiff, Nat.reduceAdd, Nat.reduceMul, Nat.reduceLeDiff, Nat.zero_add, Nat.add_zero, Option.map_some, Int.reduceEq, Int.reduceLT, Int.reduceLE, Bool.false_eq_true, decide_true, decide_false, ge_iff_le, gt_iff_lt, set_get', hc65]; rfl) ?_)))
  show Wc T _ _ _
  refine Wc_cond false (by simp [ev, upd]) (fun h => by cases h) (fun _ => ?_)
  by_cases h66 : c = 66
  · subst h66
    refine Wc_seq (Wc_ops (Wo_run (fun call => by simp only [List.drop_succ_cons, List.drop_zero, iops_nil, iops_op, iops_grd, iK_some, iG_true, iG_false, gval_bool, beq_true, beq_false, Bool.not_true, Bool.not_false, iop, ev, upd, dstUpd, binV, binI, unV, ptr, Heap.cell, Heap.write, cellsOf, put, args0, partL, List.getD_cons_zero, List.getD_cons_succ, List.length_cons, List.length_nil, List.set_cons_zero, List.set_cons_succ, List.getElem?_cons_zero, List.getElem?_cons_succ, reduceIte, Nat.reduceEqDiff, Nat.reduceAdd, Nat.reduceMul, Nat.reduceLeDiff, Nat.zero_add, Nat.add_zero, Option.map_some, Int.reduceEq, Int.reduceLT, Int.reduceLE, Bool.false_eq_true, decide_true, decide_false, ge_iff_le, gt_iff_lt, set_get', beq_self_eq_true]; rfl) ?_))
    show Wc T _ _ _
    refine Wc_cond true (by simp [ev, upd]) (fun _ => ?_) (fun h => by cases h)
    refine Wc_seq (Wc_ops (Wo_run (fun call => by simp only [List.drop_succ_cons, List.drop_zero, iops_nil, iops_op, iops_grd, iK_some, iG_true, iG_false, gval_bool, beq_true, beq_false, Bool.not_true, Bool.not_false, iop, ev, upd, dstUpd, binV, binI, unV, ptr, Heap.cell, Heap.write, cellsOf, put, args0, partL, List.getD_cons_zero, List.getD_cons_succ, List.length_cons, List.length_nil, List.set_cons_zero, List.set_cons_succ, List.getElem?_cons_zero, List.getElem?_cons_succ, reduceIte, Nat.reduceEqDiff, Nat.reduceAdd, Nat.reduceMul, Nat.reduceLeDiff, Nat.zero_add, Nat.add_zero, Option.map_some, Int.reduceEq, Int.reduceLT, Int.reduceLE, Bool.false_eq_true, decide_true, decide_false, ge_iff_le, gt_iff_lt, set_get', hg, Ins.cells]; rfl) ?_))
    exact Wc_ret (fin _ x.b (by simp [upd, dstUpd]) (by simp [fld]))
  have hc66 : (c == 66) = false := by simpa using h66
  refine Wc_seq (Wc_ops (Wo_run (fun call => by simp only [List.drop_succ_cons, List.drop_zero, iops_nil, iops_op, iops_grd, iK_some, iG_true, iG_false, gval_bool, beq_true, beq_false, Bool.not_true, Bool.not_false, iop, ev, upd, dstUpd, binV, binI, unV, ptr, Heap.cell, Heap.write, cellsOf, put, args0, partL, List.getD_cons_zero, List.getD_cons_succ, List.length_cons, List.length_nil, List.set_cons_zero, List.set_cons_succ, List.getElem?_cons_zero, List.getElem?_cons_succ, reduceIte, Nat.reduceEqDiff, Nat.reduceAdd, Nat.reduceMul, Nat.reduceLeDiff, Nat.zero_add, Nat.add_zero, Option.map_some, Int.reduceEq, Int.reduceLT, Int.reduceLE, Bool.false_eq_true, decide_true, decide_false, ge_iff_le, gt_iff_lt, set_get', hc66]; rfl) ?_))
  show Wc T _ _ _
  refine Wc_cond false (by simp [ev, upd]) (fun h => by cases h) (fun _ => Wc_skip ?_)
  show Wc T _ _ _
  refine Wc_seq (Wc_ops (Wo_run (fun call => by simp only [List.drop_succ_cons, List.drop_zero, iops_nil, iops_op, iops_grd, iK_some, iG_true, iG_false, gval_bool, beq_true, beq_false, Bool.not_true, Bool.not_false, iop, ev, upd, dstUpd, binV, binI, unV, ptr, Heap.cell, Heap.write, cellsOf, put, args0, partL, List.getD_cons_zero, List.getD_cons_succ, List.length_cons, List.length_nil, List.set_cons_zero, List.set_cons_succ, List.getElem?_cons_zero, List.getElem?_cons_succ, reduceIte, Nat.reduceEqDiff, Nat.reduceAdd, Nat.reduceMul, Nat.reduceLeDiff, Nat.zero_add, Nat.add_zero, Option.map_some, Int.reduceEq, Int.reduceLT, Int.reduceLE, Bool.false_eq_true, decide_true, decide_false, ge_iff_le, gt_iff_lt, set_get', hg, Ins.cells]; rfl) ?_))
  exact Wc_ret (fin _ x.c (by simp [upd, dstUpd]) (by simp [fld, h65, h66]))

theorem field28 {T : Tbl} (hT : T.fn 28 = some C28) (x : Ins) (c : Int) (h : Heap) : Wk T (.fn 28) [x.val, .int .u8 c] h (fun o h' => Kept h h' ∧ o = .ret (.int .i64 (fld x c))) := by
  refine Wk_fn hT (by simp [C28]) ?_
  simp only [C28]
  have hb : iop (.box (.t 0)) (args0 [x.val, .int .u8 c]) h = some (ptr h.next 0, h.new (.cells x.cells true 0)) := by simp [iop, ev, args0, Ins.val, cellsOf]
  refine Wc_seq (Wc_ops (Wo_op hb (Wo_run (fun call => by simp only [List.drop_succ_cons, List.drop_zero, iops_nil, iops_op, iops_grd, iK_some, iG_true, iG_false, gval_bool, beq_true, beq_false, Bool.not_true, Bool.not_false, iop, ev, upd, dstUpd, binV, binI, unV, ptr, Heap.cell, Heap.write, cellsOf, put, args0, partL, List.getD_cons_zero, List.getD_cons_succ, List.length_cons, List.length_nil, List.set_cons_zero, List.set_cons_succ, List.getElem?_cons_zero, List.getElem?_cons_succ, reduceIte, Nat.reduceEqDiff, Nat.reduceAdd, Nat.reduceMul, Nat.reduceLeDiff, Nat.zero_add, Nat.add_zero, Option.map_some, Int.reduceEq, Int.reduceLT, Int.reduceLE, Bool.false_eq_true, decide_true, decide_false, ge_iff_le, gt_iff_lt, set_get']; rfl) ?_)))
  show Wc T _ _ _
  have hg : (h.new (.cells x.cells true 0)).get h.next = some (.cells x.cells true 0) := new_get' _ _
  have hk : Kept h (h.new (.cells x.cells true 0)) := (Kept.refl h).new _
  generalize h.new (.cells x.cells true 0) = h1 at hg hk ⊢
  have fin : ∀ (e : Env) (n : Int), e 4 = .int .i64 n → fld x c = n → ((Ex.ret = .normal ∨ Ex.ret = .ret) ∧ some ([] : List Dfr) = some [] ∧ ∃ vs, resAll e h1 [.tmp 4] = some vs ∧ Kept h h1 ∧ Out.ret (tup vs) = .ret (.int .i64 (fld x c))) := by
    intro e n h4 hn
    exact ⟨.inr rfl, rfl, [.int .i64 n], by simp only [resAll, resV, h4], hk, by rw [hn]; rfl⟩
  refine Wc_seq (Wc_seq (Wc_ops (Wo_run (fun call => by simp only [List.drop_succ_cons, List.drop_zero, iops_nil, iops_op, iops_grd, iK_some, iG_true, iG_false, gval_bool, beq_true, beq_false, Bool.not_true, Bool.not_false, iop, ev, upd, dstUpd, binV, binI, unV, ptr, Heap.cell, Heap.write, cellsOf, put, args0, partL, List.getD_cons_zero, List.getD_cons_succ, List.length_cons, List.length_nil, List.set_cons_zero, List.set_cons_succ, List.getElem?_cons_zero, List.getElem?_cons_succ, reduceIte, Nat.reduceEqDiff, Nat.reduceAdd, Nat.reduceMul, Nat.reduceLeDiff, Nat.zero_add, Nat.add_zero, Option.map_some, Int.reduceEq, Int.reduceLT, Int.reduceLE, Bool.false_eq_true, decide_true, decide_false, ge_iff_le, gt_iff_lt, set_get']; rfl) ?_)))
  show Wc T _ _ _
  by_cases h65 : c = 65
  · subst h65
    refine Wc_block (Wc_seq (Wc_ops (Wo_run (fun call => by simp only [List.drop_succ_cons, List.drop_zero, iops_nil, iops_op, iops_grd, iK_some, iG_true, iG_false, gval_bool, beq_true, beq_false, Bool.not_true, Bool.not_false, iop, ev, upd, dstUpd, binV, binI, unV, ptr, Heap.cell, Heap.write, cellsOf, put, args0, partL, List.getD_cons_zero, List.getD_cons_succ, List.length_cons, List.length_nil, List.set_cons_zero, List.set_cons_succ, List.getElem?_cons_zero, List.getElem?_cons_succ, reduceIte, Nat.reduceEqDiff, Nat.reduceAdd, Nat.reduceMul, Nat.reduceLeDiff, Nat.zero_add, Nat.add_zero, Option.map_some, Int.reduceEq, Int.reduceLT, Int.reduceLE, Bool.false_eq_true, decide_true, decide_false, ge_iff_le, gt_iff_lt, set_get', beq_self_eq_true]; rfl) ?_)))
    show Wc T _ _ _
    refine Wc_cond true (by simp [ev, upd]) (fun _ => ?_) (fun h => by cases h)
    refine Wc_seq (Wc_ops (Wo_run (fun call => by simp only [List.drop_succ_cons, List.drop_zero, iops_nil, iops_op, iops_grd, iK_some, iG_true, iG_false, gval_bool, beq_true, beq_false, Bool.not_true, Bool.not_false, iop, ev, upd, dstUpd, binV, binI, unV, ptr, Heap.cell, Heap.write, cellsOf, put, args0, partL, List.getD_cons_zero, List.getD_cons_succ, List.length_cons, List.length_nil, List.set_cons_zero, List.set_cons_succ, List.getElem?_cons_zero, List.getElem?_cons_succ, reduceIte, Nat.reduceEqDiff, Nat.reduceAdd, Nat.reduceMul, Nat.reduceLeDiff, Nat.zero_add, Nat.add_zero, Option.map_some, Int.reduceEq, Int.reduceLT, Int.reduceLE, Bool.false_eq_true, decide_true, decide_false, ge_iff_le, gt_iff_lt, set_get', hg, Ins.cells]; rfl) ?_))
    exact Wc_ret (fin _ x.a (by simp [upd, dstUpd]) (by simp [fld]))
  have hc65 : (c == 65) = false := by simpa using h65
  refine Wc_block (Wc_seq (Wc_ops (Wo_run (fun call => by simp only [List.drop_succ_cons, List.drop_zero, iops_nil, iops_op, iops_grd, iK_some, iG_true, iG_false, gval_bool, beq_true, beq_false, Bool.not_true, Bool.not_false, iop, ev, upd, dstUpd, binV, binI, unV, ptr, Heap.cell, Heap.write, cellsOf, put, args0, partL, List.getD_cons_zero, List.getD_cons_succ, List.length_cons, List.length_nil, List.set_cons_zero, List.set_cons_succ, List.getElem?_cons_zero, List.getElem?_cons_succ, reduceIte, Nat.reduceEqDiff, Nat.reduceAdd, Nat.reduceMul, Nat.reduceLeDiff, Nat.zero_add, Nat.add_zero, Option.map_some, Int.reduceEq, Int.reduceLT, Int.reduceLE, Bool.false_eq_true, decide_true, decide_false, ge_iff_le, gt_iff_lt, set_get', hc65]; rfl) ?_)))
  show Wc T _ _ _
  refine Wc_cond false (by simp [ev, upd]) (fun h => by cases h) (fun _ => ?_)
  by_cases h66 : c = 66
  · subst h66
    refine Wc_seq (Wc_ops (Wo_run (fun call => by simp only [List.drop_succ_cons, List.drop_zero, iops_nil, iops_op, iops_grd, iK_some, iG_true, iG_false, gval_bool, beq_true, beq_false, Bool.not_true, Bool.not_false, iop, ev, upd, dstUpd, binV, binI, unV, ptr, Heap.cell, Heap.write, cellsOf, put, args0, partL, List.getD_cons_zero, List.getD_cons_succ, List.length_cons, List.length_nil, List.set_cons_zero, List.set_cons_succ, List.getElem?_cons_zero, List.getElem?_cons_succ, reduceIte, Nat.reduceEqDiff, Nat.reduceAdd, Nat.reduceMul, Nat.reduceLeDiff, Nat.zero_add, Nat.add_zero, Option.map_some, Int.reduceEq, Int.reduceLT, Int.reduceLE, Bool.false_eq_true, decide_true, decide_false, ge_iff_le, gt_iff_lt, set_get', beq_self_eq_true]; rfl) ?_))
    show Wc T _ _ _
    refine Wc_cond true (by simp [ev, upd]) (fun _ => ?_) (fun h => by cases h)
    refine Wc_seq (Wc_ops (Wo_run (fun call => by simp only [List.drop_succ_cons, List.drop_zero, iops_nil, iops_op, iops_grd, iK_some, iG_true, iG_false, gval_bool, beq_true, beq_false, Bool.not_true, Bool.not_false, iop, ev, upd, dstUpd, binV, binI, unV, ptr, Heap.cell, Heap.write, cellsOf, put, args0, partL, List.getD_cons_zero, List.getD_cons_succ, List.length_cons, List.length_nil, List.set_cons_zero, List.set_cons_succ, List.getElem?_cons_zero, List.getElem?_cons_succ, reduceIte, Nat.reduceEqDiff, Nat.reduceAdd, Nat.reduceMul, Nat.reduceLeDiff, Nat.zero_add, Nat.add_zero, Option.map_some, Int.reduceEq, Int.reduceLT, Int.reduceLE, Bool.false_eq_true, decide_true, decide_false, ge_iff_le, gt_iff_lt, set_get', hg, Ins.cells]; rfl) ?_))
    exact Wc_ret (fin _ x.b (by simp [upd, dstUpd]) (by simp [fld]))
  have hc66 : (c == 66) = false := by simpa using h66
  refine Wc_seq (Wc_ops (Wo_run (fun call => by simp only [List.drop_succ_cons, List.drop_zero, iops_nil, iops_op, iops_grd, iK_some, iG_true, iG_false, gval_bool, beq_true, beq_false, Bool.not_true, Bool.not_false, iop, ev, upd, dstUpd, binV, binI, unV, ptr, Heap.cell, Heap.write, cellsOf, put, args0, partL, List.getD_cons_zero, List.getD_cons_succ, List.length_cons, List.length_nil, List.set_cons_zero, List.set_cons_succ, List.getElem?_cons_zero, List.getElem?_cons_succ, reduceIte, Nat.reduceEqDiff, Nat.reduceAdd, Nat.reduceMul, Nat.reduceLeDiff, Nat.zero_add, Nat.add_zero, Option.map_some, Int.reduceEq, Int.reduceLT, Int.reduceLE, Bool.false_eq_true, decide_true, decide_false, ge_iff_le, gt_iff_lt, set_get', hc66]; rfl) ?_))
  show Wc T _ _ _
  refine Wc_cond false (by simp [ev, upd]) (fun h => by cases h) (fun _ => Wc_skip ?_)
  show Wc T _ _ _
  refine Wc_seq (Wc_ops (Wo_run (fun call => by simp only [List.drop_succ_cons, List.drop_zero, iops_nil, iops_op, iops_grd, iK_some, iG_true, iG_false, gval_bool, beq_true, beq_false, Bool.not_true, Bool.not_false, iop, ev, upd, dstUpd, binV, binI, unV, ptr, Heap.cell, Heap.write, cellsOf, put, args0, partL, List.getD_cons_zero, List.getD_cons_succ, List.length_cons, List.length_nil, List.set_cons_zero, List.set_cons_succ, List.getElem?_cons_zero, List.getElem?_cons_succ, reduceIte, Nat.reduceEqDiff, Nat.reduceAdd, Nat.reduceMul, Nat.reduceLeDiff, Nat.zero_add, Nat.add_zero, Option.map_some, Int.reduceEq, Int.reduceLT, Int.reduceLE, Bool.false_eq_true, decide_true, decide_false, ge_iff_le, gt_iff_lt, set_get', hg, Ins.cells]; rfl) ?_))
  exact Wc_ret (fin _ x.c (by simp [upd, dstUpd]) (by simp [fld, h65, h66]))


theorem flatMap_len {f : UInt8 → List Int} {n : Nat} : ∀ (l : List UInt8), (∀ c, (f c).length ≤ n) → (l.flatMap f).length ≤ l.length * n
  | [], _ => by simp
  | c :: l, h => by
    have := flatMap_len l h
    have := h c
    simp only [List.flatMap_cons, List.length_append, List.length_cons, Nat.add_mul, Nat.one_mul]
    omega

theorem take_flat {l : List UInt8} {k : Nat} {c : UInt8} (f : UInt8 → List Int) (h : l[k]? = some c) : (l.take (k + 1)).flatMap f = (l.take k).flatMap f ++ f c := by
  rw [List.take_add_one, h]; simp

theorem reads12 {T : Tbl} (hT : T.fn 12 = some C12) (hT26 : T.fn 26 = some C26) (h25 : ∀ {op : Int} {h : Heap} {K : Out → Heap → Prop}, K (.ret (.agg (rowL op).toArray)) h → Wk T (.fn 25) [.int .i64 op] h K)
    (x : Ins) (h : Heap) (hx : intsAt h x.lv x.l) (hl : x.l.length ≤ 1000) : Wk T (.fn 12) [x.val] h (fun o h' => Kept h h' ∧ ∃ v, o = .ret v ∧ intsAt h' v (readsOf x)) := by
  refine Wk_fn hT (by simp [C12]) ?_
  simp only [C12]
  have hb : iop (.box (.t 0)) (args0 [x.val]) h = some (ptr h.next 0, h.new (.cells x.cells true 0)) := by simp [iop, ev, args0, Ins.val, cellsOf]
  refine Wc_seq (Wc_ops (Wo_op hb (Wo_run (fun call => by simp only [List.drop_succ_cons, List.drop_zero, iops_nil, iops_op, iops_grd, iK_some, iG_true, iG_false, gval_bool, beq_true, beq_false, Bool.not_true, Bool.not_false, iop, ev, upd, dstUpd, binV, binI, unV, ptr, Heap.cell, Heap.write, cellsOf, put, args0, partL, List.getD_cons_zero, List.getD_cons_succ, List.length_cons, List.length_nil, List.set_cons_zero, List.set_cons_succ, List.getElem?_cons_zero, List.getElem?_cons_succ, reduceIte, Nat.reduceEqDiff, Nat.reduceAdd, Nat.reduceMul, Nat.reduceLeDiff, Nat.zero_add, Nat.add_zero, Option.map_some, Int.reduceEq, Int.reduceLT, Int.reduceLE, Bool.false_eq_true, decide_true, decide_false, ge_iff_le, gt_iff_lt, set_get']; rfl) ?_)))
  show Wc T _ _ _
  have hg : (h.new (.cells x.cells true 0)).get h.next = some (.cells x.cells true 0) := new_get' _ _
  have hk : Kept h (h.new (.cells x.cells true 0)) := (Kept.refl h).new _
  have hn1 : (h.new (.cells x.cells true 0)).next = h.next + 1 := rfl
  generalize h.new (.cells x.cells true 0) = h1 at hg hk hn1 ⊢
  refine Wc_seq (Wc_ops (Wo_run (fun call => by simp only [List.drop_succ_cons, List.drop_zero, iops_nil, iops_op, iops_grd, iK_some, iG_true, iG_false, gval_bool, beq_true, beq_false, Bool.not_true, Bool.not_false, iop, ev, upd, dstUpd, binV, binI, unV, ptr, Heap.cell, Heap.write, cellsOf, put, args0, partL, List.getD_cons_zero, List.getD_cons_succ, List.length_cons, List.length_nil, List.set_cons_zero, List.set_cons_succ, List.getElem?_cons_zero, List.getElem?_cons_succ, reduceIte, Nat.reduceEqDiff, Nat.reduceAdd, Nat.reduceMul, Nat.reduceLeDiff, Nat.zero_add, Nat.add_zero, Option.map_some, Int.reduceEq, Int.reduceLT, Int.reduceLE, Bool.false_eq_true, decide_true, decide_false, ge_iff_le, gt_iff_lt, set_get']; rfl) ?_))
  show Wc T _ _ _
  refine Wc_seq (Wc_seq (Wc_ops (Wo_pre 2 (fun call => by simp only [List.take_succ_cons, List.take_zero, List.drop_succ_cons, List.drop_zero, iops_nil, iops_op, iops_grd, iK_some, iG_true, iG_false, gval_bool, beq_true, beq_false, Bool.not_true, Bool.not_false, iop, ev, upd, dstUpd, binV, binI, unV, ptr, Heap.cell, Heap.write, cellsOf, put, args0, partL, List.getD_cons_zero, List.getD_cons_succ, List.length_cons, List.length_nil, List.set_cons_zero, List.set_cons_succ, List.getElem?_cons_zero, List.getElem?_cons_succ, reduceIte, Nat.reduceEqDiff, Nat.reduceAdd, Nat.reduceMul, Nat.reduceLeDiff, Nat.zero_add, Nat.add_zero, Option.map_some, Int.reduceEq, Int.reduceLT, Int.reduceLE, Bool.false_eq_true, decide_true, decide_false, ge_iff_le, gt_iff_lt, set_get', hg, Ins.cells]; rfl) ?_)))
  refine Wo_call (h25 ?_)
  show Wo T _ _ _
  obtain ⟨hr3, hasc⟩ := rd_ok x
  have hrd : strB (rowAt x.op).2.2.1 = .string ⟨(rd x).toArray⟩ := rfl
  refine (Wo_run (fun call => by simp only [List.drop_succ_cons, List.drop_zero, iops_nil, iops_op, iops_grd, iK_some, iG_true, iG_false, gval_bool, beq_true, beq_false, Bool.not_true, Bool.not_false, iop, ev, upd, dstUpd, binV, binI, unV, ptr, Heap.cell, Heap.write, cellsOf, put, args0, partL, List.getD_cons_zero, List.getD_cons_succ, List.length_cons, List.length_nil, List.set_cons_zero, List.set_cons_succ, List.getElem?_cons_zero, List.getElem?_cons_succ, reduceIte, Nat.reduceEqDiff, Nat.reduceAdd, Nat.reduceMul, Nat.reduceLeDiff, Nat.zero_add, Nat.add_zero, Option.map_some, Int.reduceEq, Int.reduceLT, Int.reduceLE, Bool.false_eq_true, decide_true, decide_false, ge_iff_le, gt_iff_lt, set_get', rowL, hrd]; rfl) ?_)
  show Wc T _ _ _
  have hg2 : (h1.new (.siter ⟨(rd x).toArray⟩ 0)).get h1.next = some (.siter ⟨(rd x).toArray⟩ 0) := new_get' _ _
  have hgb : (h1.new (.siter ⟨(rd x).toArray⟩ 0)).get h.next = some (.cells x.cells true 0) := by rw [new_get_ne' _ _ (by omega)]; exact hg
  have hk2 : Kept h (h1.new (.siter ⟨(rd x).toArray⟩ 0)) := hk.new _
  have hn2 : (h1.new (.siter ⟨(rd x).toArray⟩ 0)).next = h.next + 2 := by rw [new_next]; omega
  rw [hn1] at hg2
  generalize h1.new (.siter ⟨(rd x).toArray⟩ 0) = h2 at hg2 hgb hk2 hn2 ⊢
  refine Wc_block (Wc_loop (fun s => s.d = some [] ∧ Kept h s.h ∧ h.next + 2 ≤ s.h.next ∧ s.e 1 = ptr h.next 0 ∧ s.e 10 = ptr (h.next + 1) 0 ∧ s.h.get h.next = some (.cells x.cells true 0) ∧
      ∃ (k : Nat) (v : Value), k ≤ (rd x).length ∧ s.h.get (h.next + 1) = some (.siter ⟨(rd x).toArray⟩ k) ∧ s.e 3 = v ∧ ownI (h.next + 2) s.h v (((rd x).take k).flatMap (lets x)))
    (fun s => match s.h.get (h.next + 1) with | some (.siter _ k) => (rd x).length - k | _ => 0) ?_ ?_)
  · refine ⟨rfl, hk2, Nat.le_of_eq hn2.symm, by simp [upd, dstUpd, ptr], by simp [upd, dstUpd, ptr, hn1], hgb, 0, .slice none 0 0, Nat.zero_le _, hg2, by simp [upd, dstUpd], .inl ⟨by simp, rfl⟩⟩
  rintro ⟨e, hp, d⟩ ⟨hd, hkp, hnp, g1, g10, gb, k, v, hkl, gs, g3, ho⟩
  simp only at hd hkp hnp g1 g10 gb gs g3 ho
  subst hd
  rw [C12L0]
  have hsz : (⟨(rd x).toArray⟩ : ByteArray).size = (rd x).length := by simp [ByteArray.size]
  by_cases hend : k < (rd x).length
  case neg =>
    have hkk : k = (rd x).length := by omega
    have hlt : ¬ k < (⟨(rd x).toArray⟩ : ByteArray).size := by rw [hsz]; exact hend
    refine Wc_seq (Wc_ops (Wo_run (fun call => by simp only [List.drop_succ_cons, List.drop_zero, iops_nil, iops_op, iops_grd, iK_some, iG_true, iG_false, gval_bool, beq_true, beq_false, Bool.not_true, Bool.not_false, iop, ev, upd, dstUpd, binV, binI, unV, ptr, Heap.cell, Heap.write, cellsOf, put, args0, partL, List.getD_cons_zero, List.getD_cons_succ, List.length_cons, List.length_nil, List.set_cons_zero, List.set_cons_succ, List.getElem?_cons_zero, List.getElem?_cons_succ, reduceIte, Nat.reduceEqDiff, Nat.reduceAdd, Nat.reduceMul, Nat.reduceLeDiff, Nat.zero_add, Nat.add_zero, Option.map_some, Int.reduceEq, Int.reduceLT, Int.reduceLE, Bool.false_eq_true, decide_true, decide_false, ge_iff_le, gt_iff_lt, set_get', g10, gs, hlt]; rfl) ?_))
    show Wc T _ _ _
    refine Wc_seq (Wc_cond false (by simp [ev, upd]) (fun h => by cases h) (fun _ => Wc_exit ?_))
    show Wc T _ _ _
    refine Wc_seq (Wc_ops (Wo_run (fun call => by simp only [List.drop_succ_cons, List.drop_zero, iops_nil, iops_op, iops_grd, iK_some, iG_true, iG_false, gval_bool, beq_true, beq_false, Bool.not_true, Bool.not_false, iop, ev, upd, dstUpd, binV, binI, unV, ptr, Heap.cell, Heap.write, cellsOf, put, args0, partL, List.getD_cons_zero, List.getD_cons_succ, List.length_cons, List.length_nil, List.set_cons_zero, List.set_cons_succ, List.getElem?_cons_zero, List.getElem?_cons_succ, reduceIte, Nat.reduceEqDiff, Nat.reduceAdd, Nat.reduceMul, Nat.reduceLeDiff, Nat.zero_add, Nat.add_zero, Option.map_some, Int.reduceEq, Int.reduceLT, Int.reduceLE, Bool.false_eq_true, decide_true, decide_false, ge_iff_le, gt_iff_lt, set_get', g3]; rfl) ?_))
    refine Wc_ret ⟨.inr rfl, rfl, [v], by simp only [resAll, resV, upd, dstUpd, Nat.reduceEqDiff, reduceIte], hkp, v, rfl, ?_⟩
    rw [hkk, List.take_length] at ho
    exact ho.ints
  obtain ⟨c, hc⟩ : ∃ c, (rd x)[k]? = some c := ⟨_, List.getElem?_eq_getElem hend⟩
  have hca := hasc c (List.mem_of_getElem? hc)
  have hdec := decodeL hc hca
  have hlt : k < (⟨(rd x).toArray⟩ : ByteArray).size := by rw [hsz]; exact hend
  refine Wc_seq (Wc_ops (Wo_run (fun call => by simp only [List.drop_succ_cons, List.drop_zero, iops_nil, iops_op, iops_grd, iK_some, iG_true, iG_false, gval_bool, beq_true, beq_false, Bool.not_true, Bool.not_false, iop, ev, upd, dstUpd, binV, binI, unV, ptr, Heap.cell, Heap.write, cellsOf, put, args0, partL, List.getD_cons_zero, List.getD_cons_succ, List.length_cons, List.length_nil, List.set_cons_zero, List.set_cons_succ, List.getElem?_cons_zero, List.getElem?_cons_succ, reduceIte, Nat.reduceEqDiff, Nat.reduceAdd, Nat.reduceMul, Nat.reduceLeDiff, Nat.zero_add, Nat.add_zero, Option.map_some, Int.reduceEq, Int.reduceLT, Int.reduceLE, Bool.false_eq_true, decide_true, decide_false, ge_iff_le, gt_iff_lt, set_get', g10, gs, hlt, hdec]; rfl) ?_))
  show Wc T _ _ _
  have gs3 : (hp.set (h.next + 1) (.siter ⟨(rd x).toArray⟩ (k + 1))).get (h.next + 1) = some (.siter ⟨(rd x).toArray⟩ (k + 1)) := set_get' _ _ _
  have gb3 : (hp.set (h.next + 1) (.siter ⟨(rd x).toArray⟩ (k + 1))).get h.next = some (.cells x.cells true 0) := by rw [set_get_ne' _ _ (by omega)]; exact gb
  have hk3 : Kept h (hp.set (h.next + 1) (.siter ⟨(rd x).toArray⟩ (k + 1))) := hkp.set (Nat.le_succ _) _
  have ho3 : ownI (h.next + 2) (hp.set (h.next + 1) (.siter ⟨(rd x).toArray⟩ (k + 1))) v (((rd x).take k).flatMap (lets x)) := ho.keep (Nat.le_refl _) (fun b h1 h2 => set_get_ne' _ _ (by omega))
  have hn3 : h.next + 2 ≤ (hp.set (h.next + 1) (.siter ⟨(rd x).toArray⟩ (k + 1))).next := hnp
  generalize hp.set (h.next + 1) (.siter ⟨(rd x).toArray⟩ (k + 1)) = h3 at gs3 gb3 hk3 ho3 hn3 ⊢
  have hlen : (((rd x).take k).flatMap (lets x)).length ≤ 3003 := by
    have h1 := flatMap_len (n := 1001) ((rd x).take k) (f := lets x) (fun c => by unfold lets; split; exact Nat.le_succ_of_le hl; exact Nat.succ_le_succ (Nat.zero_le _))
    have h2 : ((rd x).take k).length ≤ 3 := by rw [List.length_take]; omega
    omega
  have more : ∀ (e' : Env) (h4 : Heap) (v' : Value) , e' 1 = ptr h.next 0 → e' 10 = ptr (h.next + 1) 0 → e' 3 = v' → Beside v h3 h4 → ownI (h.next + 2) h4 v' (((rd x).take k).flatMap (lets x) ++ lets x c) →
      ((some ([] : List Dfr) = some [] ∧ Kept h h4 ∧ h.next + 2 ≤ h4.next ∧ e' 1 = ptr h.next 0 ∧ e' 10 = ptr (h.next + 1) 0 ∧ h4.get h.next = some (.cells x.cells true 0) ∧
      ∃ (k : Nat) (v : Value), k ≤ (rd x).length ∧ h4.get (h.next + 1) = some (.siter ⟨(rd x).toArray⟩ k) ∧ e' 3 = v ∧ ownI (h.next + 2) h4 v (((rd x).take k).flatMap (lets x))) ∧
      (match h4.get (h.next + 1) with | some (.siter _ k) => (rd x).length - k | _ => 0) < (match hp.get (h.next + 1) with | some (.siter _ k) => (rd x).length - k | _ => 0)) := by
    intro e' h4 v' f1 f10 f3 hbs hown
    have hs4 : h4.get (h.next + 1) = some (.siter ⟨(rd x).toArray⟩ (k + 1)) := by rw [hbs.at ho3 (by omega) (by omega)]; exact gs3
    refine ⟨⟨rfl, hbs.kept ho3 (by omega) hk3, Nat.le_trans hn3 hbs.next, f1, f10, by rw [hbs.at ho3 (by omega) (by omega)]; exact gb3, k + 1, v', by omega, hs4, f3, by rw [take_flat (lets x) hc]; exact hown⟩, ?_⟩
    rw [hs4, gs]
    simp only; omega
  refine Wc_seq (Wc_cond true (by simp [ev, upd]) (fun _ => Wc_skip ?_) (fun h => by cases h))
  show Wc T _ _ _
  refine Wc_block (Wc_seq (Wc_ops (Wo_run (fun call => by simp only [List.drop_succ_cons, List.drop_zero, iops_nil, iops_op, iops_grd, iK_some, iG_true, iG_false, gval_bool, beq_true, beq_false, Bool.not_true, Bool.not_false, iop, ev, upd, dstUpd, binV, binI, unV, ptr, Heap.cell, Heap.write, cellsOf, put, args0, partL, List.getD_cons_zero, List.getD_cons_succ, List.length_cons, List.length_nil, List.set_cons_zero, List.set_cons_succ, List.getElem?_cons_zero, List.getElem?_cons_succ, reduceIte, Nat.reduceEqDiff, Nat.reduceAdd, Nat.reduceMul, Nat.reduceLeDiff, Nat.zero_add, Nat.add_zero, Option.map_some, Int.reduceEq, Int.reduceLT, Int.reduceLE, Bool.false_eq_true, decide_true, decide_false, ge_iff_le, gt_iff_lt, set_get']; rfl) ?_)))
  show Wc T _ _ _
  by_cases h76 : c = 76
  · subst h76
    refine Wc_seq (Wc_ops (Wo_run (fun call => by simp only [List.drop_succ_cons, List.drop_zero, iops_nil, iops_op, iops_grd, iK_some, iG_true, iG_false, gval_bool, beq_true, beq_false, Bool.not_true, Bool.not_false, iop, ev, upd, dstUpd, binV, binI, unV, ptr, Heap.cell, Heap.write, cellsOf, put, args0, partL, List.getD_cons_zero, List.getD_cons_succ, List.length_cons, List.length_nil, List.set_cons_zero, List.set_cons_succ, List.getElem?_cons_zero, List.getElem?_cons_succ, reduceIte, Nat.reduceEqDiff, Nat.reduceAdd, Nat.reduceMul, Nat.reduceLeDiff, Nat.zero_add, Nat.add_zero, Option.map_some, Int.reduceEq, Int.reduceLT, Int.reduceLE, Bool.false_eq_true, decide_true, decide_false, ge_iff_le, gt_iff_lt, set_get']; rfl) ?_))
    show Wc T _ _ _
    refine Wc_cond true (by simp [ev, upd]) (fun _ => ?_) (fun h => by cases h)
    obtain ⟨v', h4, ha, hbs, hown, _⟩ := append_own ho3 hn3 (hx.keep hk3).elems (by omega)
    refine Wc_ops (Wo_run (fun call => by simp only [List.drop_succ_cons, List.drop_zero, iops_nil, iops_op, iops_grd, iK_some, iG_true, iG_false, gval_bool, beq_true, beq_false, Bool.not_true, Bool.not_false, iop, ev, upd, dstUpd, binV, binI, unV, ptr, Heap.cell, Heap.write, cellsOf, put, args0, partL, List.getD_cons_zero, List.getD_cons_succ, List.length_cons, List.length_nil, List.set_cons_zero, List.set_cons_succ, List.getElem?_cons_zero, List.getElem?_cons_succ, reduceIte, Nat.reduceEqDiff, Nat.reduceAdd, Nat.reduceMul, Nat.reduceLeDiff, Nat.zero_add, Nat.add_zero, Option.map_some, Int.reduceEq, Int.reduceLT, Int.reduceLE, Bool.false_eq_true, decide_true, decide_false, ge_iff_le, gt_iff_lt, set_get', g3, g1, gb3, Ins.cells, ha]; rfl) ?_)
    exact more _ _ v' (by simp [upd, dstUpd, g1]) (by simp [upd, dstUpd, g10]) (by simp [upd, dstUpd]) hbs (by simpa [lets] using hown)
  · have hne : ((c.toNat : Int) == 76) = false := by
      simp only [beq_eq_false_iff_ne, ne_eq]
      intro e
      apply h76
      apply UInt8.toNat_inj.1
      show c.toNat = 76
      omega
    refine Wc_seq (Wc_ops (Wo_run (fun call => by simp only [List.drop_succ_cons, List.drop_zero, iops_nil, iops_op, iops_grd, iK_some, iG_true, iG_false, gval_bool, beq_true, beq_false, Bool.not_true, Bool.not_false, iop, ev, upd, dstUpd, binV, binI, unV, ptr, Heap.cell, Heap.write, cellsOf, put, args0, partL, List.getD_cons_zero, List.getD_cons_succ, List.length_cons, List.length_nil, List.set_cons_zero, List.set_cons_succ, List.getElem?_cons_zero, List.getElem?_cons_succ, reduceIte, Nat.reduceEqDiff, Nat.reduceAdd, Nat.reduceMul, Nat.reduceLeDiff, Nat.zero_add, Nat.add_zero, Option.map_some, Int.reduceEq, Int.reduceLT, Int.reduceLE, Bool.false_eq_true, decide_true, decide_false, ge_iff_le, gt_iff_lt, set_get', hne]; rfl) ?_))
    show Wc T _ _ _
    refine Wc_cond false (by simp [ev, upd]) (fun h => by cases h) (fun _ => ?_)
    have hload : h3.cells h.next 0 6 = some x.cells := by
      simp only [Heap.cells, gb3]
      rfl
    refine Wc_ops (Wo_pre 3 (fun call => by simp only [List.take_succ_cons, List.take_zero, List.drop_succ_cons, List.drop_zero, iops_nil, iops_op, iops_grd, iK_some, iG_true, iG_false, gval_bool, beq_true, beq_false, Bool.not_true, Bool.not_false, iop, ev, upd, dstUpd, binV, binI, unV, ptr, Heap.cell, Heap.write, cellsOf, put, args0, partL, List.getD_cons_zero, List.getD_cons_succ, List.length_cons, List.length_nil, List.set_cons_zero, List.set_cons_succ, List.getElem?_cons_zero, List.getElem?_cons_succ, reduceIte, Nat.reduceEqDiff, Nat.reduceAdd, Nat.reduceMul, Nat.reduceLeDiff, Nat.zero_add, Nat.add_zero, Option.map_some, Int.reduceEq, Int.reduceLT, Int.reduceLE, Bool.false_eq_true, decide_true, decide_false, ge_iff_le, gt_iff_lt, set_get', g3, g1, hload]; rfl) ?_)
    refine Wo_call ?_
    show Wk T (.fn 26) [x.val, .int .i32 c.toNat] h3 _
    refine (reg26 hT26 x c.toNat h3).mono fun o h4 ⟨hk4, ho4⟩ => ?_
    subst ho4
    show Wo T _ _ _
    have ho4 : ownI (h.next + 2) h4 v (((rd x).take k).flatMap (lets x)) := ho3.keep hk4.next (fun b h1 h2 => hk4.get b h2)
    have ho5 : ownI (h.next + 2) (h4.new (.cells [.int .i64 (fld x c.toNat)] true 1)) v (((rd x).take k).flatMap (lets x)) := ho4.keep (Nat.le_succ _) (fun b h1 h2 => new_get_ne' _ _ (Nat.ne_of_lt h2))
    have hlit : iop (.lit 1 1 [(.int .i64 0)] [(0, 1, (.t 23))]) (dstUpd (dstUpd (dstUpd (dstUpd e none .nilIface) none .nilIface) none .nilIface) (some 23) (.int .i64 (fld x c.toNat))) h4 = some (.slice (some ⟨h4.next, 0, none⟩) 1 1, h4.new (.cells [.int .i64 (fld x c.toNat)] true 1)) := rfl
    have hel : elemsOf (h4.new (.cells [.int .i64 (fld x c.toNat)] true 1)) 1 (.slice (some ⟨h4.next, 0, none⟩) 1 1) = some ([fld x c.toNat].length, ints64 [fld x c.toNat]) := by
      simp [elemsOf, Heap.cells, new_get', ints64]
    obtain ⟨v', h5, ha, hbs, hown, _⟩ := append_own ho5 (by rw [new_next]; have := hk4.next; omega) hel (by rw [List.length_singleton]; omega)
    refine Wo_op rfl ?_
    refine (Wo_run (fun call => by simp only [List.drop_succ_cons, List.drop_zero, iops_nil, iops_op, iops_grd, iK_some, iG_true, iG_false, gval_bool, beq_true, beq_false, Bool.not_true, Bool.not_false, iop, ev, upd, dstUpd, binV, binI, unV, ptr, Heap.cell, Heap.write, cellsOf, put, args0, partL, List.getD_cons_zero, List.getD_cons_succ, List.length_cons, List.length_nil, List.set_cons_zero, List.set_cons_succ, List.getElem?_cons_zero, List.getElem?_cons_succ, reduceIte, Nat.reduceEqDiff, Nat.reduceAdd, Nat.reduceMul, Nat.reduceLeDiff, Nat.zero_add, Nat.add_zero, Option.map_some, Int.reduceEq, Int.reduceLT, Int.reduceLE, Bool.false_eq_true, decide_true, decide_false, ge_iff_le, gt_iff_lt, set_get', g3, ha]; rfl) ?_)
    refine more _ _ v' (by simp [upd, dstUpd, g1]) (by simp [upd, dstUpd, g10]) (by simp [upd, dstUpd]) ⟨?_, fun b h1 h2 => ?_⟩ (by simpa [lets, h76] using hown)
    · show h3.next ≤ h5.next
      have := hk4.next; have := hbs.next; rw [new_next] at this; omega
    · have := hk4.next
      rw [hbs.get b (by rw [new_next]; omega) h2, new_get_ne' _ _ (by omega), hk4.get b h1]

end Go.Idl
