/- Instructions and functions, whether they are alike: the program's. -/
import Derived.Test.YtfdpknfndjllgaaM1
import Derived.Test.YtfdpknfndjllgaaK3
import Derived.Test.YtfdpknfndjllgaaK5
namespace Go.Idl
set_option linter.unusedVariables false
set_option linter.unusedSimpArgs false

structure InsK where
  op : Int
  a : Int
  b : Int
  c : Int
  k : Int
  l : List Int
  deriving DecidableEq
def Ins.key (x : Ins) : InsK := ⟨x.op, x.a, x.b, x.c, x.k, x.l⟩

theorem C36_eq : C36 = C11 := rfl
theorem C37_eq : C37 = C11 := rfl

theorem eqIns35 {T : Tbl} (hT : T.fn 35 = some C35) (h36 : T.fn 36 = some C36) (x y : Ins) (h : Heap) (hx : x.Ok h) (hy : y.Ok h) (hl : x.l.length < 4611686018427387904) : Wk T (.fn 35) [.agg x.cells.toArray, .agg y.cells.toArray] h (fun o h' => Kept h h' ∧ o = .ret (.bool (decide (x.key = y.key)))) := by
  refine Wk_fn hT (by simp [C35]) ?_
  simp only [C35]
  have hb : iop (.box (.t 0)) (args0 [.agg x.cells.toArray, .agg y.cells.toArray]) h = some (ptr h.next 0, h.new (.cells x.cells true 0)) := by simp [iop, ev, args0, cellsOf]
  have hb2 : iop (.box (.t 1)) (dstUpd (args0 [.agg x.cells.toArray, .agg y.cells.toArray]) (some 2) (ptr h.next 0)) (h.new (.cells x.cells true 0)) = some (ptr (h.next + 1) 0, (h.new (.cells x.cells true 0)).new (.cells y.cells true 0)) := by simp [iop, ev, args0, cellsOf, dstUpd, upd, new_next]
  refine Wc_seq (Wc_ops (Wo_op hb (Wo_op hb2 (Wo_run (fun call => by simp only [List.drop_succ_cons, List.drop_zero, iops_nil, iops_op, iops_grd, iK_some, iG_true, iG_false, gval_bool, beq_true, beq_false, Bool.not_true, Bool.not_false, iop, ev, upd, dstUpd, binV, binI, unV, ptr, Heap.cell, Heap.write, cellsOf, put, args0, partL, List.getD_cons_zero, List.getD_cons_succ, List.length_cons, List.length_nil, List.set_cons_zero, List.set_cons_succ, List.getElem?_cons_zero, List.getElem?_cons_succ, reduceIte, Nat.reduceEqDiff, Nat.reduceAdd, Nat.reduceMul, Nat.reduceLeDiff, Nat.zero_add, Nat.add_zero, Option.map_some, Int.reduceEq, Int.reduceLT, Int.reduceLE, Bool.false_eq_true, decide_true, decide_false, ge_iff_le, gt_iff_lt, set_get']; rfl) ?_))))
  show Wc T _ _ _
  have hg3 : ((h.new (.cells x.cells true 0)).new (.cells y.cells true 0)).get (h.next + 1) = some (.cells y.cells true 0) := new_get' _ _
  have hg2 : ((h.new (.cells x.cells true 0)).new (.cells y.cells true 0)).get h.next = some (.cells x.cells true 0) := by rw [new_get_ne' _ _ (by rw [new_next]; omega), new_get']
  have hk : Kept h ((h.new (.cells x.cells true 0)).new (.cells y.cells true 0)) := ((Kept.refl h).new _).new _
  generalize (h.new (.cells x.cells true 0)).new (.cells y.cells true 0) = h1 at hg2 hg3 hk ⊢
  have fin : ∀ (e : Env) (hp : Heap) (r : Bool), Kept h hp → e 4 = .bool r → decide (x.key = y.key) = r → ((Ex.ret = .normal ∨ Ex.ret = .ret) ∧ some ([] : List Dfr) = some [] ∧ ∃ vs, resAll e hp [.tmp 4] = some vs ∧ Kept h hp ∧ Out.ret (tup vs) = .ret (.bool (decide (x.key = y.key)))) := by
    intro e hp r hk h4 hr
    exact ⟨.inr rfl, rfl, [.bool r], by simp only [resAll, resV, h4], hk, by rw [hr]; rfl⟩
  by_cases c0 : x.op = y.op
  case neg =>
    have d0 : (x.op == y.op) = false := by simpa using c0
    refine Wc_seq (Wc_ops (Wo_run (fun call => by simp only [List.drop_succ_cons, List.drop_zero, iops_nil, iops_op, iops_grd, iK_some, iG_true, iG_false, gval_bool, beq_true, beq_false, Bool.not_true, Bool.not_false, iop, ev, upd, dstUpd, binV, binI, unV, ptr, Heap.cell, Heap.write, cellsOf, put, args0, partL, List.getD_cons_zero, List.getD_cons_succ, List.length_cons, List.length_nil, List.set_cons_zero, List.set_cons_succ, List.getElem?_cons_zero, List.getElem?_cons_succ, reduceIte, Nat.reduceEqDiff, Nat.reduceAdd, Nat.reduceMul, Nat.reduceLeDiff, Nat.zero_add, Nat.add_zero, Option.map_some, Int.reduceEq, Int.reduceLT, Int.reduceLE, Bool.false_eq_true, decide_true, decide_false, ge_iff_le, gt_iff_lt, set_get', hg2, hg3, Ins.cells, d0]; rfl) ?_))
    exact Wc_ret (fin _ _ false hk (by simp [upd, dstUpd]) (by simp [Ins.key, c0]))
  have d0 : (x.op == y.op) = true := by simpa using c0
  by_cases c1 : x.a = y.a
  case neg =>
    have d1 : (x.a == y.a) = false := by simpa using c1
    refine Wc_seq (Wc_ops (Wo_run (fun call => by simp only [List.drop_succ_cons, List.drop_zero, iops_nil, iops_op, iops_grd, iK_some, iG_true, iG_false, gval_bool, beq_true, beq_false, Bool.not_true, Bool.not_false, iop, ev, upd, dstUpd, binV, binI, unV, ptr, Heap.cell, Heap.write, cellsOf, put, args0, partL, List.getD_cons_zero, List.getD_cons_succ, List.length_cons, List.length_nil, List.set_cons_zero, List.set_cons_succ, List.getElem?_cons_zero, List.getElem?_cons_succ, reduceIte, Nat.reduceEqDiff, Nat.reduceAdd, Nat.reduceMul, Nat.reduceLeDiff, Nat.zero_add, Nat.add_zero, Option.map_some, Int.reduceEq, Int.reduceLT, Int.reduceLE, Bool.false_eq_true, decide_true, decide_false, ge_iff_le, gt_iff_lt, set_get', hg2, hg3, Ins.cells, d1, d0]; rfl) ?_))
    exact Wc_ret (fin _ _ false hk (by simp [upd, dstUpd]) (by simp [Ins.key, c1]))
  have d1 : (x.a == y.a) = true := by simpa using c1
  by_cases c2 : x.b = y.b
  case neg =>
    have d2 : (x.b == y.b) = false := by simpa using c2
    refine Wc_seq (Wc_ops (Wo_run (fun call => by simp only [List.drop_succ_cons, List.drop_zero, iops_nil, iops_op, iops_grd, iK_some, iG_true, iG_false, gval_bool, beq_true, beq_false, Bool.not_true, Bool.not_false, iop, ev, upd, dstUpd, binV, binI, unV, ptr, Heap.cell, Heap.write, cellsOf, put, args0, partL, List.getD_cons_zero, List.getD_cons_succ, List.length_cons, List.length_nil, List.set_cons_zero, List.set_cons_succ, List.getElem?_cons_zero, List.getElem?_cons_succ, reduceIte, Nat.reduceEqDiff, Nat.reduceAdd, Nat.reduceMul, Nat.reduceLeDiff, Nat.zero_add, Nat.add_zero, Option.map_some, Int.reduceEq, Int.reduceLT, Int.reduceLE, Bool.false_eq_true, decide_true, decide_false, ge_iff_le, gt_iff_lt, set_get', hg2, hg3, Ins.cells, d2, d0, d1]; rfl) ?_))
    exact Wc_ret (fin _ _ false hk (by simp [upd, dstUpd]) (by simp [Ins.key, c2]))
  have d2 : (x.b == y.b) = true := by simpa using c2
  by_cases c3 : x.c = y.c
  case neg =>
    have d3 : (x.c == y.c) = false := by simpa using c3
    refine Wc_seq (Wc_ops (Wo_run (fun call => by simp only [List.drop_succ_cons, List.drop_zero, iops_nil, iops_op, iops_grd, iK_some, iG_true, iG_false, gval_bool, beq_true, beq_false, Bool.not_true, Bool.not_false, iop, ev, upd, dstUpd, binV, binI, unV, ptr, Heap.cell, Heap.write, cellsOf, put, args0, partL, List.getD_cons_zero, List.getD_cons_succ, List.length_cons, List.length_nil, List.set_cons_zero, List.set_cons_succ, List.getElem?_cons_zero, List.getElem?_cons_succ, reduceIte, Nat.reduceEqDiff, Nat.reduceAdd, Nat.reduceMul, Nat.reduceLeDiff, Nat.zero_add, Nat.add_zero, Option.map_some, Int.reduceEq, Int.reduceLT, Int.reduceLE, Bool.false_eq_true, decide_true, decide_false, ge_iff_le, gt_iff_lt, set_get', hg2, hg3, Ins.cells, d3, d0, d1, d2]; rfl) ?_))
    exact Wc_ret (fin _ _ false hk (by simp [upd, dstUpd]) (by simp [Ins.key, c3]))
  have d3 : (x.c == y.c) = true := by simpa using c3
  by_cases c4 : x.k = y.k
  case neg =>
    have d4 : (x.k == y.k) = false := by simpa using c4
    refine Wc_seq (Wc_ops (Wo_run (fun call => by simp only [List.drop_succ_cons, List.drop_zero, iops_nil, iops_op, iops_grd, iK_some, iG_true, iG_false, gval_bool, beq_true, beq_false, Bool.not_true, Bool.not_false, iop, ev, upd, dstUpd, binV, binI, unV, ptr, Heap.cell, Heap.write, cellsOf, put, args0, partL, List.getD_cons_zero, List.getD_cons_succ, List.length_cons, List.length_nil, List.set_cons_zero, List.set_cons_succ, List.getElem?_cons_zero, List.getElem?_cons_succ, reduceIte, Nat.reduceEqDiff, Nat.reduceAdd, Nat.reduceMul, Nat.reduceLeDiff, Nat.zero_add, Nat.add_zero, Option.map_some, Int.reduceEq, Int.reduceLT, Int.reduceLE, Bool.false_eq_true, decide_true, decide_false, ge_iff_le, gt_iff_lt, set_get', hg2, hg3, Ins.cells, d4, d0, d1, d2, d3]; rfl) ?_))
    exact Wc_ret (fin _ _ false hk (by simp [upd, dstUpd]) (by simp [Ins.key, c4]))
  have d4 : (x.k == y.k) = true := by simpa using c4
  refine Wc_seq (Wc_ops (Wo_pre 38 (fun call => by simp only [List.take_succ_cons, List.take_zero, List.drop_succ_cons, List.drop_zero, iops_nil, iops_op, iops_grd, iK_some, iG_true, iG_false, gval_bool, beq_true, beq_false, Bool.not_true, Bool.not_false, iop, ev, upd, dstUpd, binV, binI, unV, ptr, Heap.cell, Heap.write, cellsOf, put, args0, partL, List.getD_cons_zero, List.getD_cons_succ, List.length_cons, List.length_nil, List.set_cons_zero, List.set_cons_succ, List.getElem?_cons_zero, List.getElem?_cons_succ, reduceIte, Nat.reduceEqDiff, Nat.reduceAdd, Nat.reduceMul, Nat.reduceLeDiff, Nat.zero_add, Nat.add_zero, Option.map_some, Int.reduceEq, Int.reduceLT, Int.reduceLE, Bool.false_eq_true, decide_true, decide_false, ge_iff_le, gt_iff_lt, set_get', hg2, hg3, Ins.cells, d0, d1, d2, d3, d4]; rfl) ?_))
  refine Wo_take (by simp only [dstUpd, upd, reduceIte, Nat.reduceEqDiff, gval_bool]; rfl) (Wo_call ?_)
  show Wk T (.fn 36) [x.lv, y.lv] h1 _
  refine (ints11 (C36_eq ▸ h36) (hx.ints.keep hk) (hy.ints.keep hk) hl).mono fun o h2 ⟨hh2, ho2⟩ => ?_
  subst hh2 ho2
  have hkf := hk
  show Wo T _ _ _
  refine (Wo_run (fun call => by simp only [List.drop_succ_cons, List.drop_zero, iops_nil, iops_op, iops_grd, iK_some, iG_true, iG_false, gval_bool, beq_true, beq_false, Bool.not_true, Bool.not_false, iop, ev, upd, dstUpd, binV, binI, unV, ptr, Heap.cell, Heap.write, cellsOf, put, args0, partL, List.getD_cons_zero, List.getD_cons_succ, List.length_cons, List.length_nil, List.set_cons_zero, List.set_cons_succ, List.getElem?_cons_zero, List.getElem?_cons_succ, reduceIte, Nat.reduceEqDiff, Nat.reduceAdd, Nat.reduceMul, Nat.reduceLeDiff, Nat.zero_add, Nat.add_zero, Option.map_some, Int.reduceEq, Int.reduceLT, Int.reduceLE, Bool.false_eq_true, decide_true, decide_false, ge_iff_le, gt_iff_lt, set_get']; rfl) ?_)
  show Wc T _ _ _
  refine Wc_ret (fin _ _ _ hkf (by simp [upd, dstUpd]; rfl) ?_)
  try simp only [sameK]
  rw [decide_eq_decide]
  simp [Ins.key, c0, c1, c2, c3, c4]

structure Fn where
  name : ByteArray
  params : Int
  regs : Int
  code : List Ins
  cv : Value
def Fn.cells (f : Fn) : List Value := [.string f.name, .int .i64 f.params, .int .i64 f.regs, f.cv]
structure FnK where
  name : ByteArray
  params : Int
  regs : Int
  code : List InsK
  deriving DecidableEq
def Fn.key (f : Fn) : FnK := ⟨f.name, f.params, f.regs, f.code.map Ins.key⟩
def insIn (h : Heap) (x : Ins) : Prop := x.Ok h
structure Fn.Ok (h : Heap) (f : Fn) : Prop where
  code : rowsAt Ins.cells insIn h f.cv f.code
  len : f.code.length ≤ maxLen
  name : f.name.size ≤ maxLen
  params : i64ok f.params
  regs : i64ok f.regs
theorem insIn_keep {h h' : Heap} {x : Ins} (hk : Kept h h') (hx : insIn h x) : insIn h' x := Ins.Ok.keep hk hx
theorem Fn.Ok.keep {h h' : Heap} (hk : Kept h h') {f : Fn} (hf : f.Ok h) : f.Ok h' := ⟨rowsAt.keep (inner := insIn) insIn_keep hk hf.code, hf.len, hf.name, hf.params, hf.regs⟩
def fnIn (h : Heap) (f : Fn) : Prop := f.Ok h
theorem fnIn_keep {h h' : Heap} {x : Fn} (hk : Kept h h') (hx : fnIn h x) : fnIn h' x := Fn.Ok.keep hk hx
structure Cod where
  funcs : List Fn
  fv : Value
  main : Int
  merges : Int
def Cod.cells (c : Cod) : List Value := [c.fv, .int .i64 c.main, .int .i64 c.merges]
structure CodK where
  main : Int
  merges : Int
  funcs : List FnK
  deriving DecidableEq
def Cod.key (c : Cod) : CodK := ⟨c.main, c.merges, c.funcs.map Fn.key⟩
structure Cod.Ok (h : Heap) (c : Cod) : Prop where
  funcs : rowsAt Fn.cells fnIn h c.fv c.funcs
  len : c.funcs.length ≤ maxLen
  main : i64ok c.main
  merges : i64ok c.merges
theorem Cod.Ok.keep {h h' : Heap} (hk : Kept h h') {c : Cod} (hc : c.Ok h) : c.Ok h' := ⟨rowsAt.keep (inner := fnIn) fnIn_keep hk hc.funcs, hc.len, hc.main, hc.merges⟩

/-- Not too much of it. -/
def small (n : Nat) : Prop := n < 4611686018427387904
def Fn.small (f : Fn) : Prop := Idl.small f.code.length ∧ ∀ x ∈ f.code, Idl.small x.l.length
def Cod.small (c : Cod) : Prop := Idl.small c.funcs.length ∧ ∀ f ∈ c.funcs, f.small

theorem insCells_len (x : Ins) : x.cells.length = 6 := rfl
theorem fnCells_len (x : Fn) : x.cells.length = 4 := rfl

theorem eqFn33 {T : Tbl} (hT : T.fn 33 = some C33) (h34 : T.fn 34 = some C34) (h35 : T.fn 35 = some C35) (h36 : T.fn 36 = some C36) (x y : Fn) (h : Heap) (hx : x.Ok h) (hy : y.Ok h) (hs : x.small) : Wk T (.fn 33) [.agg x.cells.toArray, .agg y.cells.toArray] h (fun o h' => Kept h h' ∧ o = .ret (.bool (decide (x.key = y.key)))) := by
  refine Wk_fn hT (by simp [C33]) ?_
  simp only [C33]
  have hb : iop (.box (.t 0)) (args0 [.agg x.cells.toArray, .agg y.cells.toArray]) h = some (ptr h.next 0, h.new (.cells x.cells true 0)) := by simp [iop, ev, args0, cellsOf]
  have hb2 : iop (.box (.t 1)) (dstUpd (args0 [.agg x.cells.toArray, .agg y.cells.toArray]) (some 2) (ptr h.next 0)) (h.new (.cells x.cells true 0)) = some (ptr (h.next + 1) 0, (h.new (.cells x.cells true 0)).new (.cells y.cells true 0)) := by simp [iop, ev, args0, cellsOf, dstUpd, upd, new_next]
  refine Wc_seq (Wc_ops (Wo_op hb (Wo_op hb2 (Wo_run (fun call => by simp only [List.drop_succ_cons, List.drop_zero, iops_nil, iops_op, iops_grd, iK_some, iG_true, iG_false, gval_bool, beq_true, beq_false, Bool.not_true, Bool.not_false, iop, ev, upd, dstUpd, binV, binI, unV, ptr, Heap.cell, Heap.write, cellsOf, put, args0, partL, List.getD_cons_zero, List.getD_cons_succ, List.length_cons, List.length_nil, List.set_cons_zero, List.set_cons_succ, List.getElem?_cons_zero, List.getElem?_cons_succ, reduceIte, Nat.reduceEqDiff, Nat.reduceAdd, Nat.reduceMul, Nat.reduceLeDiff, Nat.zero_add, Nat.add_zero, Option.map_some, Int.reduceEq, Int.reduceLT, Int.reduceLE, Bool.false_eq_true, decide_true, decide_false, ge_iff_le, gt_iff_lt, set_get']; rfl) ?_))))
  show Wc T _ _ _
  have hg3 : ((h.new (.cells x.cells true 0)).new (.cells y.cells true 0)).get (h.next + 1) = some (.cells y.cells true 0) := new_get' _ _
  have hg2 : ((h.new (.cells x.cells true 0)).new (.cells y.cells true 0)).get h.next = some (.cells x.cells true 0) := by rw [new_get_ne' _ _ (by rw [new_next]; omega), new_get']
  have hk : Kept h ((h.new (.cells x.cells true 0)).new (.cells y.cells true 0)) := ((Kept.refl h).new _).new _
  generalize (h.new (.cells x.cells true 0)).new (.cells y.cells true 0) = h1 at hg2 hg3 hk ⊢
  have fin : ∀ (e : Env) (hp : Heap) (r : Bool), Kept h hp → e 4 = .bool r → decide (x.key = y.key) = r → ((Ex.ret = .normal ∨ Ex.ret = .ret) ∧ some ([] : List Dfr) = some [] ∧ ∃ vs, resAll e hp [.tmp 4] = some vs ∧ Kept h hp ∧ Out.ret (tup vs) = .ret (.bool (decide (x.key = y.key)))) := by
    intro e hp r hk h4 hr
    exact ⟨.inr rfl, rfl, [.bool r], by simp only [resAll, resV, h4], hk, by rw [hr]; rfl⟩
  by_cases c0 : x.name = y.name
  case neg =>
    have d0 : (decide (x.name = y.name)) = false := by simpa using c0
    refine Wc_seq (Wc_ops (Wo_run (fun call => by simp only [List.drop_succ_cons, List.drop_zero, iops_nil, iops_op, iops_grd, iK_some, iG_true, iG_false, gval_bool, beq_true, beq_false, Bool.not_true, Bool.not_false, iop, ev, upd, dstUpd, binV, binI, unV, ptr, Heap.cell, Heap.write, cellsOf, put, args0, partL, List.getD_cons_zero, List.getD_cons_succ, List.length_cons, List.length_nil, List.set_cons_zero, List.set_cons_succ, List.getElem?_cons_zero, List.getElem?_cons_succ, reduceIte, Nat.reduceEqDiff, Nat.reduceAdd, Nat.reduceMul, Nat.reduceLeDiff, Nat.zero_add, Nat.add_zero, Option.map_some, Int.reduceEq, Int.reduceLT, Int.reduceLE, Bool.false_eq_true, decide_true, decide_false, ge_iff_le, gt_iff_lt, set_get', hg2, hg3, Fn.cells, d0]; rfl) ?_))
    exact Wc_ret (fin _ _ false hk (by simp [upd, dstUpd]) (by simp [Fn.key, c0]))
  have d0 : (decide (x.name = y.name)) = true := by simpa using c0
  by_cases c1 : x.params = y.params
  case neg =>
    have d1 : (x.params == y.params) = false := by simpa using c1
    refine Wc_seq (Wc_ops (Wo_run (fun call => by simp only [List.drop_succ_cons, List.drop_zero, iops_nil, iops_op, iops_grd, iK_some, iG_true, iG_false, gval_bool, beq_true, beq_false, Bool.not_true, Bool.not_false, iop, ev, upd, dstUpd, binV, binI, unV, ptr, Heap.cell, Heap.write, cellsOf, put, args0, partL, List.getD_cons_zero, List.getD_cons_succ, List.length_cons, List.length_nil, List.set_cons_zero, List.set_cons_succ, List.getElem?_cons_zero, List.getElem?_cons_succ, reduceIte, Nat.reduceEqDiff, Nat.reduceAdd, Nat.reduceMul, Nat.reduceLeDiff, Nat.zero_add, Nat.add_zero, Option.map_some, Int.reduceEq, Int.reduceLT, Int.reduceLE, Bool.false_eq_true, decide_true, decide_false, ge_iff_le, gt_iff_lt, set_get', hg2, hg3, Fn.cells, d1, d0]; rfl) ?_))
    exact Wc_ret (fin _ _ false hk (by simp [upd, dstUpd]) (by simp [Fn.key, c1]))
  have d1 : (x.params == y.params) = true := by simpa using c1
  by_cases c2 : x.regs = y.regs
  case neg =>
    have d2 : (x.regs == y.regs) = false := by simpa using c2
    refine Wc_seq (Wc_ops (Wo_run (fun call => by simp only [List.drop_succ_cons, List.drop_zero, iops_nil, iops_op, iops_grd, iK_some, iG_true, iG_false, gval_bool, beq_true, beq_false, Bool.not_true, Bool.not_false, iop, ev, upd, dstUpd, binV, binI, unV, ptr, Heap.cell, Heap.write, cellsOf, put, args0, partL, List.getD_cons_zero, List.getD_cons_succ, List.length_cons, List.length_nil, List.set_cons_zero, List.set_cons_succ, List.getElem?_cons_zero, List.getElem?_cons_succ, reduceIte, Nat.reduceEqDiff, Nat.reduceAdd, Nat.reduceMul, Nat.reduceLeDiff, Nat.zero_add, Nat.add_zero, Option.map_some, Int.reduceEq, Int.reduceLT, Int.reduceLE, Bool.false_eq_true, decide_true, decide_false, ge_iff_le, gt_iff_lt, set_get', hg2, hg3, Fn.cells, d2, d0, d1]; rfl) ?_))
    exact Wc_ret (fin _ _ false hk (by simp [upd, dstUpd]) (by simp [Fn.key, c2]))
  have d2 : (x.regs == y.regs) = true := by simpa using c2
  refine Wc_seq (Wc_ops (Wo_pre 24 (fun call => by simp only [List.take_succ_cons, List.take_zero, List.drop_succ_cons, List.drop_zero, iops_nil, iops_op, iops_grd, iK_some, iG_true, iG_false, gval_bool, beq_true, beq_false, Bool.not_true, Bool.not_false, iop, ev, upd, dstUpd, binV, binI, unV, ptr, Heap.cell, Heap.write, cellsOf, put, args0, partL, List.getD_cons_zero, List.getD_cons_succ, List.length_cons, List.length_nil, List.set_cons_zero, List.set_cons_succ, List.getElem?_cons_zero, List.getElem?_cons_succ, reduceIte, Nat.reduceEqDiff, Nat.reduceAdd, Nat.reduceMul, Nat.reduceLeDiff, Nat.zero_add, Nat.add_zero, Option.map_some, Int.reduceEq, Int.reduceLT, Int.reduceLE, Bool.false_eq_true, decide_true, decide_false, ge_iff_le, gt_iff_lt, set_get', hg2, hg3, Fn.cells, d0, d1, d2]; rfl) ?_))
  refine Wo_take (by simp only [dstUpd, upd, reduceIte, Nat.reduceEqDiff, gval_bool]; rfl) (Wo_call ?_)
  show Wk T (.fn 34) [x.cv, y.cv, .func (.func 35) #[] #[]] h1 _
  refine (equalFunc (cells := Ins.cells) (inner := insIn) Ins.key (C34_eq ▸ h34) insCells_len rfl insIn_keep ((hx.keep hk).code) ((hy.keep hk).code) hs.1 (fun h a b ha hb ia ib => eqIns35 h35 h36 a b h ia ib (hs.2 a ha))).mono fun o h2 ⟨hk2, ho2⟩ => ?_
  subst ho2
  have hkf := hk.trans hk2
  show Wo T _ _ _
  refine (Wo_run (fun call => by simp only [List.drop_succ_cons, List.drop_zero, iops_nil, iops_op, iops_grd, iK_some, iG_true, iG_false, gval_bool, beq_true, beq_false, Bool.not_true, Bool.not_false, iop, ev, upd, dstUpd, binV, binI, unV, ptr, Heap.cell, Heap.write, cellsOf, put, args0, partL, List.getD_cons_zero, List.getD_cons_succ, List.length_cons, List.length_nil, List.set_cons_zero, List.set_cons_succ, List.getElem?_cons_zero, List.getElem?_cons_succ, reduceIte, Nat.reduceEqDiff, Nat.reduceAdd, Nat.reduceMul, Nat.reduceLeDiff, Nat.zero_add, Nat.add_zero, Option.map_some, Int.reduceEq, Int.reduceLT, Int.reduceLE, Bool.false_eq_true, decide_true, decide_false, ge_iff_le, gt_iff_lt, set_get']; rfl) ?_)
  show Wc T _ _ _
  refine Wc_ret (fin _ _ _ hkf (by simp [upd, dstUpd]; rfl) ?_)
  try simp only [sameK]
  rw [decide_eq_decide]
  simp [Fn.key, c0, c1, c2]

theorem same18 {T : Tbl} (hT : T.fn 18 = some C18) (h32 : T.fn 32 = some C32) (h33 : T.fn 33 = some C33) (h34 : T.fn 34 = some C34) (h35 : T.fn 35 = some C35) (h36 : T.fn 36 = some C36) (x y : Cod) (h : Heap) (hx : x.Ok h) (hy : y.Ok h) (hs : x.small) : Wk T (.fn 18) [.agg x.cells.toArray, .agg y.cells.toArray] h (fun o h' => Kept h h' ∧ o = .ret (.bool (decide (x.key = y.key)))) := by
  refine Wk_fn hT (by simp [C18]) ?_
  simp only [C18]
  have hb : iop (.box (.t 0)) (args0 [.agg x.cells.toArray, .agg y.cells.toArray]) h = some (ptr h.next 0, h.new (.cells x.cells true 0)) := by simp [iop, ev, args0, cellsOf]
  have hb2 : iop (.box (.t 1)) (dstUpd (args0 [.agg x.cells.toArray, .agg y.cells.toArray]) (some 2) (ptr h.next 0)) (h.new (.cells x.cells true 0)) = some (ptr (h.next + 1) 0, (h.new (.cells x.cells true 0)).new (.cells y.cells true 0)) := by simp [iop, ev, args0, cellsOf, dstUpd, upd, new_next]
  refine Wc_seq (Wc_ops (Wo_op hb (Wo_op hb2 (Wo_run (fun call => by simp only [List.drop_succ_cons, List.drop_zero, iops_nil, iops_op, iops_grd, iK_some, iG_true, iG_false, gval_bool, beq_true, beq_false, Bool.not_true, Bool.not_false, iop, ev, upd, dstUpd, binV, binI, unV, ptr, Heap.cell, Heap.write, cellsOf, put, args0, partL, List.getD_cons_zero, List.getD_cons_succ, List.length_cons, List.length_nil, List.set_cons_zero, List.set_cons_succ, List.getElem?_cons_zero, List.getElem?_cons_succ, reduceIte, Nat.reduceEqDiff, Nat.reduceAdd, Nat.reduceMul, Nat.reduceLeDiff, Nat.zero_add, Nat.add_zero, Option.map_some, Int.reduceEq, Int.reduceLT, Int.reduceLE, Bool.false_eq_true, decide_true, decide_false, ge_iff_le, gt_iff_lt, set_get']; rfl) ?_))))
  show Wc T _ _ _
  have hg3 : ((h.new (.cells x.cells true 0)).new (.cells y.cells true 0)).get (h.next + 1) = some (.cells y.cells true 0) := new_get' _ _
  have hg2 : ((h.new (.cells x.cells true 0)).new (.cells y.cells true 0)).get h.next = some (.cells x.cells true 0) := by rw [new_get_ne' _ _ (by rw [new_next]; omega), new_get']
  have hk : Kept h ((h.new (.cells x.cells true 0)).new (.cells y.cells true 0)) := ((Kept.refl h).new _).new _
  generalize (h.new (.cells x.cells true 0)).new (.cells y.cells true 0) = h1 at hg2 hg3 hk ⊢
  have fin : ∀ (e : Env) (hp : Heap) (r : Bool), Kept h hp → e 4 = .bool r → decide (x.key = y.key) = r → ((Ex.ret = .normal ∨ Ex.ret = .ret) ∧ some ([] : List Dfr) = some [] ∧ ∃ vs, resAll e hp [.tmp 4] = some vs ∧ Kept h hp ∧ Out.ret (tup vs) = .ret (.bool (decide (x.key = y.key)))) := by
    intro e hp r hk h4 hr
    exact ⟨.inr rfl, rfl, [.bool r], by simp only [resAll, resV, h4], hk, by rw [hr]; rfl⟩
  by_cases c0 : x.main = y.main
  case neg =>
    have d0 : (x.main == y.main) = false := by simpa using c0
    refine Wc_seq (Wc_ops (Wo_run (fun call => by simp only [List.drop_succ_cons, List.drop_zero, iops_nil, iops_op, iops_grd, iK_some, iG_true, iG_false, gval_bool, beq_true, beq_false, Bool.not_true, Bool.not_false, iop, ev, upd, dstUpd, binV, binI, unV, ptr, Heap.cell, Heap.write, cellsOf, put, args0, partL, List.getD_cons_zero, List.getD_cons_succ, List.length_cons, List.length_nil, List.set_cons_zero, List.set_cons_succ, List.getElem?_cons_zero, List.getElem?_cons_succ, reduceIte, Nat.reduceEqDiff, Nat.reduceAdd, Nat.reduceMul, Nat.reduceLeDiff, Nat.zero_add, Nat.add_zero, Option.map_some, Int.reduceEq, Int.reduceLT, Int.reduceLE, Bool.false_eq_true, decide_true, decide_false, ge_iff_le, gt_iff_lt, set_get', hg2, hg3, Cod.cells, d0]; rfl) ?_))
    exact Wc_ret (fin _ _ false hk (by simp [upd, dstUpd]) (by simp [Cod.key, c0]))
  have d0 : (x.main == y.main) = true := by simpa using c0
  by_cases c1 : x.merges = y.merges
  case neg =>
    have d1 : (x.merges == y.merges) = false := by simpa using c1
    refine Wc_seq (Wc_ops (Wo_run (fun call => by simp only [List.drop_succ_cons, List.drop_zero, iops_nil, iops_op, iops_grd, iK_some, iG_true, iG_false, gval_bool, beq_true, beq_false, Bool.not_true, Bool.not_false, iop, ev, upd, dstUpd, binV, binI, unV, ptr, Heap.cell, Heap.write, cellsOf, put, args0, partL, List.getD_cons_zero, List.getD_cons_succ, List.length_cons, List.length_nil, List.set_cons_zero, List.set_cons_succ, List.getElem?_cons_zero, List.getElem?_cons_succ, reduceIte, Nat.reduceEqDiff, Nat.reduceAdd, Nat.reduceMul, Nat.reduceLeDiff, Nat.zero_add, Nat.add_zero, Option.map_some, Int.reduceEq, Int.reduceLT, Int.reduceLE, Bool.false_eq_true, decide_true, decide_false, ge_iff_le, gt_iff_lt, set_get', hg2, hg3, Cod.cells, d1, d0]; rfl) ?_))
    exact Wc_ret (fin _ _ false hk (by simp [upd, dstUpd]) (by simp [Cod.key, c1]))
  have d1 : (x.merges == y.merges) = true := by simpa using c1
  refine Wc_seq (Wc_ops (Wo_pre 17 (fun call => by simp only [List.take_succ_cons, List.take_zero, List.drop_succ_cons, List.drop_zero, iops_nil, iops_op, iops_grd, iK_some, iG_true, iG_false, gval_bool, beq_true, beq_false, Bool.not_true, Bool.not_false, iop, ev, upd, dstUpd, binV, binI, unV, ptr, Heap.cell, Heap.write, cellsOf, put, args0, partL, List.getD_cons_zero, List.getD_cons_succ, List.length_cons, List.length_nil, List.set_cons_zero, List.set_cons_succ, List.getElem?_cons_zero, List.getElem?_cons_succ, reduceIte, Nat.reduceEqDiff, Nat.reduceAdd, Nat.reduceMul, Nat.reduceLeDiff, Nat.zero_add, Nat.add_zero, Option.map_some, Int.reduceEq, Int.reduceLT, Int.reduceLE, Bool.false_eq_true, decide_true, decide_false, ge_iff_le, gt_iff_lt, set_get', hg2, hg3, Cod.cells, d0, d1]; rfl) ?_))
  refine Wo_take (by simp only [dstUpd, upd, reduceIte, Nat.reduceEqDiff, gval_bool]; rfl) (Wo_call ?_)
  show Wk T (.fn 32) [x.fv, y.fv, .func (.func 33) #[] #[]] h1 _
  refine (equalFunc (cells := Fn.cells) (inner := fnIn) Fn.key (C32_eq ▸ h32) fnCells_len rfl fnIn_keep ((hx.keep hk).funcs) ((hy.keep hk).funcs) hs.1 (fun h a b ha hb ia ib => eqFn33 h33 h34 h35 h36 a b h ia ib (hs.2 a ha))).mono fun o h2 ⟨hk2, ho2⟩ => ?_
  subst ho2
  have hkf := hk.trans hk2
  show Wo T _ _ _
  refine (Wo_run (fun call => by simp only [List.drop_succ_cons, List.drop_zero, iops_nil, iops_op, iops_grd, iK_some, iG_true, iG_false, gval_bool, beq_true, beq_false, Bool.not_true, Bool.not_false, iop, ev, upd, dstUpd, binV, binI, unV, ptr, Heap.cell, Heap.write, cellsOf, put, args0, partL, List.getD_cons_zero, List.getD_cons_succ, List.length_cons, List.length_nil, List.set_cons_zero, List.set_cons_succ, List.getElem?_cons_zero, List.getElem?_cons_succ, reduceIte, Nat.reduceEqDiff, Nat.reduceAdd, Nat.reduceMul, Nat.reduceLeDiff, Nat.zero_add, Nat.add_zero, Option.map_some, Int.reduceEq, Int.reduceLT, Int.reduceLE, Bool.false_eq_true, decide_true, decide_false, ge_iff_le, gt_iff_lt, set_get']; rfl) ?_)
  show Wc T _ _ _
  refine Wc_ret (fin _ _ _ hkf (by simp [upd, dstUpd]; rfl) ?_)
  try simp only [sameK]
  rw [decide_eq_decide]
  simp [Cod.key, c0, c1]


end Go.Idl
