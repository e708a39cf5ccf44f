/- IrChecks: for any code (bulk at most 1048576, as the narrowed statement says) the law's call answers true and leaves its arguments as they were. -/
import Derived.Test.YtfdpknfndjllgaaP8
import Derived.Test.YtfdpknfndjllgaaP3
import Derived.Test.YtfdpknfndjllgaaM3
import Derived.Test.YtfdpknfndjllgaaRows
import Derived.WalkKit
import Derived.ProofKit
import Derived.OpenShut
import Derived.JoinedCond
import Derived.Test.YtfdpknfndjllgaaI20
section
/- The reference: Check. (Printed by wip/tools/mkp9.py.) -/
namespace Go.Idl
set_option linter.unusedVariables false
set_option linter.unusedSimpArgs false
set_option maxRecDepth 100000

/-- What stays in the reference's Check. -/
structure F10 (h1 : Heap) (n0 : Nat) (seen : List Int) (e : Env) (hp : Heap) : Prop where
  k : Kept h1 hp
  e1 : e 1 = ptr n0 0
  own : ownI h1.next hp (e 5) seen

theorem F10.upd {h1 : Heap} {n0 : Nat} {seen : List Int} {e : Env} {hp : Heap} (F : F10 h1 n0 seen e hp) {j : Nat} {v : Value} (hj : j ≠ 1 ∧ j ≠ 5) : F10 h1 n0 seen (upd e j v) hp := by
  obtain ⟨k, e1, own⟩ := F
  refine ⟨k, ?_, ?_⟩
  · simp only [Go.Idl.upd]; rw [if_neg (by omega)]; exact e1
  · simp only [Go.Idl.upd]; rw [if_neg (by omega)]; exact own
theorem ownI.kept {n0 : Nat} {h h' : Heap} {v : Value} {l : List Int} (ho : ownI n0 h v l) (hk : Kept h h') : ownI n0 h' v l := ho.keep hk.next (fun b _ hb => hk.get b hb)
theorem F10.heap {h1 : Heap} {n0 : Nat} {seen : List Int} {e : Env} {hp hq : Heap} (F : F10 h1 n0 seen e hp) (hk : Kept hp hq) : F10 h1 n0 seen e hq := ⟨F.k.trans hk, F.e1, F.own.kept hk⟩
theorem ownI.ne {n0 : Nat} {h : Heap} {v : Value} {l : List Int} (ho : ownI n0 h v l) : ∀ p n c, v = .slice (some p) n c → p.block < h.next := ho.ints.block_lt

abbrev Ins23 (T : Tbl) : Prop := ∀ {h : Heap} {c : Cod} {f : Fn} {x : Ins} {at' : Nat}, c.Ok h → f.Ok h → f.code[at']? = some x →
    Wk T (.fn 23) [.agg c.cells.toArray, .agg f.cells.toArray, .int .i64 at'] h (fun o h' => Kept h h' ∧ o = .ret (.bool (insB c f x at')))

theorem check10 {T : Tbl} (hT : T.fn 10 = some C10) (h23 : Ins23 T) (h24 : T.fn 24 = some C24) {c : Cod} {h : Heap} (hc : c.Ok h) (hsz : fnsSize c.funcs ≤ 5000000) :
    Wk T (.fn 10) [.agg c.cells.toArray] h (fun o h' => Kept h h' ∧ o = .ret (resC (chk c))) := by
  refine Wk_fn hT (by simp [C10]) ?_
  simp only [C10]
  have hbx : iop (.box (.t 0)) (args0 [.agg c.cells.toArray]) h = some (ptr h.next 0, h.new (.cells c.cells true 0)) := by simp [iop, ev, args0, cellsOf]
  refine Wc_seq (Wc_ops (Wo_op hbx (Wo_run (fun call => by simp only [List.drop_succ_cons, List.drop_zero, iops_nil, iops_op, iops_grd, iK_some, iG_true, iG_false, gval_bool, beq_true, beq_false, Bool.not_true, Bool.not_false, iop, ev, upd, dstUpd, binV, binI, unV, ptr, Heap.cell, Heap.write, cellsOf, put, args0, partL, List.getD_cons_zero, List.getD_cons_succ, List.length_cons, List.length_nil, List.set_cons_zero, List.set_cons_succ, List.getElem?_cons_zero, List.getElem?_cons_succ, reduceIte, Nat.reduceEqDiff, Nat.reduceAdd, Nat.reduceMul, Nat.reduceLeDiff, Nat.zero_add, Nat.add_zero, Option.map_some, Int.reduceEq, Int.reduceLT, Int.reduceLE, Bool.false_eq_true, decide_true, decide_false, ge_iff_le, gt_iff_lt, set_get']; rfl) ?_)))
  show Wc T _ _ _
  have g1' : (h.new (.cells c.cells true 0)).get h.next = some (.cells c.cells true 0) := new_get' _ _
  have hk : Kept h (h.new (.cells c.cells true 0)) := (Kept.refl h).new _
  have hn1 : (h.new (.cells c.cells true 0)).next = h.next + 1 := rfl
  generalize h.new (.cells c.cells true 0) = h1 at g1' hk hn1 ⊢
  have g1 : ∀ {hq : Heap}, Kept h1 hq → hq.get h.next = some (.cells c.cells true 0) := fun k => by rw [k.get _ (by omega)]; exact g1'
  obtain ⟨pf, cf, hfv⟩ := hc.funcs.len
  have hcl := hc.len
  have fin : ∀ (e : Env) (hq : Heap) (n k b : Int), Kept h1 hq → e 2 = .int .i64 n → e 3 = .int .i64 k → e 4 = .int .i64 b → resC (chk c) = .tuple #[.int .i64 n, .int .i64 k, .int .i64 b] → ((Ex.ret = .normal ∨ Ex.ret = .ret) ∧ some ([] : List Dfr) = some [] ∧ ∃ vs, resAll e hq [.tmp 2, .tmp 3, .tmp 4] = some vs ∧ Kept h hq ∧ Out.ret (tup vs) = .ret (resC (chk c))) := by
    intro e hq n k b hkq e2 e3 e4 hr
    exact ⟨.inr rfl, rfl, [.int .i64 n, .int .i64 k, .int .i64 b], by simp only [resAll, resV, e2, e3, e4], hk.trans hkq, by rw [hr]; rfl⟩
  -- the head
  refine Wc_mid (fun s => s.d = some [] ∧ s.h = h1 ∧ s.e 1 = ptr h.next 0 ∧ headC c = true) ?_ ?_
  · have badH : ∀ (e : Env), e 2 = .int .i64 0 → e 3 = .int .i64 0 → e 4 = .int .i64 100 → headC c = false → ((Ex.ret = .normal ∨ Ex.ret = .ret) ∧ some ([] : List Dfr) = some [] ∧ ∃ vs, resAll e h1 [.tmp 2, .tmp 3, .tmp 4] = some vs ∧ Kept h h1 ∧ Out.ret (tup vs) = .ret (resC (chk c))) :=
      fun e a b c hh => fin e h1 0 0 100 (.refl _) a b c (by simp [chk, hh, resC])
    by_cases q0 : c.funcs.length = 0
    · have z0 : ((c.funcs.length : Int) == 0) = true := by simp only [beq_iff_eq]; omega
      refine Wc_seq (Wc_ops (Wo_run (fun call => by simp only [List.drop_succ_cons, List.drop_zero, iops_nil, iops_op, iops_grd, iK_some, iG_true, iG_false, gval_bool, beq_true, beq_false, Bool.not_true, Bool.not_false, iop, ev, upd, dstUpd, binV, binI, unV, ptr, Heap.cell, Heap.write, cellsOf, put, args0, partL, List.getD_cons_zero, List.getD_cons_succ, List.length_cons, List.length_nil, List.set_cons_zero, List.set_cons_succ, List.getElem?_cons_zero, List.getElem?_cons_succ, reduceIte, Nat.reduceEqDiff, Nat.reduceAdd, Nat.reduceMul, Nat.reduceLeDiff, Nat.zero_add, Nat.add_zero, Option.map_some, Int.reduceEq, Int.reduceLT, Int.reduceLE, Bool.false_eq_true, decide_true, decide_false, ge_iff_le, gt_iff_lt, set_get', g1', Cod.cells, hfv, z0]; rfl) ?_))
      show Wc T _ _ _
      refine Wc_cond true (by simp [ev, upd, dstUpd]) (fun _ => ?_) (fun h => by cases h)
      refine Wc_seq (Wc_ops (Wo_run (fun call => by simp only [List.drop_succ_cons, List.drop_zero, iops_nil, iops_op, iops_grd, iK_some, iG_true, iG_false, gval_bool, beq_true, beq_false, Bool.not_true, Bool.not_false, iop, ev, upd, dstUpd, binV, binI, unV, ptr, Heap.cell, Heap.write, cellsOf, put, args0, partL, List.getD_cons_zero, List.getD_cons_succ, List.length_cons, List.length_nil, List.set_cons_zero, List.set_cons_succ, List.getElem?_cons_zero, List.getElem?_cons_succ, reduceIte, Nat.reduceEqDiff, Nat.reduceAdd, Nat.reduceMul, Nat.reduceLeDiff, Nat.zero_add, Nat.add_zero, Option.map_some, Int.reduceEq, Int.reduceLT, Int.reduceLE, Bool.false_eq_true, decide_true, decide_false, ge_iff_le, gt_iff_lt, set_get']; rfl) ?_))
      refine Wc_ret (badH _ (by simp [upd]) (by simp [upd]) (by simp [upd]) ?_)
      simp only [headC, show decide (0 < c.funcs.length ∧ 0 ≤ c.main ∧ c.main < c.funcs.length ∧ 0 ≤ c.merges) = false from by simp only [decide_eq_false_iff_not]; omega, Bool.false_and]
    have p0 : ((c.funcs.length : Int) == 0) = false := by simp only [beq_eq_false_iff_ne, ne_eq]; omega
    by_cases q1 : c.main < 0
    · have z1 : (decide (c.main < 0)) = true := by simp only [decide_eq_true_eq]; omega
      refine Wc_seq (Wc_ops (Wo_run (fun call => by simp only [List.drop_succ_cons, List.drop_zero, iops_nil, iops_op, iops_grd, iK_some, iG_true, iG_false, gval_bool, beq_true, beq_false, Bool.not_true, Bool.not_false, iop, ev, upd, dstUpd, binV, binI, unV, ptr, Heap.cell, Heap.write, cellsOf, put, args0, partL, List.getD_cons_zero, List.getD_cons_succ, List.length_cons, List.length_nil, List.set_cons_zero, List.set_cons_succ, List.getElem?_cons_zero, List.getElem?_cons_succ, reduceIte, Nat.reduceEqDiff, Nat.reduceAdd, Nat.reduceMul, Nat.reduceLeDiff, Nat.zero_add, Nat.add_zero, Option.map_some, Int.reduceEq, Int.reduceLT, Int.reduceLE, Bool.false_eq_true, decide_true, decide_false, ge_iff_le, gt_iff_lt, set_get', g1', Cod.cells, hfv, p0, z1]; rfl) ?_))
      show Wc T _ _ _
      refine Wc_cond true (by simp [ev, upd, dstUpd]) (fun _ => ?_) (fun h => by cases h)
      refine Wc_seq (Wc_ops (Wo_run (fun call => by simp only [List.drop_succ_cons, List.drop_zero, iops_nil, iops_op, iops_grd, iK_some, iG_true, iG_false, gval_bool, beq_true, beq_false, Bool.not_true, Bool.not_false, iop, ev, upd, dstUpd, binV, binI, unV, ptr, Heap.cell, Heap.write, cellsOf, put, args0, partL, List.getD_cons_zero, List.getD_cons_succ, List.length_cons, List.length_nil, List.set_cons_zero, List.set_cons_succ, List.getElem?_cons_zero, List.getElem?_cons_succ, reduceIte, Nat.reduceEqDiff, Nat.reduceAdd, Nat.reduceMul, Nat.reduceLeDiff, Nat.zero_add, Nat.add_zero, Option.map_some, Int.reduceEq, Int.reduceLT, Int.reduceLE, Bool.false_eq_true, decide_true, decide_false, ge_iff_le, gt_iff_lt, set_get']; rfl) ?_))
      refine Wc_ret (badH _ (by simp [upd]) (by simp [upd]) (by simp [upd]) ?_)
      simp only [headC, show decide (0 < c.funcs.length ∧ 0 ≤ c.main ∧ c.main < c.funcs.length ∧ 0 ≤ c.merges) = false from by simp only [decide_eq_false_iff_not]; omega, Bool.false_and]
    have p1 : (decide (c.main < 0)) = false := by simp only [decide_eq_false_iff_not]; omega
    by_cases q2 : (c.funcs.length : Int) ≤ c.main
    · have z2 : (decide ((c.funcs.length : Int) ≤ c.main)) = true := by simp only [decide_eq_true_eq]; omega
      refine Wc_seq (Wc_ops (Wo_run (fun call => by simp only [List.drop_succ_cons, List.drop_zero, iops_nil, iops_op, iops_grd, iK_some, iG_true, iG_false, gval_bool, beq_true, beq_false, Bool.not_true, Bool.not_false, iop, ev, upd, dstUpd, binV, binI, unV, ptr, Heap.cell, Heap.write, cellsOf, put, args0, partL, List.getD_cons_zero, List.getD_cons_succ, List.length_cons, List.length_nil, List.set_cons_zero, List.set_cons_succ, List.getElem?_cons_zero, List.getElem?_cons_succ, reduceIte, Nat.reduceEqDiff, Nat.reduceAdd, Nat.reduceMul, Nat.reduceLeDiff, Nat.zero_add, Nat.add_zero, Option.map_some, Int.reduceEq, Int.reduceLT, Int.reduceLE, Bool.false_eq_true, decide_true, decide_false, ge_iff_le, gt_iff_lt, set_get', g1', Cod.cells, hfv, p0, p1, z2]; rfl) ?_))
      show Wc T _ _ _
      refine Wc_cond true (by simp [ev, upd, dstUpd]) (fun _ => ?_) (fun h => by cases h)
      refine Wc_seq (Wc_ops (Wo_run (fun call => by simp only [List.drop_succ_cons, List.drop_zero, iops_nil, iops_op, iops_grd, iK_some, iG_true, iG_false, gval_bool, beq_true, beq_false, Bool.not_true, Bool.not_false, iop, ev, upd, dstUpd, binV, binI, unV, ptr, Heap.cell, Heap.write, cellsOf, put, args0, partL, List.getD_cons_zero, List.getD_cons_succ, List.length_cons, List.length_nil, List.set_cons_zero, List.set_cons_succ, List.getElem?_cons_zero, List.getElem?_cons_succ, reduceIte, Nat.reduceEqDiff, Nat.reduceAdd, Nat.reduceMul, Nat.reduceLeDiff, Nat.zero_add, Nat.add_zero, Option.map_some, Int.reduceEq, Int.reduceLT, Int.reduceLE, Bool.false_eq_true, decide_true, decide_false, ge_iff_le, gt_iff_lt, set_get']; rfl) ?_))
      refine Wc_ret (badH _ (by simp [upd]) (by simp [upd]) (by simp [upd]) ?_)
      simp only [headC, show decide (0 < c.funcs.length ∧ 0 ≤ c.main ∧ c.main < c.funcs.length ∧ 0 ≤ c.merges) = false from by simp only [decide_eq_false_iff_not]; omega, Bool.false_and]
    have p2 : (decide ((c.funcs.length : Int) ≤ c.main)) = false := by simp only [decide_eq_false_iff_not]; omega
    obtain ⟨g, hg⟩ : ∃ g, c.funcs[c.main.toNat]? = some g := ⟨_, List.getElem?_eq_getElem (by omega)⟩
    obtain ⟨bf, cf2, hfv2, hbf, ⟨of, zf, hgf⟩, _, hgin⟩ := ((hc.keep hk).funcs).load fnCells_len hg
    have hidx : idxV c.funcs.length (.int .i64 c.main) = some c.main.toNat := by simp only [idxV]; rw [if_pos (by omega)]
    have hgq : (c.funcs.flatMap Fn.cells)[c.main.toNat * 4 + 1]? = some (.int .i64 g.params) := by
      have := flat_drop fnCells_len c.funcs c.main.toNat g hg
      have h2 : ((c.funcs.flatMap Fn.cells).drop (c.main.toNat * 4))[1]? = (((c.funcs.flatMap Fn.cells).drop (c.main.toNat * 4)).take 4)[1]? := by rw [List.getElem?_take_of_lt (by omega)]
      rw [this, List.getElem?_drop] at h2
      rw [h2]; rfl
    have hhead : headC c = (decide (0 ≤ c.merges) && decide (g.params = 0)) := by
      by_cases hm : 0 ≤ c.merges
      · simp only [headC, show decide (0 < c.funcs.length ∧ 0 ≤ c.main ∧ c.main < c.funcs.length ∧ 0 ≤ c.merges) = true from by simp only [decide_eq_true_eq]; omega, Bool.true_and, hg, Option.map_some, Option.getD_some]; rw [decide_eq_true hm]; rfl
      · simp only [headC, show decide (0 < c.funcs.length ∧ 0 ≤ c.main ∧ c.main < c.funcs.length ∧ 0 ≤ c.merges) = false from by simp only [decide_eq_false_iff_not]; omega, Bool.false_and]; rw [decide_eq_false hm]; rfl
    by_cases q3 : g.params = 0
    case neg =>
      have z3 : (g.params != 0) = true := by simpa using q3
      refine Wc_seq (Wc_ops (Wo_run (fun call => by simp only [List.drop_succ_cons, List.drop_zero, iops_nil, iops_op, iops_grd, iK_some, iG_true, iG_false, gval_bool, beq_true, beq_false, Bool.not_true, Bool.not_false, iop, ev, upd, dstUpd, binV, binI, unV, ptr, Heap.cell, Heap.write, cellsOf, put, args0, partL, List.getD_cons_zero, List.getD_cons_succ, List.length_cons, List.length_nil, List.set_cons_zero, List.set_cons_succ, List.getElem?_cons_zero, List.getElem?_cons_succ, reduceIte, Nat.reduceEqDiff, Nat.reduceAdd, Nat.reduceMul, Nat.reduceLeDiff, Nat.zero_add, Nat.add_zero, Option.map_some, Int.reduceEq, Int.reduceLT, Int.reduceLE, Bool.false_eq_true, decide_true, decide_false, ge_iff_le, gt_iff_lt, set_get', g1', Cod.cells, hfv2, hidx, hgf, hgq, p0, p1, p2, z3]; rfl) ?_))
      show Wc T _ _ _
      refine Wc_cond true (by simp [ev, upd, dstUpd]) (fun _ => ?_) (fun h => by cases h)
      refine Wc_seq (Wc_ops (Wo_run (fun call => by simp only [List.drop_succ_cons, List.drop_zero, iops_nil, iops_op, iops_grd, iK_some, iG_true, iG_false, gval_bool, beq_true, beq_false, Bool.not_true, Bool.not_false, iop, ev, upd, dstUpd, binV, binI, unV, ptr, Heap.cell, Heap.write, cellsOf, put, args0, partL, List.getD_cons_zero, List.getD_cons_succ, List.length_cons, List.length_nil, List.set_cons_zero, List.set_cons_succ, List.getElem?_cons_zero, List.getElem?_cons_succ, reduceIte, Nat.reduceEqDiff, Nat.reduceAdd, Nat.reduceMul, Nat.reduceLeDiff, Nat.zero_add, Nat.add_zero, Option.map_some, Int.reduceEq, Int.reduceLT, Int.reduceLE, Bool.false_eq_true, decide_true, decide_false, ge_iff_le, gt_iff_lt, set_get']; rfl) ?_))
      refine Wc_ret (badH _ (by simp [upd]) (by simp [upd]) (by simp [upd]) ?_)
      rw [hhead]; simp [q3]
    have p3 : (g.params != 0) = false := by simpa using q3
    by_cases q4 : c.merges < 0
    · have z4 : decide (c.merges < 0) = true := by simpa using q4
      refine Wc_seq (Wc_ops (Wo_run (fun call => by simp only [List.drop_succ_cons, List.drop_zero, iops_nil, iops_op, iops_grd, iK_some, iG_true, iG_false, gval_bool, beq_true, beq_false, Bool.not_true, Bool.not_false, iop, ev, upd, dstUpd, binV, binI, unV, ptr, Heap.cell, Heap.write, cellsOf, put, args0, partL, List.getD_cons_zero, List.getD_cons_succ, List.length_cons, List.length_nil, List.set_cons_zero, List.set_cons_succ, List.getElem?_cons_zero, List.getElem?_cons_succ, reduceIte, Nat.reduceEqDiff, Nat.reduceAdd, Nat.reduceMul, Nat.reduceLeDiff, Nat.zero_add, Nat.add_zero, Option.map_some, Int.reduceEq, Int.reduceLT, Int.reduceLE, Bool.false_eq_true, decide_true, decide_false, ge_iff_le, gt_iff_lt, set_get', g1', Cod.cells, hfv2, hidx, hgf, hgq, p0, p1, p2, p3, z4]; rfl) ?_))
      show Wc T _ _ _
      refine Wc_cond true (by simp [ev, upd, dstUpd]) (fun _ => ?_) (fun h => by cases h)
      refine Wc_seq (Wc_ops (Wo_run (fun call => by simp only [List.drop_succ_cons, List.drop_zero, iops_nil, iops_op, iops_grd, iK_some, iG_true, iG_false, gval_bool, beq_true, beq_false, Bool.not_true, Bool.not_false, iop, ev, upd, dstUpd, binV, binI, unV, ptr, Heap.cell, Heap.write, cellsOf, put, args0, partL, List.getD_cons_zero, List.getD_cons_succ, List.length_cons, List.length_nil, List.set_cons_zero, List.set_cons_succ, List.getElem?_cons_zero, List.getElem?_cons_succ, reduceIte, Nat.reduceEqDiff, Nat.reduceAdd, Nat.reduceMul, Nat.reduceLeDiff, Nat.zero_add, Nat.add_zero, Option.map_some, Int.reduceEq, Int.reduceLT, Int.reduceLE, Bool.false_eq_true, decide_true, decide_false, ge_iff_le, gt_iff_lt, set_get']; rfl) ?_))
      refine Wc_ret (badH _ (by simp [upd]) (by simp [upd]) (by simp [upd]) ?_)
      rw [hhead, show decide (0 ≤ c.merges) = false from by simp only [decide_eq_false_iff_not]; omega]; rfl
    have p4 : decide (c.merges < 0) = false := by simpa using q4
    refine Wc_seq (Wc_ops (Wo_run (fun call => by simp only [List.drop_succ_cons, List.drop_zero, iops_nil, iops_op, iops_grd, iK_some, iG_true, iG_false, gval_bool, beq_true, beq_false, Bool.not_true, Bool.not_false, iop, ev, upd, dstUpd, binV, binI, unV, ptr, Heap.cell, Heap.write, cellsOf, put, args0, partL, List.getD_cons_zero, List.getD_cons_succ, List.length_cons, List.length_nil, List.set_cons_zero, List.set_cons_succ, List.getElem?_cons_zero, List.getElem?_cons_succ, reduceIte, Nat.reduceEqDiff, Nat.reduceAdd, Nat.reduceMul, Nat.reduceLeDiff, Nat.zero_add, Nat.add_zero, Option.map_some, Int.reduceEq, Int.reduceLT, Int.reduceLE, Bool.false_eq_true, decide_true, decide_false, ge_iff_le, gt_iff_lt, set_get', g1', Cod.cells, hfv2, hidx, hgf, hgq, p0, p1, p2, p3, p4]; rfl) ?_))
    show Wc T _ _ _
    refine Wc_cond false (by simp [ev, upd, dstUpd]) (fun h => by cases h) (fun _ => Wc_skip ?_)
    exact ⟨rfl, rfl, by simp [upd, dstUpd, ptr], by rw [hhead, q3, show decide (0 ≤ c.merges) = true from by simp only [decide_eq_true_eq]; omega]; rfl⟩
  rintro ⟨e, hp, d⟩ ⟨hdd, hh1, k1, hhead⟩
  simp only at hdd hh1 k1
  subst hdd hh1
  have hchk : chk c = stepF c 0 [] c.funcs := by simp [chk, hhead]
  refine Wc_seq (Wc_ops (Wo_run (fun call => by simp only [List.drop_succ_cons, List.drop_zero, iops_nil, iops_op, iops_grd, iK_some, iG_true, iG_false, gval_bool, beq_true, beq_false, Bool.not_true, Bool.not_false, iop, ev, upd, dstUpd, binV, binI, unV, ptr, Heap.cell, Heap.write, cellsOf, put, args0, partL, List.getD_cons_zero, List.getD_cons_succ, List.length_cons, List.length_nil, List.set_cons_zero, List.set_cons_succ, List.getElem?_cons_zero, List.getElem?_cons_succ, reduceIte, Nat.reduceEqDiff, Nat.reduceAdd, Nat.reduceMul, Nat.reduceLeDiff, Nat.zero_add, Nat.add_zero, Option.map_some, Int.reduceEq, Int.reduceLT, Int.reduceLE, Bool.false_eq_true, decide_true, decide_false, ge_iff_le, gt_iff_lt, set_get']; rfl) ?_))
  show Wc T _ _ _
  -- the functions
  refine Wc_mid (fun s => s.d = some [] ∧ Kept hp s.h ∧ resC (chk c) = .tuple #[.int .i64 0, .int .i64 0, .int .i64 0]) ?_ ?_
  case refine_2 =>
    rintro ⟨e2, hq, d⟩ ⟨hdd, hkq, hres⟩
    simp only at hdd hkq
    subst hdd
    refine Wc_seq (Wc_ops (Wo_run (fun call => by simp only [List.drop_succ_cons, List.drop_zero, iops_nil, iops_op, iops_grd, iK_some, iG_true, iG_false, gval_bool, beq_true, beq_false, Bool.not_true, Bool.not_false, iop, ev, upd, dstUpd, binV, binI, unV, ptr, Heap.cell, Heap.write, cellsOf, put, args0, partL, List.getD_cons_zero, List.getD_cons_succ, List.length_cons, List.length_nil, List.set_cons_zero, List.set_cons_succ, List.getElem?_cons_zero, List.getElem?_cons_succ, reduceIte, Nat.reduceEqDiff, Nat.reduceAdd, Nat.reduceMul, Nat.reduceLeDiff, Nat.zero_add, Nat.add_zero, Option.map_some, Int.reduceEq, Int.reduceLT, Int.reduceLE, Bool.false_eq_true, decide_true, decide_false, ge_iff_le, gt_iff_lt, set_get']; rfl) ?_))
    exact Wc_ret (fin _ hq 0 0 0 hkq (by simp [upd]) (by simp [upd]) (by simp [upd]) hres)
  refine Wc_seq (Wc_ops (Wo_run (fun call => by simp only [List.drop_succ_cons, List.drop_zero, iops_nil, iops_op, iops_grd, iK_some, iG_true, iG_false, gval_bool, beq_true, beq_false, Bool.not_true, Bool.not_false, iop, ev, upd, dstUpd, binV, binI, unV, ptr, Heap.cell, Heap.write, cellsOf, put, args0, partL, List.getD_cons_zero, List.getD_cons_succ, List.length_cons, List.length_nil, List.set_cons_zero, List.set_cons_succ, List.getElem?_cons_zero, List.getElem?_cons_succ, reduceIte, Nat.reduceEqDiff, Nat.reduceAdd, Nat.reduceMul, Nat.reduceLeDiff, Nat.zero_add, Nat.add_zero, Option.map_some, Int.reduceEq, Int.reduceLT, Int.reduceLE, Bool.false_eq_true, decide_true, decide_false, ge_iff_le, gt_iff_lt, set_get', k1, g1', Cod.cells, hfv]; rfl) ?_))
  show Wc T _ _ _
  refine Wc_block (Wc_loop (fun s => s.d = some [] ∧ s.e 43 = c.fv ∧ s.e 44 = .int .i64 c.funcs.length ∧ ∃ (i : Nat) (seen : List Int), F10 hp h.next seen s.e s.h ∧ i ≤ c.funcs.length ∧ s.e 45 = .int .i64 i ∧ seen.length ≤ fnsSize (c.funcs.take i) ∧ chk c = stepF c i seen (c.funcs.drop i))
    (fun s => match s.e 45 with | .int _ i => (c.funcs.length - i).toNat | _ => 0) ?_ ?_)
  · exact ⟨rfl, by simp [upd, hfv], by simp [upd], 0, [], ⟨.refl _, by simp [upd, k1], by simp only [upd, Nat.reduceEqDiff, reduceIte]; exact .inl ⟨rfl, rfl⟩⟩, Nat.zero_le _, by simp [upd], by simp, hchk⟩
  clear k1 e
  rintro ⟨e, hq, d⟩ ⟨hdd, k43, k44, i, seen, F, hi, k45, hsl, hst⟩
  simp only at hdd k43 k44 F k45
  subst hdd
  rw [C10L1]
  refine Wc_seq (Wc_ops (Wo_run (fun call => by simp only [List.drop_succ_cons, List.drop_zero, iops_nil, iops_op, iops_grd, iK_some, iG_true, iG_false, gval_bool, beq_true, beq_false, Bool.not_true, Bool.not_false, iop, ev, upd, dstUpd, binV, binI, unV, ptr, Heap.cell, Heap.write, cellsOf, put, args0, partL, List.getD_cons_zero, List.getD_cons_succ, List.length_cons, List.length_nil, List.set_cons_zero, List.set_cons_succ, List.getElem?_cons_zero, List.getElem?_cons_succ, reduceIte, Nat.reduceEqDiff, Nat.reduceAdd, Nat.reduceMul, Nat.reduceLeDiff, Nat.zero_add, Nat.add_zero, Option.map_some, Int.reduceEq, Int.reduceLT, Int.reduceLE, Bool.false_eq_true, decide_true, decide_false, ge_iff_le, gt_iff_lt, set_get', k44, k45]; rfl) ?_))
  show Wc T _ _ _
  refine Wc_seq (Wc_cond (decide ((i : Int) < c.funcs.length)) (by simp [ev, upd, dstUpd]) (fun hlt => Wc_skip ?_) (fun hge => Wc_exit ?_))
  case refine_2 =>
    have : i = c.funcs.length := by have := of_decide_eq_false hge; omega
    subst this
    rw [List.drop_length] at hst
    exact ⟨rfl, F.k, by rw [hst]; rfl⟩
  show Wc T _ _ _
  have hil : i < c.funcs.length := by have := of_decide_eq_true hlt; omega
  obtain ⟨f, hfi⟩ : ∃ f, c.funcs[i]? = some f := ⟨_, List.getElem?_eq_getElem hil⟩
  rw [drop_at hfi] at hst
  simp only [stepF] at hst
  have hstk := fnsSize_take hfi
  have hsle := fnsSize_le c.funcs (i + 1)
  have hfs : fnSize f = 1 + f.code.length + f.name.size / 10 + insSize f.code := rfl
  obtain ⟨bx, cx, hva, hbx, _, hcx, hxin⟩ := (((hc.keep hk).keep F.k).funcs).load fnCells_len hfi
  obtain ⟨qc, rc, hcv⟩ := hxin.code.len
  have hf1 : f.Ok hp := (hc.keep hk).funcs.2 f (List.mem_of_getElem? hfi)
  have e1' : IntKind.i64.wrap ((i : Int) + 1) = ((i + 1 : Nat) : Int) := by
    unfold maxLen at hcl
    rw [wrap64] <;> omega
  -- one function
  refine Wc_mid (fun s => s.d = some [] ∧ s.e 43 = c.fv ∧ s.e 44 = .int .i64 c.funcs.length ∧ s.e 45 = .int .i64 i ∧ ∃ seen' : List Int, F10 hp h.next seen' s.e s.h ∧ seen'.length ≤ fnsSize (c.funcs.take (i + 1)) ∧ chk c = stepF c (i + 1) seen' (c.funcs.drop (i + 1))) (Wc_block ?_) ?_
  case refine_2 =>
    rintro ⟨e2, hq2, d⟩ ⟨hdd, m43, m44, m45, seen', F', hsl', hst'⟩
    simp only at hdd m43 m44 m45 F'
    subst hdd
    refine Wc_ops (Wo_run (fun call => by simp only [List.drop_succ_cons, List.drop_zero, iops_nil, iops_op, iops_grd, iK_some, iG_true, iG_false, gval_bool, beq_true, beq_false, Bool.not_true, Bool.not_false, iop, ev, upd, dstUpd, binV, binI, unV, ptr, Heap.cell, Heap.write, cellsOf, put, args0, partL, List.getD_cons_zero, List.getD_cons_succ, List.length_cons, List.length_nil, List.set_cons_zero, List.set_cons_succ, List.getElem?_cons_zero, List.getElem?_cons_succ, reduceIte, Nat.reduceEqDiff, Nat.reduceAdd, Nat.reduceMul, Nat.reduceLeDiff, Nat.zero_add, Nat.add_zero, Option.map_some, Int.reduceEq, Int.reduceLT, Int.reduceLE, Bool.false_eq_true, decide_true, decide_false, ge_iff_le, gt_iff_lt, set_get', m45, e1']; rfl) ?_)
    refine ⟨⟨rfl, by simp [upd, m43], by simp [upd, m44], i + 1, seen', ⟨F'.k, by simp [upd, F'.e1], by simp only [upd, Nat.reduceEqDiff, reduceIte]; exact F'.own⟩, by omega, by simp [upd], hsl', hst'⟩, ?_⟩
    simp only [upd, Nat.reduceEqDiff, reduceIte, k45]
    show ((c.funcs.length : Int) - ((i + 1 : Nat) : Int)).toNat < ((c.funcs.length : Int) - (i : Int)).toNat
    omega
  refine Wc_seq (Wc_ops (Wo_op rfl (Wo_op (iop_iaddr (b := bx) (len := c.funcs.length) (c := cx) (i := i) (by simp only [upd, dstUpd, reduceIte, Nat.reduceEqDiff, k43]; exact hva) (by simp only [upd, dstUpd, reduceIte, Nat.reduceEqDiff, k45]) hil) (Wo_op (iop_load (b := bx) (o := i * 4) (cs := f.cells) (by simp only [upd, dstUpd, reduceIte, Nat.reduceEqDiff]) hcx) (Wo_op rfl (Wo_op rfl (Wo_op (iop_store (b := hq.next) (esz := 0) (cs := f.cells) (z := [(.string ⟨#[]⟩), (.int .i64 0), (.int .i64 0), (.slice none 0 0)]) (by simp only [upd, dstUpd, reduceIte, Nat.reduceEqDiff]) (by simp only [upd, dstUpd, reduceIte, Nat.reduceEqDiff]) rfl (new_get' _ _) rfl) (Wo_nil ?_))))))))
  show Wc T _ _ _
  have hkA : Kept hq ((hq.new (.cells [(.string ⟨#[]⟩), (.int .i64 0), (.int .i64 0), (.slice none 0 0)] true 0)).set hq.next (.cells f.cells true 0)) := ((Kept.refl hq).new _).set (Nat.le_refl _) _
  have hgA : ((hq.new (.cells [(.string ⟨#[]⟩), (.int .i64 0), (.int .i64 0), (.slice none 0 0)] true 0)).set hq.next (.cells f.cells true 0)).get hq.next = some (.cells f.cells true 0) := set_get' _ _ _
  have hnA : ((hq.new (.cells [(.string ⟨#[]⟩), (.int .i64 0), (.int .i64 0), (.slice none 0 0)] true 0)).set hq.next (.cells f.cells true 0)).next = hq.next + 1 := rfl
  generalize (hq.new (.cells [(.string ⟨#[]⟩), (.int .i64 0), (.int .i64 0), (.slice none 0 0)] true 0)).set hq.next (.cells f.cells true 0) = hA at hkA hgA hnA ⊢
  have FA := F.heap hkA
  have hnown : ∀ p n c, e 5 = .slice (some p) n c → p.block ≠ hq.next := fun p n c hv => by have := F.own.ne p n c hv; omega
  generalize hbt : hq.next = bt at hgA hnA hnown ⊢
  -- its head
  refine Wc_mid (fun s => s.d = some [] ∧ s.h = hA ∧ s.e 43 = c.fv ∧ s.e 44 = .int .i64 c.funcs.length ∧ s.e 45 = .int .i64 i ∧ s.e 6 = .int .i64 i ∧ s.e 7 = ptr bt 0 ∧ s.e 5 = e 5 ∧ F10 hp h.next seen s.e hA ∧ headF f = true) ?_ ?_
  · have badF : ∀ (e' : Env), e' 2 = .int .i64 i → e' 3 = .int .i64 0 → e' 4 = .int .i64 100 → headF f = false → ((Ex.ret = .normal ∨ Ex.ret = .ret) ∧ some ([] : List Dfr) = some [] ∧ ∃ vs, resAll e' hA [.tmp 2, .tmp 3, .tmp 4] = some vs ∧ Kept h hA ∧ Out.ret (tup vs) = .ret (resC (chk c))) :=
      fun e' a b c' hh => fin e' hA i 0 100 (F.k.trans hkA) a b c' (by rw [hst, if_neg (by rw [hh]; exact Bool.false_ne_true)]; rfl)
    by_cases q0 : f.params < 0
    · have z0 : (decide (f.params < 0)) = true := by simp only [decide_eq_true_eq]; omega
      refine Wc_seq (Wc_ops (Wo_run (fun call => by simp only [List.drop_succ_cons, List.drop_zero, iops_nil, iops_op, iops_grd, iK_some, iG_true, iG_false, gval_bool, beq_true, beq_false, Bool.not_true, Bool.not_false, iop, ev, upd, dstUpd, binV, binI, unV, ptr, Heap.cell, Heap.write, cellsOf, put, args0, partL, List.getD_cons_zero, List.getD_cons_succ, List.length_cons, List.length_nil, List.set_cons_zero, List.set_cons_succ, List.getElem?_cons_zero, List.getElem?_cons_succ, reduceIte, Nat.reduceEqDiff, Nat.reduceAdd, Nat.reduceMul, Nat.reduceLeDiff, Nat.zero_add, Nat.add_zero, Option.map_some, Int.reduceEq, Int.reduceLT, Int.reduceLE, Bool.false_eq_true, decide_true, decide_false, ge_iff_le, gt_iff_lt, set_get', hgA, Fn.cells, hcv, z0]; rfl) ?_))
      show Wc T _ _ _
      refine Wc_cond true (by simp [ev, upd, dstUpd]) (fun _ => ?_) (fun h => by cases h)
      refine Wc_seq (Wc_ops (Wo_run (fun call => by simp only [List.drop_succ_cons, List.drop_zero, iops_nil, iops_op, iops_grd, iK_some, iG_true, iG_false, gval_bool, beq_true, beq_false, Bool.not_true, Bool.not_false, iop, ev, upd, dstUpd, binV, binI, unV, ptr, Heap.cell, Heap.write, cellsOf, put, args0, partL, List.getD_cons_zero, List.getD_cons_succ, List.length_cons, List.length_nil, List.set_cons_zero, List.set_cons_succ, List.getElem?_cons_zero, List.getElem?_cons_succ, reduceIte, Nat.reduceEqDiff, Nat.reduceAdd, Nat.reduceMul, Nat.reduceLeDiff, Nat.zero_add, Nat.add_zero, Option.map_some, Int.reduceEq, Int.reduceLT, Int.reduceLE, Bool.false_eq_true, decide_true, decide_false, ge_iff_le, gt_iff_lt, set_get', k45]; rfl) ?_))
      refine Wc_ret (badF _ (by simp [upd, k45]) (by simp [upd]) (by simp [upd]) ?_)
      simp only [headF, decide_eq_false_iff_not]; omega
    have p0 : (decide (f.params < 0)) = false := by simp only [decide_eq_false_iff_not]; omega
    by_cases q1 : f.regs < f.params
    · have z1 : (decide (f.regs < f.params)) = true := by simp only [decide_eq_true_eq]; omega
      refine Wc_seq (Wc_ops (Wo_run (fun call => by simp only [List.drop_succ_cons, List.drop_zero, iops_nil, iops_op, iops_grd, iK_some, iG_true, iG_false, gval_bool, beq_true, beq_false, Bool.not_true, Bool.not_false, iop, ev, upd, dstUpd, binV, binI, unV, ptr, Heap.cell, Heap.write, cellsOf, put, args0, partL, List.getD_cons_zero, List.getD_cons_succ, List.length_cons, List.length_nil, List.set_cons_zero, List.set_cons_succ, List.getElem?_cons_zero, List.getElem?_cons_succ, reduceIte, Nat.reduceEqDiff, Nat.reduceAdd, Nat.reduceMul, Nat.reduceLeDiff, Nat.zero_add, Nat.add_zero, Option.map_some, Int.reduceEq, Int.reduceLT, Int.reduceLE, Bool.false_eq_true, decide_true, decide_false, ge_iff_le, gt_iff_lt, set_get', hgA, Fn.cells, hcv, p0, z1]; rfl) ?_))
      show Wc T _ _ _
      refine Wc_cond true (by simp [ev, upd, dstUpd]) (fun _ => ?_) (fun h => by cases h)
      refine Wc_seq (Wc_ops (Wo_run (fun call => by simp only [List.drop_succ_cons, List.drop_zero, iops_nil, iops_op, iops_grd, iK_some, iG_true, iG_false, gval_bool, beq_true, beq_false, Bool.not_true, Bool.not_false, iop, ev, upd, dstUpd, binV, binI, unV, ptr, Heap.cell, Heap.write, cellsOf, put, args0, partL, List.getD_cons_zero, List.getD_cons_succ, List.length_cons, List.length_nil, List.set_cons_zero, List.set_cons_succ, List.getElem?_cons_zero, List.getElem?_cons_succ, reduceIte, Nat.reduceEqDiff, Nat.reduceAdd, Nat.reduceMul, Nat.reduceLeDiff, Nat.zero_add, Nat.add_zero, Option.map_some, Int.reduceEq, Int.reduceLT, Int.reduceLE, Bool.false_eq_true, decide_true, decide_false, ge_iff_le, gt_iff_lt, set_get', k45]; rfl) ?_))
      refine Wc_ret (badF _ (by simp [upd, k45]) (by simp [upd]) (by simp [upd]) ?_)
      simp only [headF, decide_eq_false_iff_not]; omega
    have p1 : (decide (f.regs < f.params)) = false := by simp only [decide_eq_false_iff_not]; omega
    by_cases q2 : 1000 < f.regs
    · have z2 : (decide (1000 < f.regs)) = true := by simp only [decide_eq_true_eq]; omega
      refine Wc_seq (Wc_ops (Wo_run (fun call => by simp only [List.drop_succ_cons, List.drop_zero, iops_nil, iops_op, iops_grd, iK_some, iG_true, iG_false, gval_bool, beq_true, beq_false, Bool.not_true, Bool.not_false, iop, ev, upd, dstUpd, binV, binI, unV, ptr, Heap.cell, Heap.write, cellsOf, put, args0, partL, List.getD_cons_zero, List.getD_cons_succ, List.length_cons, List.length_nil, List.set_cons_zero, List.set_cons_succ, List.getElem?_cons_zero, List.getElem?_cons_succ, reduceIte, Nat.reduceEqDiff, Nat.reduceAdd, Nat.reduceMul, Nat.reduceLeDiff, Nat.zero_add, Nat.add_zero, Option.map_some, Int.reduceEq, Int.reduceLT, Int.reduceLE, Bool.false_eq_true, decide_true, decide_false, ge_iff_le, gt_iff_lt, set_get', hgA, Fn.cells, hcv, p0, p1, z2]; rfl) ?_))
      show Wc T _ _ _
      refine Wc_cond true (by simp [ev, upd, dstUpd]) (fun _ => ?_) (fun h => by cases h)
      refine Wc_seq (Wc_ops (Wo_run (fun call => by simp only [List.drop_succ_cons, List.drop_zero, iops_nil, iops_op, iops_grd, iK_some, iG_true, iG_false, gval_bool, beq_true, beq_false, Bool.not_true, Bool.not_false, iop, ev, upd, dstUpd, binV, binI, unV, ptr, Heap.cell, Heap.write, cellsOf, put, args0, partL, List.getD_cons_zero, List.getD_cons_succ, List.length_cons, List.length_nil, List.set_cons_zero, List.set_cons_succ, List.getElem?_cons_zero, List.getElem?_cons_succ, reduceIte, Nat.reduceEqDiff, Nat.reduceAdd, Nat.reduceMul, Nat.reduceLeDiff, Nat.zero_add, Nat.add_zero, Option.map_some, Int.reduceEq, Int.reduceLT, Int.reduceLE, Bool.false_eq_true, decide_true, decide_false, ge_iff_le, gt_iff_lt, set_get', k45]; rfl) ?_))
      refine Wc_ret (badF _ (by simp [upd, k45]) (by simp [upd]) (by simp [upd]) ?_)
      simp only [headF, decide_eq_false_iff_not]; omega
    have p2 : (decide (1000 < f.regs)) = false := by simp only [decide_eq_false_iff_not]; omega
    by_cases q3 : f.code.length = 0
    · have z3 : ((f.code.length : Int) == 0) = true := by simp only [beq_iff_eq]; omega
      refine Wc_seq (Wc_ops (Wo_run (fun call => by simp only [List.drop_succ_cons, List.drop_zero, iops_nil, iops_op, iops_grd, iK_some, iG_true, iG_false, gval_bool, beq_true, beq_false, Bool.not_true, Bool.not_false, iop, ev, upd, dstUpd, binV, binI, unV, ptr, Heap.cell, Heap.write, cellsOf, put, args0, partL, List.getD_cons_zero, List.getD_cons_succ, List.length_cons, List.length_nil, List.set_cons_zero, List.set_cons_succ, List.getElem?_cons_zero, List.getElem?_cons_succ, reduceIte, Nat.reduceEqDiff, Nat.reduceAdd, Nat.reduceMul, Nat.reduceLeDiff, Nat.zero_add, Nat.add_zero, Option.map_some, Int.reduceEq, Int.reduceLT, Int.reduceLE, Bool.false_eq_true, decide_true, decide_false, ge_iff_le, gt_iff_lt, set_get', hgA, Fn.cells, hcv, p0, p1, p2, z3]; rfl) ?_))
      show Wc T _ _ _
      refine Wc_cond true (by simp [ev, upd, dstUpd]) (fun _ => ?_) (fun h => by cases h)
      refine Wc_seq (Wc_ops (Wo_run (fun call => by simp only [List.drop_succ_cons, List.drop_zero, iops_nil, iops_op, iops_grd, iK_some, iG_true, iG_false, gval_bool, beq_true, beq_false, Bool.not_true, Bool.not_false, iop, ev, upd, dstUpd, binV, binI, unV, ptr, Heap.cell, Heap.write, cellsOf, put, args0, partL, List.getD_cons_zero, List.getD_cons_succ, List.length_cons, List.length_nil, List.set_cons_zero, List.set_cons_succ, List.getElem?_cons_zero, List.getElem?_cons_succ, reduceIte, Nat.reduceEqDiff, Nat.reduceAdd, Nat.reduceMul, Nat.reduceLeDiff, Nat.zero_add, Nat.add_zero, Option.map_some, Int.reduceEq, Int.reduceLT, Int.reduceLE, Bool.false_eq_true, decide_true, decide_false, ge_iff_le, gt_iff_lt, set_get', k45]; rfl) ?_))
      refine Wc_ret (badF _ (by simp [upd, k45]) (by simp [upd]) (by simp [upd]) ?_)
      simp only [headF, decide_eq_false_iff_not]; omega
    have p3 : ((f.code.length : Int) == 0) = false := by simp only [beq_eq_false_iff_ne, ne_eq]; omega
    by_cases q4 : 100000 < f.code.length
    · have z4 : (decide ((100000 : Int) < f.code.length)) = true := by simp only [decide_eq_true_eq]; omega
      refine Wc_seq (Wc_ops (Wo_run (fun call => by simp only [List.drop_succ_cons, List.drop_zero, iops_nil, iops_op, iops_grd, iK_some, iG_true, iG_false, gval_bool, beq_true, beq_false, Bool.not_true, Bool.not_false, iop, ev, upd, dstUpd, binV, binI, unV, ptr, Heap.cell, Heap.write, cellsOf, put, args0, partL, List.getD_cons_zero, List.getD_cons_succ, List.length_cons, List.length_nil, List.set_cons_zero, List.set_cons_succ, List.getElem?_cons_zero, List.getElem?_cons_succ, reduceIte, Nat.reduceEqDiff, Nat.reduceAdd, Nat.reduceMul, Nat.reduceLeDiff, Nat.zero_add, Nat.add_zero, Option.map_some, Int.reduceEq, Int.reduceLT, Int.reduceLE, Bool.false_eq_true, decide_true, decide_false, ge_iff_le, gt_iff_lt, set_get', hgA, Fn.cells, hcv, p0, p1, p2, p3, z4]; rfl) ?_))
      show Wc T _ _ _
      refine Wc_cond true (by simp [ev, upd, dstUpd]) (fun _ => ?_) (fun h => by cases h)
      refine Wc_seq (Wc_ops (Wo_run (fun call => by simp only [List.drop_succ_cons, List.drop_zero, iops_nil, iops_op, iops_grd, iK_some, iG_true, iG_false, gval_bool, beq_true, beq_false, Bool.not_true, Bool.not_false, iop, ev, upd, dstUpd, binV, binI, unV, ptr, Heap.cell, Heap.write, cellsOf, put, args0, partL, List.getD_cons_zero, List.getD_cons_succ, List.length_cons, List.length_nil, List.set_cons_zero, List.set_cons_succ, List.getElem?_cons_zero, List.getElem?_cons_succ, reduceIte, Nat.reduceEqDiff, Nat.reduceAdd, Nat.reduceMul, Nat.reduceLeDiff, Nat.zero_add, Nat.add_zero, Option.map_some, Int.reduceEq, Int.reduceLT, Int.reduceLE, Bool.false_eq_true, decide_true, decide_false, ge_iff_le, gt_iff_lt, set_get', k45]; rfl) ?_))
      refine Wc_ret (badF _ (by simp [upd, k45]) (by simp [upd]) (by simp [upd]) ?_)
      simp only [headF, decide_eq_false_iff_not]; omega
    have p4 : (decide ((100000 : Int) < f.code.length)) = false := by simp only [decide_eq_false_iff_not]; omega
    refine Wc_seq (Wc_ops (Wo_run (fun call => by simp only [List.drop_succ_cons, List.drop_zero, iops_nil, iops_op, iops_grd, iK_some, iG_true, iG_false, gval_bool, beq_true, beq_false, Bool.not_true, Bool.not_false, iop, ev, upd, dstUpd, binV, binI, unV, ptr, Heap.cell, Heap.write, cellsOf, put, args0, partL, List.getD_cons_zero, List.getD_cons_succ, List.length_cons, List.length_nil, List.set_cons_zero, List.set_cons_succ, List.getElem?_cons_zero, List.getElem?_cons_succ, reduceIte, Nat.reduceEqDiff, Nat.reduceAdd, Nat.reduceMul, Nat.reduceLeDiff, Nat.zero_add, Nat.add_zero, Option.map_some, Int.reduceEq, Int.reduceLT, Int.reduceLE, Bool.false_eq_true, decide_true, decide_false, ge_iff_le, gt_iff_lt, set_get', hgA, Fn.cells, hcv, p0, p1, p2, p3, p4]; rfl) ?_))
    show Wc T _ _ _
    refine Wc_cond false (by simp [ev, upd, dstUpd]) (fun h => by cases h) (fun _ => Wc_skip ?_)
    exact ⟨rfl, rfl, by simp [upd, dstUpd, k43], by simp [upd, dstUpd, k44], by simp [upd, dstUpd, k45], by simp [upd, dstUpd, k45], by simp [upd, dstUpd, ptr], by simp [upd, dstUpd], by ((try simp only [dstUpd]); repeat (first | exact FA | refine F10.upd ?_ (by omega))), by simp only [headF, decide_eq_true_eq]; omega⟩
  clear FA
  rintro ⟨e2, hq2, d⟩ ⟨hdd, hhA, m43, m44, m45, m6, m7, m5, FA, hhf⟩
  simp only at hdd hhA m43 m44 m45 m6 m7 m5 FA
  subst hdd hhA
  rw [if_pos hhf] at hst
  rw [← m5] at hnown
  clear k43 k44 k45 F
  -- its code
  refine Wc_seq (Wc_ops (Wo_run (fun call => by simp only [List.drop_succ_cons, List.drop_zero, iops_nil, iops_op, iops_grd, iK_some, iG_true, iG_false, gval_bool, beq_true, beq_false, Bool.not_true, Bool.not_false, iop, ev, upd, dstUpd, binV, binI, unV, ptr, Heap.cell, Heap.write, cellsOf, put, args0, partL, List.getD_cons_zero, List.getD_cons_succ, List.length_cons, List.length_nil, List.set_cons_zero, List.set_cons_succ, List.getElem?_cons_zero, List.getElem?_cons_succ, reduceIte, Nat.reduceEqDiff, Nat.reduceAdd, Nat.reduceMul, Nat.reduceLeDiff, Nat.zero_add, Nat.add_zero, Option.map_some, Int.reduceEq, Int.reduceLT, Int.reduceLE, Bool.false_eq_true, decide_true, decide_false, ge_iff_le, gt_iff_lt, set_get', m7, hgA, Fn.cells, hcv]; rfl) ?_))
  show Wc T _ _ _
  refine Wc_block (Wc_loop (fun s => s.d = some [] ∧ s.e 43 = c.fv ∧ s.e 44 = .int .i64 c.funcs.length ∧ s.e 45 = .int .i64 i ∧ s.e 6 = .int .i64 i ∧ s.e 7 = ptr bt 0 ∧ s.e 80 = .int .i64 f.code.length ∧ s.h.get bt = some (.cells f.cells true 0) ∧ bt < s.h.next ∧ (∀ p n c, s.e 5 = .slice (some p) n c → p.block ≠ bt) ∧
      ∃ (j : Nat) (sn : List Int), F10 hp h.next sn s.e s.h ∧ j ≤ f.code.length ∧ s.e 81 = .int .i64 j ∧ sn.length ≤ fnsSize (c.funcs.take i) + j ∧ stepC c f i 0 seen f.code = stepC c f i j sn (f.code.drop j))
    (fun s => match s.e 81 with | .int _ j => (f.code.length - j).toNat | _ => 0) ?_ ?_)
  · exact ⟨rfl, by simp [upd, m43], by simp [upd, m44], by simp [upd, m45], by simp [upd, m6], by simp [upd, m7], by simp [upd], hgA, by show bt < hq2.next; omega, by simpa only [upd, Nat.reduceEqDiff, reduceIte] using hnown, 0, seen, by ((try simp only [dstUpd]); repeat (first | exact FA | refine F10.upd ?_ (by omega))), Nat.zero_le _, by simp [upd], by omega, rfl⟩
  clear m43 m44 m45 m6 m7 m5 FA hnown
  rintro ⟨e3, hq3, d⟩ ⟨hdd, m43, m44, m45, m6, m7, m80, hgB, hbB, hnown, j, sn, F, hj, m81, hsl2, hst2⟩
  simp only at hdd m43 m44 m45 m6 m7 m80 hgB hbB hnown F m81
  subst hdd
  rw [C10L0]
  refine Wc_seq (Wc_ops (Wo_run (fun call => by simp only [List.drop_succ_cons, List.drop_zero, iops_nil, iops_op, iops_grd, iK_some, iG_true, iG_false, gval_bool, beq_true, beq_false, Bool.not_true, Bool.not_false, iop, ev, upd, dstUpd, binV, binI, unV, ptr, Heap.cell, Heap.write, cellsOf, put, args0, partL, List.getD_cons_zero, List.getD_cons_succ, List.length_cons, List.length_nil, List.set_cons_zero, List.set_cons_succ, List.getElem?_cons_zero, List.getElem?_cons_succ, reduceIte, Nat.reduceEqDiff, Nat.reduceAdd, Nat.reduceMul, Nat.reduceLeDiff, Nat.zero_add, Nat.add_zero, Option.map_some, Int.reduceEq, Int.reduceLT, Int.reduceLE, Bool.false_eq_true, decide_true, decide_false, ge_iff_le, gt_iff_lt, set_get', m80, m81]; rfl) ?_))
  show Wc T _ _ _
  refine Wc_seq (Wc_cond (decide ((j : Int) < f.code.length)) (by simp [ev, upd, dstUpd]) (fun hlt2 => Wc_skip ?_) (fun hge => Wc_exit ?_))
  case refine_2 =>
    have : j = f.code.length := by have := of_decide_eq_false hge; omega
    subst this
    rw [List.drop_length] at hst2
    rw [hst2] at hst
    exact ⟨rfl, by simp [upd, m43], by simp [upd, m44], by simp [upd, m45], sn, by ((try simp only [dstUpd]); repeat (first | exact F | refine F10.upd ?_ (by omega))), by omega, hst⟩
  show Wc T _ _ _
  have hjl : j < f.code.length := by have := of_decide_eq_true hlt2; omega
  obtain ⟨x, hxj⟩ : ∃ x, f.code[j]? = some x := ⟨_, List.getElem?_eq_getElem hjl⟩
  rw [drop_at hxj] at hst2
  simp only [stepC] at hst2
  obtain ⟨by', cy, hvy, hby, _, hcy, hyin⟩ := ((hf1.keep F.k).code).load insCells_len hxj
  have e2' : IntKind.i64.wrap ((j : Int) + 1) = ((j + 1 : Nat) : Int) := by
    have := hf1.len
    unfold maxLen at this
    rw [wrap64] <;> omega
  refine Wc_mid (fun s => s.d = some [] ∧ s.e 43 = c.fv ∧ s.e 44 = .int .i64 c.funcs.length ∧ s.e 45 = .int .i64 i ∧ s.e 6 = .int .i64 i ∧ s.e 7 = ptr bt 0 ∧ s.e 80 = .int .i64 f.code.length ∧ s.e 81 = .int .i64 j ∧ s.h.get bt = some (.cells f.cells true 0) ∧ bt < s.h.next ∧ (∀ p n c, s.e 5 = .slice (some p) n c → p.block ≠ bt) ∧
      F10 hp h.next (seenNow x sn) s.e s.h ∧ (insB c f x j && newB x sn) = true) (Wc_block ?_) ?_
  case refine_2 =>
    rintro ⟨e4, hq4, d⟩ ⟨hdd, n43, n44, n45, n6, n7, n80, n81, ngB, nbB, nown, F', hin⟩
    simp only at hdd n43 n44 n45 n6 n7 n80 n81 ngB nbB nown F'
    subst hdd
    refine Wc_ops (Wo_run (fun call => by simp only [List.drop_succ_cons, List.drop_zero, iops_nil, iops_op, iops_grd, iK_some, iG_true, iG_false, gval_bool, beq_true, beq_false, Bool.not_true, Bool.not_false, iop, ev, upd, dstUpd, binV, binI, unV, ptr, Heap.cell, Heap.write, cellsOf, put, args0, partL, List.getD_cons_zero, List.getD_cons_succ, List.length_cons, List.length_nil, List.set_cons_zero, List.set_cons_succ, List.getElem?_cons_zero, List.getElem?_cons_succ, reduceIte, Nat.reduceEqDiff, Nat.reduceAdd, Nat.reduceMul, Nat.reduceLeDiff, Nat.zero_add, Nat.add_zero, Option.map_some, Int.reduceEq, Int.reduceLT, Int.reduceLE, Bool.false_eq_true, decide_true, decide_false, ge_iff_le, gt_iff_lt, set_get', n81, e2']; rfl) ?_)
    rw [if_pos hin] at hst2
    have hsn : (seenNow x sn).length ≤ sn.length + 1 := by simp only [seenNow]; split <;> simp
    refine ⟨⟨rfl, by simp [upd, n43], by simp [upd, n44], by simp [upd, n45], by simp [upd, n6], by simp [upd, n7], by simp [upd, n80], ngB, nbB, by simpa only [upd, Nat.reduceEqDiff, reduceIte] using nown, j + 1, seenNow x sn, by ((try simp only [dstUpd]); repeat (first | exact F' | refine F10.upd ?_ (by omega))), by omega, by simp [upd], by omega, hst2⟩, ?_⟩
    simp only [upd, Nat.reduceEqDiff, reduceIte, m81]
    show ((f.code.length : Int) - ((j + 1 : Nat) : Int)).toNat < ((f.code.length : Int) - (j : Int)).toNat
    omega
  refine Wc_seq (Wc_ops (Wo_run (fun call => by simp only [List.drop_succ_cons, List.drop_zero, iops_nil, iops_op, iops_grd, iK_some, iG_true, iG_false, gval_bool, beq_true, beq_false, Bool.not_true, Bool.not_false, iop, ev, upd, dstUpd, binV, binI, unV, ptr, Heap.cell, Heap.write, cellsOf, put, args0, partL, List.getD_cons_zero, List.getD_cons_succ, List.length_cons, List.length_nil, List.set_cons_zero, List.set_cons_succ, List.getElem?_cons_zero, List.getElem?_cons_succ, reduceIte, Nat.reduceEqDiff, Nat.reduceAdd, Nat.reduceMul, Nat.reduceLeDiff, Nat.zero_add, Nat.add_zero, Option.map_some, Int.reduceEq, Int.reduceLT, Int.reduceLE, Bool.false_eq_true, decide_true, decide_false, ge_iff_le, gt_iff_lt, set_get', m81]; rfl) ?_))
  show Wc T _ _ _
  refine Wc_seq (Wc_ops (Wo_pre 3 (fun call => by simp only [List.take_succ_cons, List.take_zero, List.drop_succ_cons, List.drop_zero, iops_nil, iops_op, iops_grd, iK_some, iG_true, iG_false, gval_bool, beq_true, beq_false, Bool.not_true, Bool.not_false, iop, ev, upd, dstUpd, binV, binI, unV, ptr, Heap.cell, Heap.write, cellsOf, put, args0, partL, List.getD_cons_zero, List.getD_cons_succ, List.length_cons, List.length_nil, List.set_cons_zero, List.set_cons_succ, List.getElem?_cons_zero, List.getElem?_cons_succ, reduceIte, Nat.reduceEqDiff, Nat.reduceAdd, Nat.reduceMul, Nat.reduceLeDiff, Nat.zero_add, Nat.add_zero, Option.map_some, Int.reduceEq, Int.reduceLT, Int.reduceLE, Bool.false_eq_true, decide_true, decide_false, ge_iff_le, gt_iff_lt, set_get', m7, hgB, Fn.cells]; rfl) ?_))
  refine Wo_op (iop_iaddr (b := by') (len := f.code.length) (c := cy) (i := j) (by simp only [upd, dstUpd, reduceIte, Nat.reduceEqDiff]; exact hvy) (by simp only [upd, dstUpd, reduceIte, Nat.reduceEqDiff]) hjl) (Wo_op (iop_load (b := by') (o := j * 6) (cs := x.cells) (by simp only [upd, dstUpd, reduceIte, Nat.reduceEqDiff]) hcy) (Wo_op rfl (Wo_op (iop_store (b := hq3.next) (esz := 0) (cs := x.cells) (z := [(.int .i64 0), (.int .i64 0), (.int .i64 0), (.int .i64 0), (.int .i64 0), (.slice none 0 0)]) (by simp only [upd, dstUpd, reduceIte, Nat.reduceEqDiff]) (by simp only [upd, dstUpd, reduceIte, Nat.reduceEqDiff]) rfl (new_get' _ _) rfl) (Wo_nil ?_))))
  show Wc T _ _ _
  have hkB : Kept hq3 ((hq3.new (.cells [(.int .i64 0), (.int .i64 0), (.int .i64 0), (.int .i64 0), (.int .i64 0), (.slice none 0 0)] true 0)).set hq3.next (.cells x.cells true 0)) := ((Kept.refl hq3).new _).set (Nat.le_refl _) _
  have hg9 : ((hq3.new (.cells [(.int .i64 0), (.int .i64 0), (.int .i64 0), (.int .i64 0), (.int .i64 0), (.slice none 0 0)] true 0)).set hq3.next (.cells x.cells true 0)).get hq3.next = some (.cells x.cells true 0) := set_get' _ _ _
  have hnB : ((hq3.new (.cells [(.int .i64 0), (.int .i64 0), (.int .i64 0), (.int .i64 0), (.int .i64 0), (.slice none 0 0)] true 0)).set hq3.next (.cells x.cells true 0)).next = hq3.next + 1 := rfl
  generalize (hq3.new (.cells [(.int .i64 0), (.int .i64 0), (.int .i64 0), (.int .i64 0), (.int .i64 0), (.slice none 0 0)] true 0)).set hq3.next (.cells x.cells true 0) = hB at hkB hg9 hnB ⊢
  have FB := F.heap hkB
  have hnown9 : ∀ p n c, e3 5 = .slice (some p) n c → p.block ≠ hq3.next := fun p n c hv => by have := F.own.ne p n c hv; omega
  generalize hb9 : hq3.next = b9 at hg9 hnB hnown9 ⊢
  have badX : ∀ (e' : Env) (hq : Heap), Kept hp hq → e' 2 = .int .i64 i → e' 3 = .int .i64 j → e' 4 = .int .i64 100 → (insB c f x j && newB x sn) = false → ((Ex.ret = .normal ∨ Ex.ret = .ret) ∧ some ([] : List Dfr) = some [] ∧ ∃ vs, resAll e' hq [.tmp 2, .tmp 3, .tmp 4] = some vs ∧ Kept h hq ∧ Out.ret (tup vs) = .ret (resC (chk c))) := by
    intro e' hq hkq a b c' hh
    refine fin e' hq i j 100 hkq a b c' ?_
    rw [if_neg (by rw [hh]; exact Bool.false_ne_true)] at hst2
    rw [hst, hst2]; rfl
  -- the instruction
  refine Wc_mid (fun s => s.d = some [] ∧ s.e 43 = c.fv ∧ s.e 44 = .int .i64 c.funcs.length ∧ s.e 45 = .int .i64 i ∧ s.e 6 = .int .i64 i ∧ s.e 7 = ptr bt 0 ∧ s.e 80 = .int .i64 f.code.length ∧ s.e 81 = .int .i64 j ∧ s.e 9 = ptr b9 0 ∧ s.e 5 = e3 5 ∧ Kept hB s.h ∧ F10 hp h.next sn s.e s.h ∧ (insB c f x j && newB x sn) = true) ?_ ?_
  · refine Wc_seq (Wc_ops (Wo_op (iop_load (b := h.next) (o := 0) (cs := c.cells) (by simp only [upd, dstUpd, reduceIte, Nat.reduceEqDiff, F.e1]) (cells_all (g1 FB.k) rfl)) (Wo_op (iop_load (b := bt) (o := 0) (cs := f.cells) (by simp only [upd, dstUpd, reduceIte, Nat.reduceEqDiff, m7]) (cells_all (by rw [hkB.get _ hbB]; exact hgB) rfl)) (Wo_pre 1 (fun call => by simp only [List.take_succ_cons, List.take_zero, List.drop_succ_cons, List.drop_zero, iops_nil, iops_op, iops_grd, iK_some, iG_true, iG_false, gval_bool, beq_true, beq_false, Bool.not_true, Bool.not_false, iop, ev, upd, dstUpd, binV, binI, unV, ptr, Heap.cell, Heap.write, cellsOf, put, args0, partL, List.getD_cons_zero, List.getD_cons_succ, List.length_cons, List.length_nil, List.set_cons_zero, List.set_cons_succ, List.getElem?_cons_zero, List.getElem?_cons_succ, reduceIte, Nat.reduceEqDiff, Nat.reduceAdd, Nat.reduceMul, Nat.reduceLeDiff, Nat.zero_add, Nat.add_zero, Option.map_some, Int.reduceEq, Int.reduceLT, Int.reduceLE, Bool.false_eq_true, decide_true, decide_false, ge_iff_le, gt_iff_lt, set_get']; rfl) ?_))))
    refine Wo_call ?_
    show Wk T (.fn 23) [.agg c.cells.toArray, .agg f.cells.toArray, .int .i64 j] hB _
    refine (h23 ((hc.keep hk).keep FB.k) (hf1.keep FB.k) hxj).mono fun o hC ⟨hkC, ho⟩ => ?_
    subst ho
    show Wo T _ _ _
    have FC := FB.heap hkC
    have hg9C : hC.get b9 = some (.cells x.cells true 0) := by rw [hkC.get _ (by omega)]; exact hg9
    cases hI : insB c f x j with
    | false =>
      refine (Wo_run (fun call => by simp only [List.drop_succ_cons, List.drop_zero, iops_nil, iops_op, iops_grd, iK_some, iG_true, iG_false, gval_bool, beq_true, beq_false, Bool.not_true, Bool.not_false, iop, ev, upd, dstUpd, binV, binI, unV, ptr, Heap.cell, Heap.write, cellsOf, put, args0, partL, List.getD_cons_zero, List.getD_cons_succ, List.length_cons, List.length_nil, List.set_cons_zero, List.set_cons_succ, List.getElem?_cons_zero, List.getElem?_cons_succ, reduceIte, Nat.reduceEqDiff, Nat.reduceAdd, Nat.reduceMul, Nat.reduceLeDiff, Nat.zero_add, Nat.add_zero, Option.map_some, Int.reduceEq, Int.reduceLT, Int.reduceLE, Bool.false_eq_true, decide_true, decide_false, ge_iff_le, gt_iff_lt, set_get', show gval undef true = false from rfl]; rfl) ?_)
      show Wc T _ _ _
      refine Wc_cond true (by simp [ev, upd, dstUpd]) (fun _ => ?_) (fun h => by cases h)
      refine Wc_seq (Wc_ops (Wo_run (fun call => by simp only [List.drop_succ_cons, List.drop_zero, iops_nil, iops_op, iops_grd, iK_some, iG_true, iG_false, gval_bool, beq_true, beq_false, Bool.not_true, Bool.not_false, iop, ev, upd, dstUpd, binV, binI, unV, ptr, Heap.cell, Heap.write, cellsOf, put, args0, partL, List.getD_cons_zero, List.getD_cons_succ, List.length_cons, List.length_nil, List.set_cons_zero, List.set_cons_succ, List.getElem?_cons_zero, List.getElem?_cons_succ, reduceIte, Nat.reduceEqDiff, Nat.reduceAdd, Nat.reduceMul, Nat.reduceLeDiff, Nat.zero_add, Nat.add_zero, Option.map_some, Int.reduceEq, Int.reduceLT, Int.reduceLE, Bool.false_eq_true, decide_true, decide_false, ge_iff_le, gt_iff_lt, set_get', m6]; rfl) ?_))
      exact Wc_ret (badX _ hC FC.k (by simp [upd, m6]) (by simp [upd]) (by simp [upd]) (by rw [hI]; rfl))
    | true =>
      by_cases o27 : x.op = 27
      case neg =>
        have d27 : (x.op == 27) = false := by simpa using o27
        have hN : newB x sn = true := by simp [newB, o27]
        refine (Wo_run (fun call => by simp only [List.drop_succ_cons, List.drop_zero, iops_nil, iops_op, iops_grd, iK_some, iG_true, iG_false, gval_bool, beq_true, beq_false, Bool.not_true, Bool.not_false, iop, ev, upd, dstUpd, binV, binI, unV, ptr, Heap.cell, Heap.write, cellsOf, put, args0, partL, List.getD_cons_zero, List.getD_cons_succ, List.length_cons, List.length_nil, List.set_cons_zero, List.set_cons_succ, List.getElem?_cons_zero, List.getElem?_cons_succ, reduceIte, Nat.reduceEqDiff, Nat.reduceAdd, Nat.reduceMul, Nat.reduceLeDiff, Nat.zero_add, Nat.add_zero, Option.map_some, Int.reduceEq, Int.reduceLT, Int.reduceLE, Bool.false_eq_true, decide_true, decide_false, ge_iff_le, gt_iff_lt, set_get', hg9C, Ins.cells, d27]; rfl) ?_)
        show Wc T _ _ _
        refine Wc_cond false (by simp [ev, upd, dstUpd]) (fun h => by cases h) (fun _ => Wc_skip ?_)
        exact ⟨rfl, by simp [upd, dstUpd, m43], by simp [upd, dstUpd, m44], by simp [upd, dstUpd, m45], by simp [upd, dstUpd, m6], by simp [upd, dstUpd, m7], by simp [upd, dstUpd, m80], by simp [upd, dstUpd, m81], by simp [upd, dstUpd, ptr], by simp [upd, dstUpd], hkC, ⟨FC.k, by simp [upd, dstUpd, FC.e1], by simp only [upd, dstUpd, Nat.reduceEqDiff, reduceIte]; exact FC.own⟩, by rw [hN]; rfl⟩
      have d27 : (x.op == 27) = true := by simpa using o27
      refine (Wo_pre 9 (fun call => by simp only [List.take_succ_cons, List.take_zero, List.drop_succ_cons, List.drop_zero, iops_nil, iops_op, iops_grd, iK_some, iG_true, iG_false, gval_bool, beq_true, beq_false, Bool.not_true, Bool.not_false, iop, ev, upd, dstUpd, binV, binI, unV, ptr, Heap.cell, Heap.write, cellsOf, put, args0, partL, List.getD_cons_zero, List.getD_cons_succ, List.length_cons, List.length_nil, List.set_cons_zero, List.set_cons_succ, List.getElem?_cons_zero, List.getElem?_cons_succ, reduceIte, Nat.reduceEqDiff, Nat.reduceAdd, Nat.reduceMul, Nat.reduceLeDiff, Nat.zero_add, Nat.add_zero, Option.map_some, Int.reduceEq, Int.reduceLT, Int.reduceLE, Bool.false_eq_true, decide_true, decide_false, ge_iff_le, gt_iff_lt, set_get', hg9C, Ins.cells, d27]; rfl) ?_)
      refine Wo_take (by simp only [upd, dstUpd, reduceIte, Nat.reduceEqDiff, gval_bool]; rfl) (Wo_call ?_)
      simp only [List.map_cons, List.map_nil, ev, dstUpd, upd, reduceIte, Nat.reduceEqDiff]
      refine (held24 h24 FC.own.ints (by omega) x.k).mono fun o hD ⟨u1, u2⟩ => ?_
      subst u1 u2
      show Wo T _ _ _
      cases hcn : sn.contains x.k with
      | true =>
        refine (Wo_run (fun call => by simp only [List.drop_succ_cons, List.drop_zero, iops_nil, iops_op, iops_grd, iK_some, iG_true, iG_false, gval_bool, beq_true, beq_false, Bool.not_true, Bool.not_false, iop, ev, upd, dstUpd, binV, binI, unV, ptr, Heap.cell, Heap.write, cellsOf, put, args0, partL, List.getD_cons_zero, List.getD_cons_succ, List.length_cons, List.length_nil, List.set_cons_zero, List.set_cons_succ, List.getElem?_cons_zero, List.getElem?_cons_succ, reduceIte, Nat.reduceEqDiff, Nat.reduceAdd, Nat.reduceMul, Nat.reduceLeDiff, Nat.zero_add, Nat.add_zero, Option.map_some, Int.reduceEq, Int.reduceLT, Int.reduceLE, Bool.false_eq_true, decide_true, decide_false, ge_iff_le, gt_iff_lt, set_get']; rfl) ?_)
        show Wc T _ _ _
        refine Wc_cond true (by simp [ev, upd, dstUpd]) (fun _ => ?_) (fun h => by cases h)
        refine Wc_seq (Wc_ops (Wo_run (fun call => by simp only [List.drop_succ_cons, List.drop_zero, iops_nil, iops_op, iops_grd, iK_some, iG_true, iG_false, gval_bool, beq_true, beq_false, Bool.not_true, Bool.not_false, iop, ev, upd, dstUpd, binV, binI, unV, ptr, Heap.cell, Heap.write, cellsOf, put, args0, partL, List.getD_cons_zero, List.getD_cons_succ, List.length_cons, List.length_nil, List.set_cons_zero, List.set_cons_succ, List.getElem?_cons_zero, List.getElem?_cons_succ, reduceIte, Nat.reduceEqDiff, Nat.reduceAdd, Nat.reduceMul, Nat.reduceLeDiff, Nat.zero_add, Nat.add_zero, Option.map_some, Int.reduceEq, Int.reduceLT, Int.reduceLE, Bool.false_eq_true, decide_true, decide_false, ge_iff_le, gt_iff_lt, set_get', m6]; rfl) ?_))
        exact Wc_ret (badX _ hD FC.k (by simp [upd, m6]) (by simp [upd]) (by simp [upd]) (by simp only [newB, hcn, o27, decide_true, Bool.and_self, Bool.not_true, Bool.and_false]))
      | false =>
        refine (Wo_run (fun call => by simp only [List.drop_succ_cons, List.drop_zero, iops_nil, iops_op, iops_grd, iK_some, iG_true, iG_false, gval_bool, beq_true, beq_false, Bool.not_true, Bool.not_false, iop, ev, upd, dstUpd, binV, binI, unV, ptr, Heap.cell, Heap.write, cellsOf, put, args0, partL, List.getD_cons_zero, List.getD_cons_succ, List.length_cons, List.length_nil, List.set_cons_zero, List.set_cons_succ, List.getElem?_cons_zero, List.getElem?_cons_succ, reduceIte, Nat.reduceEqDiff, Nat.reduceAdd, Nat.reduceMul, Nat.reduceLeDiff, Nat.zero_add, Nat.add_zero, Option.map_some, Int.reduceEq, Int.reduceLT, Int.reduceLE, Bool.false_eq_true, decide_true, decide_false, ge_iff_le, gt_iff_lt, set_get']; rfl) ?_)
        show Wc T _ _ _
        refine Wc_cond false (by simp [ev, upd, dstUpd]) (fun h => by cases h) (fun _ => Wc_skip ?_)
        exact ⟨rfl, by simp [upd, dstUpd, m43], by simp [upd, dstUpd, m44], by simp [upd, dstUpd, m45], by simp [upd, dstUpd, m6], by simp [upd, dstUpd, m7], by simp [upd, dstUpd, m80], by simp [upd, dstUpd, m81], by simp [upd, dstUpd, ptr], by simp [upd, dstUpd], hkC, ⟨FC.k, by simp [upd, dstUpd, FC.e1], by simp only [upd, dstUpd, Nat.reduceEqDiff, reduceIte]; exact FC.own⟩, by simp only [newB, hcn, Bool.and_false, Bool.not_false, Bool.and_self]⟩
  rintro ⟨e4, hD, d⟩ ⟨hdd, n43, n44, n45, n6, n7, n80, n81, n9, n5, hkD, FD, hin⟩
  simp only at hdd n43 n44 n45 n6 n7 n80 n81 n9 n5 hkD FD
  subst hdd
  have hg9D : hD.get b9 = some (.cells x.cells true 0) := by rw [hkD.get _ (by omega)]; exact hg9
  have hgD : hD.get bt = some (.cells f.cells true 0) := by rw [hkD.get _ (by omega), hkB.get _ hbB]; exact hgB
  by_cases o27 : x.op = 27
  case neg =>
    have d27 : (x.op == 27) = false := by simpa using o27
    refine Wc_seq (Wc_ops (Wo_run (fun call => by simp only [List.drop_succ_cons, List.drop_zero, iops_nil, iops_op, iops_grd, iK_some, iG_true, iG_false, gval_bool, beq_true, beq_false, Bool.not_true, Bool.not_false, iop, ev, upd, dstUpd, binV, binI, unV, ptr, Heap.cell, Heap.write, cellsOf, put, args0, partL, List.getD_cons_zero, List.getD_cons_succ, List.length_cons, List.length_nil, List.set_cons_zero, List.set_cons_succ, List.getElem?_cons_zero, List.getElem?_cons_succ, reduceIte, Nat.reduceEqDiff, Nat.reduceAdd, Nat.reduceMul, Nat.reduceLeDiff, Nat.zero_add, Nat.add_zero, Option.map_some, Int.reduceEq, Int.reduceLT, Int.reduceLE, Bool.false_eq_true, decide_true, decide_false, ge_iff_le, gt_iff_lt, set_get', n9, hg9D, Ins.cells, d27]; rfl) ?_))
    show Wc T _ _ _
    refine Wc_cond false (by simp [ev, upd, dstUpd]) (fun h => by cases h) (fun _ => Wc_skip ?_)
    refine ⟨rfl, by simp [upd, n43], by simp [upd, n44], by simp [upd, n45], by simp [upd, n6], by simp [upd, n7], by simp [upd, n80], by simp [upd, n81], hgD, by show bt < hD.next; have := hkD.next; omega, ?_, ?_, hin⟩
    · simp only [upd, Nat.reduceEqDiff, reduceIte, n5]; exact hnown
    · rw [seenNow, if_neg o27]
      ((try simp only [dstUpd]); repeat (first | exact FD | refine F10.upd ?_ (by omega)))
  have d27 : (x.op == 27) = true := by simpa using o27
  refine Wc_seq (Wc_ops (Wo_run (fun call => by simp only [List.drop_succ_cons, List.drop_zero, iops_nil, iops_op, iops_grd, iK_some, iG_true, iG_false, gval_bool, beq_true, beq_false, Bool.not_true, Bool.not_false, iop, ev, upd, dstUpd, binV, binI, unV, ptr, Heap.cell, Heap.write, cellsOf, put, args0, partL, List.getD_cons_zero, List.getD_cons_succ, List.length_cons, List.length_nil, List.set_cons_zero, List.set_cons_succ, List.getElem?_cons_zero, List.getElem?_cons_succ, reduceIte, Nat.reduceEqDiff, Nat.reduceAdd, Nat.reduceMul, Nat.reduceLeDiff, Nat.zero_add, Nat.add_zero, Option.map_some, Int.reduceEq, Int.reduceLT, Int.reduceLE, Bool.false_eq_true, decide_true, decide_false, ge_iff_le, gt_iff_lt, set_get', n9, hg9D, Ins.cells, d27]; rfl) ?_))
  show Wc T _ _ _
  refine Wc_cond true (by simp [ev, upd, dstUpd]) (fun _ => ?_) (fun h => by cases h)
  refine Wc_ops (Wo_pre 4 (fun call => by simp only [List.take_succ_cons, List.take_zero, List.drop_succ_cons, List.drop_zero, iops_nil, iops_op, iops_grd, iK_some, iG_true, iG_false, gval_bool, beq_true, beq_false, Bool.not_true, Bool.not_false, iop, ev, upd, dstUpd, binV, binI, unV, ptr, Heap.cell, Heap.write, cellsOf, put, args0, partL, List.getD_cons_zero, List.getD_cons_succ, List.length_cons, List.length_nil, List.set_cons_zero, List.set_cons_succ, List.getElem?_cons_zero, List.getElem?_cons_succ, reduceIte, Nat.reduceEqDiff, Nat.reduceAdd, Nat.reduceMul, Nat.reduceLeDiff, Nat.zero_add, Nat.add_zero, Option.map_some, Int.reduceEq, Int.reduceLT, Int.reduceLE, Bool.false_eq_true, decide_true, decide_false, ge_iff_le, gt_iff_lt, set_get', n9, hg9D, Ins.cells]; rfl) ?_)
  have hkE : Kept hD (hD.new (.cells [.int .i64 x.k] true 1)) := (Kept.refl hD).new _
  have hel : elemsOf (hD.new (.cells [.int .i64 x.k] true 1)) 1 (.slice (some ⟨hD.next, 0, none⟩) 1 1) = some ([x.k].length, ints64 [x.k]) :=
    intsAt.elems (l := [x.k]) (.inr ⟨hD.next, 1, rfl, Nat.lt_succ_self _, .inr ⟨_, _, new_get' _ _⟩⟩)
  have hnE : (hD.new (.cells [.int .i64 x.k] true 1)).next = hD.next + 1 := rfl
  have FE := FD.heap hkE
  obtain ⟨v', h5, ha, hbs, hown, hnew⟩ := append_own FE.own (by have := FE.k.next; omega) hel (by rw [List.length_singleton]; omega)
  have hap : ∀ e' : Env, e' 110 = e4 5 → e' 113 = .slice (some ⟨hD.next, 0, none⟩) 1 1 → iop (.append 1 8 (.t 110) (.t 113)) e' (hD.new (.cells [.int .i64 x.k] true 1)) = some (v', h5) := by
    intro e' h1' h2'
    simp only [iop, ev, h1', h2']
    exact ha
  have hbt9 : bt < hD.next := by have := hkD.next; omega
  refine Wo_op (hap _ rfl rfl) (Wo_run (fun call => by simp only [List.drop_succ_cons, List.drop_zero, iops_nil, iops_op, iops_grd, iK_some, iG_true, iG_false, gval_bool, beq_true, beq_false, Bool.not_true, Bool.not_false, iop, ev, upd, dstUpd, binV, binI, unV, ptr, Heap.cell, Heap.write, cellsOf, put, args0, partL, List.getD_cons_zero, List.getD_cons_succ, List.length_cons, List.length_nil, List.set_cons_zero, List.set_cons_succ, List.getElem?_cons_zero, List.getElem?_cons_succ, reduceIte, Nat.reduceEqDiff, Nat.reduceAdd, Nat.reduceMul, Nat.reduceLeDiff, Nat.zero_add, Nat.add_zero, Option.map_some, Int.reduceEq, Int.reduceLT, Int.reduceLE, Bool.false_eq_true, decide_true, decide_false, ge_iff_le, gt_iff_lt, set_get']; rfl) ?_)
  refine ⟨rfl, by simp [upd, dstUpd, n43], by simp [upd, dstUpd, n44], by simp [upd, dstUpd, n45], by simp [upd, dstUpd, n6], by simp [upd, dstUpd, n7], by simp [upd, dstUpd, n80], by simp [upd, dstUpd, n81], ?_, ?_, ?_, ?_, hin⟩
  · show h5.get bt = _
    rw [hbs.get bt (by omega) (fun p n c hv => by rw [n5] at hv; exact hnown p n c hv), hkE.get _ hbt9]; exact hgD
  · show bt < h5.next
    have := hbs.next; omega
  · intro p n c' hv
    simp only [upd, dstUpd, Nat.reduceEqDiff, reduceIte] at hv
    rcases hnew p n c' hv with hvv | hle
    · rw [hvv, n5] at hv; exact hnown p n c' hv
    · omega
  · rw [seenNow, if_pos o27]
    exact ⟨hbs.kept FE.own (Nat.le_refl _) FE.k, by simp [upd, dstUpd, FD.e1], by simp only [upd, dstUpd, Nat.reduceEqDiff, reduceIte]; exact hown⟩

end Go.Idl
end

section
/- IrChecks: the law. -/
namespace Go.Idl
set_option linter.unusedVariables false
set_option linter.unusedSimpArgs false
set_option maxRecDepth 100000
open Go.Proofs

theorem T1_3 : T1.fn 3 = some C3 := by
  have h : cfn Try.prog Try.f3 = some C3 := by kernel_rfl
  simp only [T1, T0, Tb0, setPrim, Try.func3, Option.bind_some, h]; rfl
theorem T1_9 : T1.fn 9 = some C9 := by
  have h : cfn Try.prog Try.f9 = some C9 := by kernel_rfl
  simp only [T1, T0, Tb0, setPrim, Try.func9, Option.bind_some, h]; rfl
theorem T1_10 : T1.fn 10 = some C10 := by
  have h : cfn Try.prog Try.f10 = some C10 := by kernel_rfl
  simp only [T1, T0, Tb0, setPrim, Try.func10, Option.bind_some, h]; rfl
theorem T1_21 : T1.fn 21 = some C21 := by
  have h : cfn Try.prog Try.f21 = some C21 := by kernel_rfl
  simp only [T1, T0, Tb0, setPrim, Try.func21, Option.bind_some, h]; rfl
theorem T1_22 : T1.fn 22 = some C22 := by
  have h : cfn Try.prog Try.f22 = some C22 := by kernel_rfl
  simp only [T1, T0, Tb0, setPrim, Try.func22, Option.bind_some, h]; rfl
theorem T1_23 : T1.fn 23 = some C23 := by
  have h : cfn Try.prog Try.f23 = some C23 := by kernel_rfl
  simp only [T1, T0, Tb0, setPrim, Try.func23, Option.bind_some, h]; rfl
theorem T1_24 : T1.fn 24 = some C24 := by
  have h : cfn Try.prog Try.f24 = some C24 := by kernel_rfl
  simp only [T1, T0, Tb0, setPrim, Try.func24, Option.bind_some, h]; rfl
theorem T1_38 : T1.fn 38 = some C38 := by
  have h : cfn Try.prog Try.f38 = some C38 := by kernel_rfl
  simp only [T1, T0, Tb0, setPrim, Try.func38, Option.bind_some, h]; rfl
theorem T1_39 : T1.fn 39 = some C39 := by
  have h : cfn Try.prog Try.f39 = some C39 := by kernel_rfl
  simp only [T1, T0, Tb0, setPrim, Try.func39, Option.bind_some, h]; rfl
theorem T1_40 : T1.fn 40 = some C40 := by
  have h : cfn Try.prog Try.f40 = some C40 := by kernel_rfl
  simp only [T1, T0, Tb0, setPrim, Try.func40, Option.bind_some, h]; rfl
theorem T1_41 : T1.fn 41 = some C41 := by
  have h : cfn Try.prog Try.f41 = some C41 := by kernel_rfl
  simp only [T1, T0, Tb0, setPrim, Try.func41, Option.bind_some, h]; rfl
theorem T1_45 : T1.fn 45 = some C45 := by
  have h : cfn Try.prog Try.f45 = some C45 := by kernel_rfl
  simp only [T1, T0, Tb0, setPrim, Try.func45, Option.bind_some, h]; rfl
theorem T1_46 : T1.fn 46 = some C46 := by
  have h : cfn Try.prog Try.f46 = some C46 := by kernel_rfl
  simp only [T1, T0, Tb0, setPrim, Try.func46, Option.bind_some, h]; rfl
theorem T1_47 : T1.fn 47 = some C47 := by
  have h : cfn Try.prog Try.f47 = some C47 := by kernel_rfl
  simp only [T1, T0, Tb0, setPrim, Try.func47, Option.bind_some, h]; rfl
theorem T1_59 : T1.fn 59 = some C59 := by
  have h : cfn Try.prog Try.f59 = some C59 := by kernel_rfl
  simp only [T1, T0, Tb0, setPrim, Try.func59, Option.bind_some, h]; rfl
theorem T1_66 : T1.fn 66 = some C66 := by
  have h : cfn Try.prog Try.f66 = some C66 := by kernel_rfl
  simp only [T1, T0, Tb0, setPrim, Try.func66, Option.bind_some, h]; rfl

theorem insK39 (c : Cod) : InsK39 T1 c := fun hM hc hf hx => ins39 T1_39 T1_38 T1_47 T1_26 T1_45 T1_46 T1_59 T1_66 rfl rfl (fun hK => of25' hK) hM hc hf hx
theorem ins23' : Ins23 T1 := fun hc hf hx => ins23 T1_23 T1_28 T1_40 T1_41 (fun hK => row27' hK) hc hf hx

theorem law3 {x : Cod} {h : Heap} (hx : x.Ok h) (hsx : x.small) (hbx : x.size < 5000000) : Wk T1 (.fn 3) [.agg x.cells.toArray] h (fun o h' => o = .ret (.bool true)) := by
  refine Wk_fn T1_3 (by simp [C3]) ?_
  simp only [C3]
  have hb : iop (.box (.t 0)) (args0 [.agg x.cells.toArray]) h = some (ptr h.next 0, h.new (.cells x.cells true 0)) := by simp [iop, ev, args0, cellsOf]
  refine Wc_seq (Wc_ops (Wo_op hb (Wo_run (fun call => by simp only [List.drop_succ_cons, List.drop_zero, iops_nil, iops_op, iops_grd, iK_some, iG_true, iG_false, gval_bool, beq_true, beq_false, Bool.not_true, Bool.not_false, iop, ev, upd, dstUpd, binV, binI, unV, ptr, Heap.cell, Heap.write, cellsOf, put, args0, partL, List.getD_cons_zero, List.getD_cons_succ, List.length_cons, List.length_nil, List.set_cons_zero, List.set_cons_succ, List.getElem?_cons_zero, List.getElem?_cons_succ, reduceIte, Nat.reduceEqDiff, Nat.reduceAdd, Nat.reduceMul, Nat.reduceLeDiff, Nat.zero_add, Nat.add_zero, Option.map_some, Int.reduceEq, Int.reduceLT, Int.reduceLE, Bool.false_eq_true, decide_true, decide_false, ge_iff_le, gt_iff_lt, set_get']; rfl) ?_)))
  show Wc _ _ _ _
  have hg2 : (h.new (.cells x.cells true 0)).get h.next = some (.cells x.cells true 0) := new_get' _ _
  have hk : Kept h (h.new (.cells x.cells true 0)) := (Kept.refl h).new _
  have hn1 : (h.new (.cells x.cells true 0)).next = h.next + 1 := rfl
  generalize h.new (.cells x.cells true 0) = h1 at hg2 hk hn1 ⊢
  have hx1 := hx.keep hk
  have out : ∀ (e' : Env) (hp' : Heap), e' 2 = .bool true → ((Ex.ret = .normal ∨ Ex.ret = .ret) ∧ some ([] : List Dfr) = some [] ∧ ∃ vs, resAll e' hp' [.tmp 2] = some vs ∧ Out.ret (tup vs) = .ret (.bool true)) := by
    intro e' hp' h4
    exact ⟨.inr rfl, rfl, [.bool true], by simp only [resAll, resV, h4], rfl⟩
  have lx : ∀ {hq : Heap}, Kept h1 hq → hq.cells h.next 0 3 = some x.cells := fun hkq => cells_all (by rw [hkq.get _ (by omega)]; exact hg2) rfl
  refine Wc_seq (Wc_seq (Wc_ops (Wo_call (wake7 ?_))))
  show Wo _ _ _ _
  refine (Wo_run (fun call => by simp only [List.drop_succ_cons, List.drop_zero, iops_nil, iops_op, iops_grd, iK_some, iG_true, iG_false, gval_bool, beq_true, beq_false, Bool.not_true, Bool.not_false, iop, ev, upd, dstUpd, binV, binI, unV, ptr, Heap.cell, Heap.write, cellsOf, put, args0, partL, List.getD_cons_zero, List.getD_cons_succ, List.length_cons, List.length_nil, List.set_cons_zero, List.set_cons_succ, List.getElem?_cons_zero, List.getElem?_cons_succ, reduceIte, Nat.reduceEqDiff, Nat.reduceAdd, Nat.reduceMul, Nat.reduceLeDiff, Nat.zero_add, Nat.add_zero, Option.map_some, Int.reduceEq, Int.reduceLT, Int.reduceLE, Bool.false_eq_true, decide_true, decide_false, ge_iff_le, gt_iff_lt, set_get']; rfl) ?_)
  show Wc _ _ _ _
  refine Wc_cond false (by simp [ev, upd]) (fun h => by cases h) (fun _ => Wc_skip ?_)
  show Wc _ _ _ _
  refine Wc_seq (Wc_seq (Wc_ops (Wo_op (iop_load (b := h.next) (o := 0) (cs := x.cells) (by simp only [upd, dstUpd, reduceIte, Nat.reduceEqDiff, ptr]) (lx (.refl _))) (Wo_call ?_))))
  show Wk _ (.fn 8) [.agg x.cells.toArray] h1 _
  refine (few8 T1_8 T1_20 x h1 hx1 hsx (by omega)).mono fun o h2 ⟨hk2, ho2⟩ => ?_
  subst ho2
  show Wo _ _ _ _
  by_cases hfx : x.size ≤ 2000
  case neg =>
    refine (Wo_run (fun call => by simp only [List.drop_succ_cons, List.drop_zero, iops_nil, iops_op, iops_grd, iK_some, iG_true, iG_false, gval_bool, beq_true, beq_false, Bool.not_true, Bool.not_false, iop, ev, upd, dstUpd, binV, binI, unV, ptr, Heap.cell, Heap.write, cellsOf, put, args0, partL, List.getD_cons_zero, List.getD_cons_succ, List.length_cons, List.length_nil, List.set_cons_zero, List.set_cons_succ, List.getElem?_cons_zero, List.getElem?_cons_succ, reduceIte, Nat.reduceEqDiff, Nat.reduceAdd, Nat.reduceMul, Nat.reduceLeDiff, Nat.zero_add, Nat.add_zero, Option.map_some, Int.reduceEq, Int.reduceLT, Int.reduceLE, Bool.false_eq_true, decide_true, decide_false, ge_iff_le, gt_iff_lt, set_get', hfx]; rfl) ?_)
    show Wc _ _ _ _
    refine Wc_cond true (by simp [ev, upd]) (fun _ => ?_) (fun h => by cases h)
    refine Wc_seq (Wc_ops (Wo_run (fun call => by simp only [List.drop_succ_cons, List.drop_zero, iops_nil, iops_op, iops_grd, iK_some, iG_true, iG_false, gval_bool, beq_true, beq_false, Bool.not_true, Bool.not_false, iop, ev, upd, dstUpd, binV, binI, unV, ptr, Heap.cell, Heap.write, cellsOf, put, args0, partL, List.getD_cons_zero, List.getD_cons_succ, List.length_cons, List.length_nil, List.set_cons_zero, List.set_cons_succ, List.getElem?_cons_zero, List.getElem?_cons_succ, reduceIte, Nat.reduceEqDiff, Nat.reduceAdd, Nat.reduceMul, Nat.reduceLeDiff, Nat.zero_add, Nat.add_zero, Option.map_some, Int.reduceEq, Int.reduceLT, Int.reduceLE, Bool.false_eq_true, decide_true, decide_false, ge_iff_le, gt_iff_lt, set_get']; rfl) ?_))
    exact Wc_ret (out _ _ (by simp [upd, dstUpd]))
  refine (Wo_run (fun call => by simp only [List.drop_succ_cons, List.drop_zero, iops_nil, iops_op, iops_grd, iK_some, iG_true, iG_false, gval_bool, beq_true, beq_false, Bool.not_true, Bool.not_false, iop, ev, upd, dstUpd, binV, binI, unV, ptr, Heap.cell, Heap.write, cellsOf, put, args0, partL, List.getD_cons_zero, List.getD_cons_succ, List.length_cons, List.length_nil, List.set_cons_zero, List.set_cons_succ, List.getElem?_cons_zero, List.getElem?_cons_succ, reduceIte, Nat.reduceEqDiff, Nat.reduceAdd, Nat.reduceMul, Nat.reduceLeDiff, Nat.zero_add, Nat.add_zero, Option.map_some, Int.reduceEq, Int.reduceLT, Int.reduceLE, Bool.false_eq_true, decide_true, decide_false, ge_iff_le, gt_iff_lt, set_get', hfx]; rfl) ?_)
  show Wc _ _ _ _
  refine Wc_cond false (by simp [ev, upd]) (fun h => by cases h) (fun _ => Wc_skip ?_)
  show Wc _ _ _ _
  refine Wc_seq (Wc_ops (Wo_op (iop_load (b := h.next) (o := 0) (cs := x.cells) (by simp only [upd, dstUpd, reduceIte, Nat.reduceEqDiff, ptr]) (lx hk2)) (Wo_call ?_)))
  show Wk _ (.fn 9) [.agg x.cells.toArray] h2 _
  refine (check9 T1_9 T1_21 T1_22 T1_38 (insK39 x) (hx1.keep hk2)).mono fun o h3 ⟨hk3, ho3⟩ => ?_
  subst ho3
  have hk23 := hk2.trans hk3
  have hsz : fnsSize x.funcs ≤ 5000000 := by have : fnsSize x.funcs = x.size := rfl; omega
  obtain ⟨n, k, b, hres⟩ : ∃ n k b : Int, resC (chk x) = .tuple #[.int .i64 n, .int .i64 k, .int .i64 b] := by
    cases chk x with
    | ok s => exact ⟨0, 0, 0, rfl⟩
    | bad n k => exact ⟨n, k, 100, rfl⟩
  rw [hres]
  show Wo _ _ _ _
  refine (Wo_run (fun call => by simp only [List.drop_succ_cons, List.drop_zero, iops_nil, iops_op, iops_grd, iK_some, iG_true, iG_false, gval_bool, beq_true, beq_false, Bool.not_true, Bool.not_false, iop, ev, upd, dstUpd, binV, binI, unV, ptr, Heap.cell, Heap.write, cellsOf, put, args0, partL, List.getD_cons_zero, List.getD_cons_succ, List.length_cons, List.length_nil, List.set_cons_zero, List.set_cons_succ, List.getElem?_cons_zero, List.getElem?_cons_succ, reduceIte, Nat.reduceEqDiff, Nat.reduceAdd, Nat.reduceMul, Nat.reduceLeDiff, Nat.zero_add, Nat.add_zero, Option.map_some, Int.reduceEq, Int.reduceLT, Int.reduceLE, Bool.false_eq_true, decide_true, decide_false, ge_iff_le, gt_iff_lt, set_get']; rfl) ?_)
  show Wc _ _ _ _
  refine Wc_seq (Wc_ops (Wo_op (iop_load (b := h.next) (o := 0) (cs := x.cells) (by simp only [upd, dstUpd, reduceIte, Nat.reduceEqDiff, ptr]) (lx hk23)) (Wo_call ?_)))
  show Wk _ (.fn 10) [.agg x.cells.toArray] h3 _
  refine (check10 T1_10 ins23' T1_24 (hx1.keep hk23) hsz).mono fun o h4 ⟨hk4, ho4⟩ => ?_
  subst ho4
  rw [hres]
  show Wo _ _ _ _
  refine (Wo_run (fun call => by simp only [List.drop_succ_cons, List.drop_zero, iops_nil, iops_op, iops_grd, iK_some, iG_true, iG_false, gval_bool, beq_true, beq_false, Bool.not_true, Bool.not_false, iop, ev, upd, dstUpd, binV, binI, unV, ptr, Heap.cell, Heap.write, cellsOf, put, args0, partL, List.getD_cons_zero, List.getD_cons_succ, List.length_cons, List.length_nil, List.set_cons_zero, List.set_cons_succ, List.getElem?_cons_zero, List.getElem?_cons_succ, reduceIte, Nat.reduceEqDiff, Nat.reduceAdd, Nat.reduceMul, Nat.reduceLeDiff, Nat.zero_add, Nat.add_zero, Option.map_some, Int.reduceEq, Int.reduceLT, Int.reduceLE, Bool.false_eq_true, decide_true, decide_false, ge_iff_le, gt_iff_lt, set_get']; rfl) ?_)
  show Wc _ _ _ _
  refine Wc_seq (Wc_ops (Wo_run (fun call => by simp only [List.drop_succ_cons, List.drop_zero, iops_nil, iops_op, iops_grd, iK_some, iG_true, iG_false, gval_bool, beq_true, beq_false, Bool.not_true, Bool.not_false, iop, ev, upd, dstUpd, binV, binI, unV, ptr, Heap.cell, Heap.write, cellsOf, put, args0, partL, List.getD_cons_zero, List.getD_cons_succ, List.length_cons, List.length_nil, List.set_cons_zero, List.set_cons_succ, List.getElem?_cons_zero, List.getElem?_cons_succ, reduceIte, Nat.reduceEqDiff, Nat.reduceAdd, Nat.reduceMul, Nat.reduceLeDiff, Nat.zero_add, Nat.add_zero, Option.map_some, Int.reduceEq, Int.reduceLT, Int.reduceLE, Bool.false_eq_true, decide_true, decide_false, ge_iff_le, gt_iff_lt, set_get', beq_self_eq_true]; rfl) ?_))
  show Wc _ _ _ _
  exact Wc_ret (out _ _ (by simp [upd, dstUpd]))

end Go.Idl
end

section
/- IrChecks: for any code (bulk at most 1048576, as the narrowed statement says) the law's call answers true and leaves its arguments as they were. -/
namespace Go.Proofs.Ytfdpknfndjllgaa.irChecks
open Go.ChangeShapes Go.WideShapes Go.ChangeAt Go.RowKit Go.Idl
set_option linter.unusedVariables false
set_option linter.unusedSimpArgs false
set_option maxRecDepth 100000

theorem own : ownKnob Try.prog.godebug = none := by kernel_rfl

theorem kids : Kids Try.prog (· < Try.prog.types.size) := kids_rows (by kernel_rfl) (by kernel_rfl)
theorem full : ∀ t e, t < Try.prog.types.size → Try.prog.underlying t = some (.slice e) → 0 < Try.prog.cellsOf e := slices_full_of Try.prog (by kernel_rfl)
theorem rowed : (24 : Nat) < Try.prog.types.size := of_decide_eq_true (by kernel_rfl)

theorem insTy : Ty Try.prog insTD 34 := by
  simp only [insTD, Ty, TyL]
  refine ⟨_, Try.underlying34, ⟨_, _, rfl, rfl, Try.underlying3, by kernel_rfl, ⟨_, _, rfl, rfl, Try.underlying3, by kernel_rfl, ⟨_, _, rfl, rfl, Try.underlying3, by kernel_rfl, ⟨_, _, rfl, rfl, Try.underlying3, by kernel_rfl, ⟨_, _, rfl, rfl, Try.underlying2, by kernel_rfl, ⟨_, _, rfl, rfl, ⟨3, Try.underlying32, Try.underlying3, by kernel_rfl, by decide⟩, by kernel_rfl, rfl⟩⟩⟩⟩⟩⟩, by kernel_rfl⟩
theorem fnTy : Ty Try.prog fnTD 41 := by
  have hv : Ty Try.prog (.sl insTD) 39 := by
    rw [Ty]
    exact ⟨34, Try.underlying39, insTy, by kernel_rfl, by decide⟩
  unfold fnTD
  rw [Ty]
  simp only [TyL]
  exact ⟨_, Try.underlying41, ⟨_, _, rfl, rfl, by rw [Ty]; exact Try.underlying9, by kernel_rfl, ⟨_, _, rfl, rfl, by rw [Ty]; exact Try.underlying3, by kernel_rfl, ⟨_, _, rfl, rfl, by rw [Ty]; exact Try.underlying3, by kernel_rfl, ⟨_, _, rfl, rfl, hv, by kernel_rfl, rfl⟩⟩⟩⟩, by kernel_rfl⟩
theorem codTy : Ty Try.prog codTD 24 := by
  have hv : Ty Try.prog (.sl fnTD) 22 := by
    rw [Ty]
    exact ⟨41, Try.underlying22, fnTy, by kernel_rfl, by decide⟩
  unfold codTD
  rw [Ty]
  simp only [TyL]
  exact ⟨_, Try.underlying24, ⟨_, _, rfl, rfl, hv, by kernel_rfl, ⟨_, _, rfl, rfl, by rw [Ty]; exact Try.underlying3, by kernel_rfl, ⟨_, _, rfl, rfl, by rw [Ty]; exact Try.underlying3, by kernel_rfl, rfl⟩⟩⟩, by kernel_rfl⟩

mutual
theorem bulk_sum {H : Type} : ∀ (ds : List (DataW H)), (ds.map Rows.uptoBulk).sum = Rows.uptoBulkAll ds
  | [] => by simp [Rows.uptoBulkAll]
  | d :: ds => by simp [Rows.uptoBulkAll, bulk_sum ds]
end

theorem meas {H : Type} : Meas (Rows.uptoBulk (H := H)) :=
  ⟨fun b => by simp [Rows.uptoBulk], fun x => by cases x <;> simp [Rows.uptoBulk], fun es sp => by rw [bulk_sum]; simp only [Rows.uptoBulk]; omega, fun ds => by rw [bulk_sum]; simp only [Rows.uptoBulk]; omega⟩

theorem contract (H : Type) (enc : TypeId × Value → H) (W : World) (base : Nat) (args : Array Value) (ds gs : List (DataW H)) (before : List MemPlace)
    (hval : ∀ (j : Nat) t v, Try.f3.params[j]? = some t → args[j]? = some v → Value.okWide Try.prog W .any base t v)
    (hW : DataW.Whole enc Try.prog Try.f3.params.toList Rows.irChecksSpec.vars false W args.toList ds gs before) (hk : Rows.uptoSmall H (ds ++ gs) = true) :
    Calls Try.prog 3 args W fun e W' => ∃ v, e = .returned v ∧ Rows.irChecksSpec.post enc Try.prog Try.f3 false true false false W args v W' := by
  have hW' := hW
  obtain ⟨p, q, hA, hV, rfl, hfz, hnd⟩ := hW
  have hpar : Try.f3.params.toList = [24] := by rw [Try.params3]
  rw [hpar] at hA
  have hagg : ∀ (j : Nat) t v, [24][j]? = some t → args.toList[j]? = some v → ((∃ fs, Try.prog.underlying t = some (.struct fs)) ↔ ∃ cs, v = .agg cs) := by
    intro j t v ht hv
    have hok := hval j t v (by rw [Try.params3]; rw [← Array.getElem?_toList]; exact ht) (by simpa using hv)
    have h24 : t = 24 := by
      rcases j with _ | j
      · simpa using ht.symm
      · simp at ht
    subst h24
    refine ⟨fun _ => ?_, fun _ => ⟨_, Try.underlying24⟩⟩
    cases v <;> first | exact ⟨_, rfl⟩ | (exfalso; simp [Value.okWide, Cell.okWide, Cell.ok, Try.underlying24] at hok)
  obtain ⟨ι, h, iargs, hok, hro, hla, hrep⟩ := layArgs0 [codTD] ⟨24, [], rfl, codTy, rfl⟩ hA hagg
  simp only [LaysArgs] at hla
  obtain ⟨d, r, v, vr, rfl, rfl, ⟨cs, hl, hcs⟩, rfl, rfl⟩ := hla
  obtain ⟨x, rfl, hx, hm⟩ := cod_of_lays hl
  have hvv : v = .agg x.cells.toArray := hcs
  subst hvv
  have hb := hm _ meas
  have hbk : Rows.uptoBulkAll ([d] ++ gs) ≤ 1048576 := of_decide_eq_true hk
  have hbd : Rows.uptoBulk d ≤ 1048576 := by
    simp only [List.cons_append, List.nil_append, Rows.uptoBulkAll] at hbk; omega
  have sx := codW_size x
  obtain ⟨n, out, h', hi, rfl⟩ := law3 hx (cod_small (by omega)) (by omega)
  have hc := calls_old T1ok hi hok hrep
  rw [show args.toList.toArray = args by simp] at hc
  refine hc.mono fun e W' ⟨⟨w, he, ι', hr⟩, h1, h2, h3, h4, h5⟩ => ?_
  have hw : w = .bool true := rep_ofbool hr
  subst hw
  exact ⟨_, he, post_old (tb := 4) hW' rfl (by kernel_rfl) Try.underlying4 rfl kids full (fun t ht => by rw [hpar] at ht; simp at ht; subst ht; exact rowed) h1 h2 h3 h5⟩

theorem lifted (os : Os) (started : os.Started) (H : Type) (enc : TypeId × Value → H) (F : Stop.Interp) :
    ReturnsInHanded {} Try.checked os 3 .any ((Rows.OpenSpec.upto Rows.irChecksSpec).pre6 enc Try.prog Try.f3 Rows.irChecksUptoRow.domain false) (((Rows.OpenSpec.upto Rows.irChecksSpec).at F).post enc Try.prog Try.f3 false true false false) := by
  refine returnsInHanded_of_cond (C := Try.checked) (s := Rows.OpenSpec.upto Rows.irChecksSpec) (k := Rows.uptoSmall) rfl own started (by kernel_rfl) Try.func3
    (OpenSpec.witness (enc := enc) (C := Try.checked) (s := Rows.OpenSpec.upto Rows.irChecksSpec) (k := Rows.uptoSmall) rfl false ⟨#[], #[.agg #[.slice none 0 0, .int .i64 0, .int .i64 0]], []⟩ 8 (by kernel_rfl) (by kernel_rfl) (by kernel_rfl)
      (x := ([.agg [.nil, .lit (.int .i64 0), .lit (.int .i64 0)]], [], [])) (by kernel_rfl) rfl (by kernel_rfl)) ?_
  intro W base args ds gs before hval hW _ hk _
  exact contract H enc W base args ds gs before hval hW hk

theorem over : Rows.irChecksUptoRow.holds Try.pinned (Rows.OpenSpec.upto Rows.irChecksSpec) :=
  OpenClaim.holds_of_cond 3 Try.f3 rfl rfl rfl rfl rfl rfl rfl ⟨rfl, rfl, rfl, rfl, rfl⟩ rfl rfl rfl rfl rfl (by kernel_rfl) Try.func3 (by kernel_rfl)
    (of_decide_eq_true (by kernel_rfl)) (by unfold Func.isWrapper; first | (rw [if_pos (by decide +kernel)]; kernel_rfl) | (rw [if_neg (by decide +kernel)]; exact ⟨rfl, rfl⟩))
    (fun os started H enc _ F => lifted os started H enc F)

theorem proved : Rows.IrChecksUptoSaid :=
  over

end Go.Proofs.Ytfdpknfndjllgaa.irChecks
end
