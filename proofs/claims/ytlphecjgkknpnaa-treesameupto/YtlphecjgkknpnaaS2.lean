/- tree.Same. -/
import Derived.Test.YtlphecjgkknpnaaS1
import Derived.Test.YtlphecjgkknpnaaN2
namespace Go.Idl
set_option linter.unusedVariables false
set_option linter.unusedSimpArgs false

def ndCells (x : Nd) : List Value := [.int .i64 x.kind, .string x.text, x.kv, .int .i64 x.pos]

theorem sameB_len {a b : List Nd} (h : a.length ≠ b.length) : sameB a b = false := by
  simp only [sameB, decide_eq_false_iff_not]
  intro e
  have := congrArg List.length e
  simp at this; exact h this
theorem sameB_ne {a b : List Nd} {i : Nat} {x y : Nd} (hx : a[i]? = some x) (hy : b[i]? = some y) (h : x.sig ≠ y.sig) : sameB a b = false := by
  simp only [sameB, decide_eq_false_iff_not]
  refine ne_of_at (i := i) (x := x.sig) (y := y.sig) (by simp [hx]) (by simp [hy]) h

theorem same16 {T : Tbl} (hT : T.fn 16 = some C16) {h : Heap} {va vb : Value} {a b : List Nd} (ha : nodesAt h va a) (hb : nodesAt h vb b) (hla : a.length < 4611686018427387904) (hlb : b.length < 4611686018427387904)
    (hka : ∀ x ∈ a, x.kids.length < 4611686018427387904) : Wk T (.fn 16) [va, vb] h (fun o h' => Kept h h' ∧ o = .ret (.bool (sameB a b))) := by
  obtain ⟨p1, c1, h1⟩ := ha.len
  obtain ⟨p2, c2, h2⟩ := hb.len
  have fin : ∀ (e' : Env) (hp' : Heap) (r : Bool), Kept h hp' → sameB a b = r → e' 4 = .bool r → (∃ vs, resAll e' hp' C16.res = some vs ∧ Kept h hp' ∧ Out.ret (tup vs) = .ret (.bool (sameB a b))) := by
    intro e' hp' r hk hr h4
    exact ⟨[.bool r], by simp only [C16, resAll, resV, h4], hk, by rw [hr]; rfl⟩
  refine Wk_fn hT (by simp [C16]) ?_
  simp only [C16]
  refine Wc_seq (Wc_ops (Wo_run (fun call => by simp only [List.drop_succ_cons, List.drop_zero, iops_nil, iops_op, iops_grd, iK_some, iG_true, iG_false, gval_bool, beq_true, beq_false, Bool.not_true, Bool.not_false, iop, ev, upd, dstUpd, binV, binI, unV, ptr, Heap.cell, Heap.write, cellsOf, put, args0, partL, List.getD_cons_zero, List.getD_cons_succ, List.length_cons, List.length_nil, List.set_cons_zero, List.set_cons_succ, List.getElem?_cons_zero, List.getElem?_cons_succ, reduceIte, Nat.reduceEqDiff, Nat.reduceAdd, Nat.reduceMul, Nat.reduceLeDiff, Nat.zero_add, Nat.add_zero, Option.map_some, Int.reduceEq, Int.reduceLT, Int.reduceLE, Bool.false_eq_true, decide_true, decide_false, ge_iff_le, gt_iff_lt, set_get']; rfl) ?_))
  show Wc T _ _ _
  refine Wc_seq (Wc_seq (Wc_ops (Wo_run (fun call => by simp only [List.drop_succ_cons, List.drop_zero, iops_nil, iops_op, iops_grd, iK_some, iG_true, iG_false, gval_bool, beq_true, beq_false, Bool.not_true, Bool.not_false, iop, ev, upd, dstUpd, binV, binI, unV, ptr, Heap.cell, Heap.write, cellsOf, put, args0, partL, List.getD_cons_zero, List.getD_cons_succ, List.length_cons, List.length_nil, List.set_cons_zero, List.set_cons_succ, List.getElem?_cons_zero, List.getElem?_cons_succ, reduceIte, Nat.reduceEqDiff, Nat.reduceAdd, Nat.reduceMul, Nat.reduceLeDiff, Nat.zero_add, Nat.add_zero, Option.map_some, Int.reduceEq, Int.reduceLT, Int.reduceLE, Bool.false_eq_true, decide_true, decide_false, ge_iff_le, gt_iff_lt, set_get', h1, h2]; rfl) ?_)))
  show Wc T _ _ _
  refine Wc_cond ((a.length : Int) != (b.length : Int)) (by simp [ev, upd]) (fun hne => ?_) (fun heq => Wc_skip ?_)
  · refine Wc_seq (Wc_ops (Wo_run (fun call => by simp only [List.drop_succ_cons, List.drop_zero, iops_nil, iops_op, iops_grd, iK_some, iG_true, iG_false, gval_bool, beq_true, beq_false, Bool.not_true, Bool.not_false, iop, ev, upd, dstUpd, binV, binI, unV, ptr, Heap.cell, Heap.write, cellsOf, put, args0, partL, List.getD_cons_zero, List.getD_cons_succ, List.length_cons, List.length_nil, List.set_cons_zero, List.set_cons_succ, List.getElem?_cons_zero, List.getElem?_cons_succ, reduceIte, Nat.reduceEqDiff, Nat.reduceAdd, Nat.reduceMul, Nat.reduceLeDiff, Nat.zero_add, Nat.add_zero, Option.map_some, Int.reduceEq, Int.reduceLT, Int.reduceLE, Bool.false_eq_true, decide_true, decide_false, ge_iff_le, gt_iff_lt, set_get']; rfl) ?_))
    refine Wc_ret ⟨.inr rfl, rfl, fin _ _ false (.refl h) (sameB_len (fun e => by rw [e] at hne; simp at hne)) (by simp [upd, dstUpd])⟩
  show Wc T _ _ _
  have hlen : a.length = b.length := by simp at heq; omega
  refine Wc_seq (Wc_seq (Wc_ops (Wo_run (fun call => by simp only [List.drop_succ_cons, List.drop_zero, iops_nil, iops_op, iops_grd, iK_some, iG_true, iG_false, gval_bool, beq_true, beq_false, Bool.not_true, Bool.not_false, iop, ev, upd, dstUpd, binV, binI, unV, ptr, Heap.cell, Heap.write, cellsOf, put, args0, partL, List.getD_cons_zero, List.getD_cons_succ, List.length_cons, List.length_nil, List.set_cons_zero, List.set_cons_succ, List.getElem?_cons_zero, List.getElem?_cons_succ, reduceIte, Nat.reduceEqDiff, Nat.reduceAdd, Nat.reduceMul, Nat.reduceLeDiff, Nat.zero_add, Nat.add_zero, Option.map_some, Int.reduceEq, Int.reduceLT, Int.reduceLE, Bool.false_eq_true, decide_true, decide_false, ge_iff_le, gt_iff_lt, set_get', h1]; rfl) ?_)))
  show Wc T _ _ _
  refine Wc_block (Wc_loop (fun s => s.d = some [] ∧ Kept h s.h ∧ s.e 15 = va ∧ s.e 1 = vb ∧ s.e 16 = .int .i64 a.length ∧ ∃ i : Nat, i ≤ a.length ∧ s.e 17 = .int .i64 i ∧ (a.take i).map Nd.sig = (b.take i).map Nd.sig)
    (fun s => match s.e 17 with | .int _ i => (a.length - i).toNat | _ => 0) ?_ ?_)
  · exact ⟨rfl, .refl h, by simp [upd, dstUpd, h1], by simp [upd, dstUpd, args0, h2], by simp [upd, dstUpd], 0, Nat.zero_le _, by simp [upd, dstUpd], rfl⟩
  rintro ⟨e, hp, d⟩ ⟨hd, hk, g15, g1, g16, i, hi, g17, ht⟩
  simp only at hd hk g15 g1 g16 g17
  subst hd
  rw [C16L1]
  refine Wc_seq (Wc_ops (Wo_run (fun call => by simp only [List.drop_succ_cons, List.drop_zero, iops_nil, iops_op, iops_grd, iK_some, iG_true, iG_false, gval_bool, beq_true, beq_false, Bool.not_true, Bool.not_false, iop, ev, upd, dstUpd, binV, binI, unV, ptr, Heap.cell, Heap.write, cellsOf, put, args0, partL, List.getD_cons_zero, List.getD_cons_succ, List.length_cons, List.length_nil, List.set_cons_zero, List.set_cons_succ, List.getElem?_cons_zero, List.getElem?_cons_succ, reduceIte, Nat.reduceEqDiff, Nat.reduceAdd, Nat.reduceMul, Nat.reduceLeDiff, Nat.zero_add, Nat.add_zero, Option.map_some, Int.reduceEq, Int.reduceLT, Int.reduceLE, Bool.false_eq_true, decide_true, decide_false, ge_iff_le, gt_iff_lt, set_get', g16, g17]; rfl) ?_))
  show Wc T _ _ _
  refine Wc_seq (Wc_cond (decide ((i : Int) < a.length)) (by simp [ev, upd]) (fun hlt => Wc_skip ?_) (fun hge => Wc_exit ?_))
  case refine_2 =>
    show Wc T _ _ _
    have : i = a.length := by simp at hge; omega
    subst this
    refine Wc_seq (Wc_ops (Wo_run (fun call => by simp only [List.drop_succ_cons, List.drop_zero, iops_nil, iops_op, iops_grd, iK_some, iG_true, iG_false, gval_bool, beq_true, beq_false, Bool.not_true, Bool.not_false, iop, ev, upd, dstUpd, binV, binI, unV, ptr, Heap.cell, Heap.write, cellsOf, put, args0, partL, List.getD_cons_zero, List.getD_cons_succ, List.length_cons, List.length_nil, List.set_cons_zero, List.set_cons_succ, List.getElem?_cons_zero, List.getElem?_cons_succ, reduceIte, Nat.reduceEqDiff, Nat.reduceAdd, Nat.reduceMul, Nat.reduceLeDiff, Nat.zero_add, Nat.add_zero, Option.map_some, Int.reduceEq, Int.reduceLT, Int.reduceLE, Bool.false_eq_true, decide_true, decide_false, ge_iff_le, gt_iff_lt, set_get']; rfl) ?_))
    refine Wc_ret ⟨.inr rfl, rfl, fin _ _ true hk ?_ (by simp [upd, dstUpd])⟩
    rw [List.take_length, hlen, List.take_length] at ht
    simp [sameB, ht]
  show Wc T _ _ _
  have hil : i < a.length := by simpa using hlt
  obtain ⟨x, hxi⟩ : ∃ x, a[i]? = some x := ⟨_, List.getElem?_eq_getElem hil⟩
  obtain ⟨y, hyi⟩ : ∃ y, b[i]? = some y := ⟨_, List.getElem?_eq_getElem (by omega)⟩
  have hil2 : i < b.length := by omega
  obtain ⟨bx, cx, hva, hbx, ⟨o1, z1, hgx⟩, hcx⟩ := (ha.keep hk).load hxi
  have hxk := (ha.keep hk).2 x (List.mem_of_getElem? hxi)
  have hyk := (hb.keep hk).2 y (List.mem_of_getElem? hyi)
  obtain ⟨q1, r1, hkx⟩ := hxk.len
  obtain ⟨q2, r2, hky⟩ := hyk.len
  have hxl := hka x (List.mem_of_getElem? hxi)
  rw [Nat.zero_add] at hcx
  refine Wc_seq (Wc_block (Wc_seq (Wc_ops (Wo_run (fun call => by simp only [List.drop_succ_cons, List.drop_zero, iops_nil, iops_op, iops_grd, iK_some, iG_true, iG_false, gval_bool, beq_true, beq_false, Bool.not_true, Bool.not_false, iop, ev, upd, dstUpd, binV, binI, unV, ptr, Heap.cell, Heap.write, cellsOf, put, args0, partL, List.getD_cons_zero, List.getD_cons_succ, List.length_cons, List.length_nil, List.set_cons_zero, List.set_cons_succ, List.getElem?_cons_zero, List.getElem?_cons_succ, reduceIte, Nat.reduceEqDiff, Nat.reduceAdd, Nat.reduceMul, Nat.reduceLeDiff, Nat.zero_add, Nat.add_zero, Option.map_some, Int.reduceEq, Int.reduceLT, Int.reduceLE, Bool.false_eq_true, decide_true, decide_false, ge_iff_le, gt_iff_lt, set_get', g15, g17, hva, idx_ok hil, hcx, new_get']; rfl) ?_))))
  show Wc T _ _ _
  generalize hA : Heap.set _ _ _ = hpA
  have hkA : Kept h hpA := by rw [← hA]; exact (hk.new _).set hk.next _
  have hgA : hpA.get hp.next = some (.cells (ndCells x) true 0) := by rw [← hA]; exact set_get' _ _ _
  have hnA : hpA.next = hp.next + 1 := by rw [← hA]; rfl
  obtain ⟨by', cy, hvb, hby, ⟨o2, z2, hgy⟩, hcy⟩ := (hb.keep hkA).load hyi
  rw [Nat.zero_add] at hcy
  refine Wc_seq (Wc_ops (Wo_run (fun call => by simp only [List.drop_succ_cons, List.drop_zero, iops_nil, iops_op, iops_grd, iK_some, iG_true, iG_false, gval_bool, beq_true, beq_false, Bool.not_true, Bool.not_false, iop, ev, upd, dstUpd, binV, binI, unV, ptr, Heap.cell, Heap.write, cellsOf, put, args0, partL, List.getD_cons_zero, List.getD_cons_succ, List.length_cons, List.length_nil, List.set_cons_zero, List.set_cons_succ, List.getElem?_cons_zero, List.getElem?_cons_succ, reduceIte, Nat.reduceEqDiff, Nat.reduceAdd, Nat.reduceMul, Nat.reduceLeDiff, Nat.zero_add, Nat.add_zero, Option.map_some, Int.reduceEq, Int.reduceLT, Int.reduceLE, Bool.false_eq_true, decide_true, decide_false, ge_iff_le, gt_iff_lt, set_get', g1, hvb, idx_ok hil2, hcy, new_get']; rfl) ?_))
  show Wc T _ _ _
  generalize hB : Heap.set _ _ _ = hpB
  have hkAB : Kept hpA hpB := by rw [← hB]; exact ((Kept.refl hpA).new _).set (Nat.le_refl _) _
  have hkB : Kept h hpB := hkA.trans hkAB
  have hgB : hpB.get hpA.next = some (.cells (ndCells y) true 0) := by rw [← hB]; exact set_get' _ _ _
  have hgB2 : hpB.get hp.next = some (.cells (ndCells x) true 0) := by rw [hkAB.get _ (by omega)]; exact hgA
  have e1 : IntKind.i64.wrap ((i : Int) + 1) = ((i + 1 : Nat) : Int) := by rw [wrap64] <;> omega
  by_cases hkind : x.kind = y.kind
  case neg =>
    have hk1 : (x.kind != y.kind) = true := by simpa using hkind
    refine Wc_seq (Wc_seq (Wc_ops (Wo_run (fun call => by simp only [List.drop_succ_cons, List.drop_zero, iops_nil, iops_op, iops_grd, iK_some, iG_true, iG_false, gval_bool, beq_true, beq_false, Bool.not_true, Bool.not_false, iop, ev, upd, dstUpd, binV, binI, unV, ptr, Heap.cell, Heap.write, cellsOf, put, args0, partL, List.getD_cons_zero, List.getD_cons_succ, List.length_cons, List.length_nil, List.set_cons_zero, List.set_cons_succ, List.getElem?_cons_zero, List.getElem?_cons_succ, reduceIte, Nat.reduceEqDiff, Nat.reduceAdd, Nat.reduceMul, Nat.reduceLeDiff, Nat.zero_add, Nat.add_zero, Option.map_some, Int.reduceEq, Int.reduceLT, Int.reduceLE, Bool.false_eq_true, decide_true, decide_false, ge_iff_le, gt_iff_lt, set_get', hgB, hgB2, ndCells, hk1]; rfl) ?_)))
    show Wc T _ _ _
    refine Wc_cond true (by simp [ev, upd]) (fun _ => ?_) (fun h => (by cases h))
    refine Wc_seq (Wc_ops (Wo_run (fun call => by simp only [List.drop_succ_cons, List.drop_zero, iops_nil, iops_op, iops_grd, iK_some, iG_true, iG_false, gval_bool, beq_true, beq_false, Bool.not_true, Bool.not_false, iop, ev, upd, dstUpd, binV, binI, unV, ptr, Heap.cell, Heap.write, cellsOf, put, args0, partL, List.getD_cons_zero, List.getD_cons_succ, List.length_cons, List.length_nil, List.set_cons_zero, List.set_cons_succ, List.getElem?_cons_zero, List.getElem?_cons_succ, reduceIte, Nat.reduceEqDiff, Nat.reduceAdd, Nat.reduceMul, Nat.reduceLeDiff, Nat.zero_add, Nat.add_zero, Option.map_some, Int.reduceEq, Int.reduceLT, Int.reduceLE, Bool.false_eq_true, decide_true, decide_false, ge_iff_le, gt_iff_lt, set_get']; rfl) ?_))
    exact Wc_ret ⟨.inr rfl, rfl, fin _ _ false hkB (sameB_ne hxi hyi (fun h => hkind (congrArg (·.1) h))) (by simp [upd, dstUpd])⟩
  have hk1 : (x.kind != y.kind) = false := by simpa using hkind
  by_cases htext : x.text = y.text
  case neg =>
    have hk2 : (!decide (x.text = y.text)) = true := by simpa using htext
    refine Wc_seq (Wc_seq (Wc_ops (Wo_run (fun call => by simp only [List.drop_succ_cons, List.drop_zero, iops_nil, iops_op, iops_grd, iK_some, iG_true, iG_false, gval_bool, beq_true, beq_false, Bool.not_true, Bool.not_false, iop, ev, upd, dstUpd, binV, binI, unV, ptr, Heap.cell, Heap.write, cellsOf, put, args0, partL, List.getD_cons_zero, List.getD_cons_succ, List.length_cons, List.length_nil, List.set_cons_zero, List.set_cons_succ, List.getElem?_cons_zero, List.getElem?_cons_succ, reduceIte, Nat.reduceEqDiff, Nat.reduceAdd, Nat.reduceMul, Nat.reduceLeDiff, Nat.zero_add, Nat.add_zero, Option.map_some, Int.reduceEq, Int.reduceLT, Int.reduceLE, Bool.false_eq_true, decide_true, decide_false, ge_iff_le, gt_iff_lt, set_get', hgB, hgB2, ndCells, hk1, hk2]; rfl) ?_)))
    show Wc T _ _ _
    refine Wc_cond true (by simp [ev, upd]) (fun _ => ?_) (fun h => (by cases h))
    refine Wc_seq (Wc_ops (Wo_run (fun call => by simp only [List.drop_succ_cons, List.drop_zero, iops_nil, iops_op, iops_grd, iK_some, iG_true, iG_false, gval_bool, beq_true, beq_false, Bool.not_true, Bool.not_false, iop, ev, upd, dstUpd, binV, binI, unV, ptr, Heap.cell, Heap.write, cellsOf, put, args0, partL, List.getD_cons_zero, List.getD_cons_succ, List.length_cons, List.length_nil, List.set_cons_zero, List.set_cons_succ, List.getElem?_cons_zero, List.getElem?_cons_succ, reduceIte, Nat.reduceEqDiff, Nat.reduceAdd, Nat.reduceMul, Nat.reduceLeDiff, Nat.zero_add, Nat.add_zero, Option.map_some, Int.reduceEq, Int.reduceLT, Int.reduceLE, Bool.false_eq_true, decide_true, decide_false, ge_iff_le, gt_iff_lt, set_get']; rfl) ?_))
    exact Wc_ret ⟨.inr rfl, rfl, fin _ _ false hkB (sameB_ne hxi hyi (fun h => htext (congrArg (·.2.1) h))) (by simp [upd, dstUpd])⟩
  have hk2 : (!decide (x.text = y.text)) = false := by simpa using htext
  by_cases hkl : x.kids.length = y.kids.length
  case neg =>
    have hk3 : ((x.kids.length : Int) != (y.kids.length : Int)) = true := by simp; omega
    refine Wc_seq (Wc_seq (Wc_ops (Wo_run (fun call => by simp only [List.drop_succ_cons, List.drop_zero, iops_nil, iops_op, iops_grd, iK_some, iG_true, iG_false, gval_bool, beq_true, beq_false, Bool.not_true, Bool.not_false, iop, ev, upd, dstUpd, binV, binI, unV, ptr, Heap.cell, Heap.write, cellsOf, put, args0, partL, List.getD_cons_zero, List.getD_cons_succ, List.length_cons, List.length_nil, List.set_cons_zero, List.set_cons_succ, List.getElem?_cons_zero, List.getElem?_cons_succ, reduceIte, Nat.reduceEqDiff, Nat.reduceAdd, Nat.reduceMul, Nat.reduceLeDiff, Nat.zero_add, Nat.add_zero, Option.map_some, Int.reduceEq, Int.reduceLT, Int.reduceLE, Bool.false_eq_true, decide_true, decide_false, ge_iff_le, gt_iff_lt, set_get', hgB, hgB2, ndCells, hk1, hk2, hkx, hky, hk3]; rfl) ?_)))
    show Wc T _ _ _
    refine Wc_cond true (by simp [ev, upd]) (fun _ => ?_) (fun h => (by cases h))
    refine Wc_seq (Wc_ops (Wo_run (fun call => by simp only [List.drop_succ_cons, List.drop_zero, iops_nil, iops_op, iops_grd, iK_some, iG_true, iG_false, gval_bool, beq_true, beq_false, Bool.not_true, Bool.not_false, iop, ev, upd, dstUpd, binV, binI, unV, ptr, Heap.cell, Heap.write, cellsOf, put, args0, partL, List.getD_cons_zero, List.getD_cons_succ, List.length_cons, List.length_nil, List.set_cons_zero, List.set_cons_succ, List.getElem?_cons_zero, List.getElem?_cons_succ, reduceIte, Nat.reduceEqDiff, Nat.reduceAdd, Nat.reduceMul, Nat.reduceLeDiff, Nat.zero_add, Nat.add_zero, Option.map_some, Int.reduceEq, Int.reduceLT, Int.reduceLE, Bool.false_eq_true, decide_true, decide_false, ge_iff_le, gt_iff_lt, set_get']; rfl) ?_))
    exact Wc_ret ⟨.inr rfl, rfl, fin _ _ false hkB (sameB_ne hxi hyi (fun h => hkl (congrArg (·.2.2.length) h))) (by simp [upd, dstUpd])⟩
  have hk3 : ((x.kids.length : Int) != (y.kids.length : Int)) = false := by simp; omega
  refine Wc_seq (Wc_seq (Wc_ops (Wo_run (fun call => by simp only [List.drop_succ_cons, List.drop_zero, iops_nil, iops_op, iops_grd, iK_some, iG_true, iG_false, gval_bool, beq_true, beq_false, Bool.not_true, Bool.not_false, iop, ev, upd, dstUpd, binV, binI, unV, ptr, Heap.cell, Heap.write, cellsOf, put, args0, partL, List.getD_cons_zero, List.getD_cons_succ, List.length_cons, List.length_nil, List.set_cons_zero, List.set_cons_succ, List.getElem?_cons_zero, List.getElem?_cons_succ, reduceIte, Nat.reduceEqDiff, Nat.reduceAdd, Nat.reduceMul, Nat.reduceLeDiff, Nat.zero_add, Nat.add_zero, Option.map_some, Int.reduceEq, Int.reduceLT, Int.reduceLE, Bool.false_eq_true, decide_true, decide_false, ge_iff_le, gt_iff_lt, set_get', hgB, hgB2, ndCells, hk1, hk2, hkx, hky, hk3]; rfl) ?_)))
  show Wc T _ _ _
  refine Wc_cond false (by simp [ev, upd]) (fun h => (by cases h)) (fun _ => Wc_skip ?_)
  show Wc T _ _ _
  refine Wc_seq (Wc_ops (Wo_run (fun call => by simp only [List.drop_succ_cons, List.drop_zero, iops_nil, iops_op, iops_grd, iK_some, iG_true, iG_false, gval_bool, beq_true, beq_false, Bool.not_true, Bool.not_false, iop, ev, upd, dstUpd, binV, binI, unV, ptr, Heap.cell, Heap.write, cellsOf, put, args0, partL, List.getD_cons_zero, List.getD_cons_succ, List.length_cons, List.length_nil, List.set_cons_zero, List.set_cons_succ, List.getElem?_cons_zero, List.getElem?_cons_succ, reduceIte, Nat.reduceEqDiff, Nat.reduceAdd, Nat.reduceMul, Nat.reduceLeDiff, Nat.zero_add, Nat.add_zero, Option.map_some, Int.reduceEq, Int.reduceLT, Int.reduceLE, Bool.false_eq_true, decide_true, decide_false, ge_iff_le, gt_iff_lt, set_get', hgB2, ndCells, hkx]; rfl) ?_))
  show Wc T _ _ _
  refine Wc_block (kids16 (hxk.keep (Kept.refl _)) (hyk.keep (Kept.refl _)) (⟨by have := hkAB.next; omega, fun k hk' => ?_⟩ : Kept hp hpB) hkl.symm hxl (by simp [upd, dstUpd, hkx]) (by simp [upd, dstUpd]) (by simp [upd, dstUpd]) (b7 := hpA.next) (by simp [upd, dstUpd, ptr]) hgB (by simp [ndCells]) ?_ ?_)
  · rw [hkAB.get k (by omega), ← hA]; exact ((Kept.refl hp).new _).set (Nat.le_refl _) _ |>.get k hk'
  · intro hks e' he'
    show Wc T _ _ _
    have f17 : e' 17 = .int .i64 i := by rw [he' 17 (by omega) (by omega) (by omega)]; simp only [upd, Nat.reduceEqDiff, reduceIte]; exact g17
    refine Wc_ops (Wo_run (fun call => by simp only [List.drop_succ_cons, List.drop_zero, iops_nil, iops_op, iops_grd, iK_some, iG_true, iG_false, gval_bool, beq_true, beq_false, Bool.not_true, Bool.not_false, iop, ev, upd, dstUpd, binV, binI, unV, ptr, Heap.cell, Heap.write, cellsOf, put, args0, partL, List.getD_cons_zero, List.getD_cons_succ, List.length_cons, List.length_nil, List.set_cons_zero, List.set_cons_succ, List.getElem?_cons_zero, List.getElem?_cons_succ, reduceIte, Nat.reduceEqDiff, Nat.reduceAdd, Nat.reduceMul, Nat.reduceLeDiff, Nat.zero_add, Nat.add_zero, Option.map_some, Int.reduceEq, Int.reduceLT, Int.reduceLE, Bool.false_eq_true, decide_true, decide_false, ge_iff_le, gt_iff_lt, set_get', f17, e1]; rfl) ?_)
    refine ⟨⟨rfl, hkB, ?_, ?_, ?_, i + 1, by omega, ?_, ?_⟩, ?_⟩
    · simp only [upd, Nat.reduceEqDiff, reduceIte]; rw [he' 15 (by omega) (by omega) (by omega)]; simp only [upd, Nat.reduceEqDiff, reduceIte]; exact g15
    · simp only [upd, Nat.reduceEqDiff, reduceIte]; rw [he' 1 (by omega) (by omega) (by omega)]; simp only [upd, Nat.reduceEqDiff, reduceIte]; exact g1
    · simp only [upd, Nat.reduceEqDiff, reduceIte]; rw [he' 16 (by omega) (by omega) (by omega)]; simp only [upd, Nat.reduceEqDiff, reduceIte]; exact g16
    · simp only [upd, Nat.reduceEqDiff, reduceIte]
    · rw [List.map_take, List.map_take] at ht ⊢
      exact take_eq_succ ht (x := x.sig) (by simp [hxi]) (by simp [hyi, Nd.sig, hkind, htext, hks])
    · simp only [upd, Nat.reduceEqDiff, reduceIte, g17]; omega
  · intro hks e' h4
    exact ⟨.inr rfl, rfl, fin _ _ false hkB (sameB_ne hxi hyi (fun h => hks (congrArg (·.2.2) h))) h4⟩

end Go.Idl
