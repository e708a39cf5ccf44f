/- The reference's Same. -/
import Derived.Test.YtlphecjgkknpnaaS2
namespace Go.Idl
set_option linter.unusedVariables false
set_option linter.unusedSimpArgs false

theorem same17 {T : Tbl} (hT : T.fn 17 = some C17) {h : Heap} {va vb : Value} {a b : List Nd} (ha : nodesAt h va a) (hb : nodesAt h vb b) (hla : a.length < 4611686018427387904) (hlb : b.length < 4611686018427387904)
    (hka : ∀ x ∈ a, x.kids.length < 4611686018427387904) : Wk T (.fn 17) [va, vb] h (fun o h' => Kept h h' ∧ o = .ret (.bool (sameB a b))) := by
  obtain ⟨p1, c1, h1⟩ := ha.len
  obtain ⟨p2, c2, h2⟩ := hb.len
  have fin : ∀ (e' : Env) (hp' : Heap) (r : Bool), Kept h hp' → sameB a b = r → e' 4 = .bool r → (∃ vs, resAll e' hp' C17.res = some vs ∧ Kept h hp' ∧ Out.ret (tup vs) = .ret (.bool (sameB a b))) := by
    intro e' hp' r hk hr h4
    exact ⟨[.bool r], by simp only [C17, resAll, resV, h4], hk, by rw [hr]; rfl⟩
  refine Wk_fn hT (by simp [C17]) ?_
  simp only [C17]
  refine Wc_seq (Wc_ops (Wo_run (fun call => by simp only [List.drop_succ_cons, List.drop_zero, iops_nil, iops_op, iops_grd, iK_some, iG_true, iG_false, gval_bool, beq_true, beq_false, Bool.not_true, Bool.not_false, iop, ev, upd, dstUpd, binV, binI, unV, ptr, Heap.cell, Heap.write, cellsOf, put, args0, partL, List.getD_cons_zero, List.getD_cons_succ, List.length_cons, List.length_nil, List.set_cons_zero, List.set_cons_succ, List.getElem?_cons_zero, List.getElem?_cons_succ, reduceIte, Nat.reduceEqDiff, Nat.reduceAdd, Nat.reduceMul, Nat.reduceLeDiff, Nat.zero_add, Nat.add_zero, Option.map_some, Int.reduceEq, Int.reduceLT, Int.reduceLE, Bool.false_eq_true, decide_true, decide_false, ge_iff_le, gt_iff_lt, set_get']; rfl) ?_))
  show Wc T _ _ _
  refine Wc_seq (Wc_seq (Wc_ops (Wo_run (fun call => by simp only [List.drop_succ_cons, List.drop_zero, iops_nil, iops_op, iops_grd, iK_some, iG_true, iG_false, gval_bool, beq_true, beq_false, Bool.not_true, Bool.not_false, iop, ev, upd, dstUpd, binV, binI, unV, ptr, Heap.cell, Heap.write, cellsOf, put, args0, partL, List.getD_cons_zero, List.getD_cons_succ, List.length_cons, List.length_nil, List.set_cons_zero, List.set_cons_succ, List.getElem?_cons_zero, List.getElem?_cons_succ, reduceIte, Nat.reduceEqDiff, Nat.reduceAdd, Nat.reduceMul, Nat.reduceLeDiff, Nat.zero_add, Nat.add_zero, Option.map_some, Int.reduceEq, Int.reduceLT, Int.reduceLE, Bool.false_eq_true, decide_true, decide_false, ge_iff_le, gt_iff_lt, set_get', h1, h2]; rfl) ?_)))
  show Wc T _ _ _
  refine Wc_cond ((a.length : Int) != (b.length : Int)) (by simp [ev, upd]) (fun hne => ?_) (fun heq => Wc_skip ?_)
  · refine Wc_seq (Wc_ops (Wo_run (fun call => by simp only [List.drop_succ_cons, List.drop_zero, iops_nil, iops_op, iops_grd, iK_some, iG_true, iG_false, gval_bool, beq_true, beq_false, Bool.not_true, Bool.not_false, iop, ev, upd, dstUpd, binV, binI, unV, ptr, Heap.cell, Heap.write, cellsOf, put, args0, partL, List.getD_cons_zero, List.getD_cons_succ, List.length_cons, List.length_nil, List.set_cons_zero, List.set_cons_succ, List.getElem?_cons_zero, List.getElem?_cons_succ, reduceIte, Nat.reduceEqDiff, Nat.reduceAdd, Nat.reduceMul, Nat.reduceLeDiff, Nat.zero_add, Nat.add_zero, Option.map_some, Int.reduceEq, Int.reduceLT, Int.reduceLE, Bool.false_eq_true, decide_true, decide_false, ge_iff_le, gt_iff_lt, set_get']; rfl) ?_))
    refine Wc_ret ⟨.inr rfl, rfl, fin _ _ false (.refl h) (sameB_len (fun e => by rw [e] at hne; simp at hne)) (by simp [upd, dstUpd])⟩
  show Wc T _ _ _
  have hlen : a.length = b.length := by simp at heq; omega
  refine Wc_seq (Wc_seq (Wc_ops (Wo_run (fun call => by simp only [List.drop_succ_cons, List.drop_zero, iops_nil, iops_op, iops_grd, iK_some, iG_true, iG_false, gval_bool, beq_true, beq_false, Bool.not_true, Bool.not_false, iop, ev, upd, dstUpd, binV, binI, unV, ptr, Heap.cell, Heap.write, cellsOf, put, args0, partL, List.getD_cons_zero, List.getD_cons_succ, List.length_cons, List.length_nil, List.set_cons_zero, List.set_cons_succ, List.getElem?_cons_zero, List.getElem?_cons_succ, reduceIte, Nat.reduceEqDiff, Nat.reduceAdd, Nat.reduceMul, Nat.reduceLeDiff, Nat.zero_add, Nat.add_zero, Option.map_some, Int.reduceEq, Int.reduceLT, Int.reduceLE, Bool.false_eq_true, decide_true, decide_false, ge_iff_le, gt_iff_lt, set_get', h1]; rfl) ?_)))
  show Wc T _ _ _
  refine Wc_block (Wc_loop (fun s => s.d = some [] ∧ Kept h s.h ∧ s.e 0 = va ∧ s.e 1 = vb ∧ s.e 15 = .int .i64 a.length ∧ ∃ i : Nat, i ≤ a.length ∧ s.e 16 = .int .i64 i ∧ (a.take i).map Nd.sig = (b.take i).map Nd.sig)
    (fun s => match s.e 16 with | .int _ i => (a.length - i).toNat | _ => 0) ?_ ?_)
  · exact ⟨rfl, .refl h, by simp [upd, dstUpd, args0, h1], by simp [upd, dstUpd, args0, h2], by simp [upd, dstUpd], 0, Nat.zero_le _, by simp [upd, dstUpd], rfl⟩
  rintro ⟨e, hp, d⟩ ⟨hd, hk, g0, g1, g15, i, hi, g16, ht⟩
  simp only at hd hk g0 g1 g15 g16
  subst hd
  rw [C17L1]
  refine Wc_seq (Wc_ops (Wo_run (fun call => by simp only [List.drop_succ_cons, List.drop_zero, iops_nil, iops_op, iops_grd, iK_some, iG_true, iG_false, gval_bool, beq_true, beq_false, Bool.not_true, Bool.not_false, iop, ev, upd, dstUpd, binV, binI, unV, ptr, Heap.cell, Heap.write, cellsOf, put, args0, partL, List.getD_cons_zero, List.getD_cons_succ, List.length_cons, List.length_nil, List.set_cons_zero, List.set_cons_succ, List.getElem?_cons_zero, List.getElem?_cons_succ, reduceIte, Nat.reduceEqDiff, Nat.reduceAdd, Nat.reduceMul, Nat.reduceLeDiff, Nat.zero_add, Nat.add_zero, Option.map_some, Int.reduceEq, Int.reduceLT, Int.reduceLE, Bool.false_eq_true, decide_true, decide_false, ge_iff_le, gt_iff_lt, set_get', g15, g16]; rfl) ?_))
  show Wc T _ _ _
  refine Wc_seq (Wc_cond (decide ((i : Int) < a.length)) (by simp [ev, upd]) (fun hlt => Wc_skip ?_) (fun hge => Wc_exit ?_))
  case refine_2 =>
    show Wc T _ _ _
    have : i = a.length := by simp at hge; omega
    subst this
    refine Wc_seq (Wc_ops (Wo_run (fun call => by simp only [List.drop_succ_cons, List.drop_zero, iops_nil, iops_op, iops_grd, iK_some, iG_true, iG_false, gval_bool, beq_true, beq_false, Bool.not_true, Bool.not_false, iop, ev, upd, dstUpd, binV, binI, unV, ptr, Heap.cell, Heap.write, cellsOf, put, args0, partL, List.getD_cons_zero, List.getD_cons_succ, List.length_cons, List.length_nil, List.set_cons_zero, List.set_cons_succ, List.getElem?_cons_zero, List.getElem?_cons_succ, reduceIte, Nat.reduceEqDiff, Nat.reduceAdd, Nat.reduceMul, Nat.reduceLeDiff, Nat.zero_add, Nat.add_zero, Option.map_some, Int.reduceEq, Int.reduceLT, Int.reduceLE, Bool.false_eq_true, decide_true, decide_false, ge_iff_le, gt_iff_lt, set_get']; rfl) ?_))
    refine Wc_ret ⟨.inr rfl, rfl, fin _ _ true hk ?_ (by simp [upd, dstUpd])⟩
    rw [List.take_length, hlen, List.take_length] at ht
    simp [sameB, ht]
  show Wc T _ _ _
  have hil : i < a.length := by simpa using hlt
  obtain ⟨x, hxi⟩ : ∃ x, a[i]? = some x := ⟨_, List.getElem?_eq_getElem hil⟩
  obtain ⟨y, hyi⟩ : ∃ y, b[i]? = some y := ⟨_, List.getElem?_eq_getElem (by omega)⟩
  have hil2 : i < b.length := by omega
  obtain ⟨bx, cx, hva, hbx, ⟨o1, z1, hgx⟩, hcx⟩ := (ha.keep hk).load hxi
  have hxk := (ha.keep hk).2 x (List.mem_of_getElem? hxi)
  have hyk := (hb.keep hk).2 y (List.mem_of_getElem? hyi)
  obtain ⟨q1, r1, hkx⟩ := hxk.len
  obtain ⟨q2, r2, hky⟩ := hyk.len
  have hxl := hka x (List.mem_of_getElem? hxi)
  rw [Nat.zero_add] at hcx
  obtain ⟨by', cy, hvb, hby, ⟨o2, z2, hgy⟩, hcy⟩ := (hb.keep hk).load hyi
  rw [Nat.zero_add] at hcy
  refine Wc_seq (Wc_block (Wc_seq (Wc_ops (Wo_run (fun call => by simp only [List.drop_succ_cons, List.drop_zero, iops_nil, iops_op, iops_grd, iK_some, iG_true, iG_false, gval_bool, beq_true, beq_false, Bool.not_true, Bool.not_false, iop, ev, upd, dstUpd, binV, binI, unV, ptr, Heap.cell, Heap.write, cellsOf, put, args0, partL, List.getD_cons_zero, List.getD_cons_succ, List.length_cons, List.length_nil, List.set_cons_zero, List.set_cons_succ, List.getElem?_cons_zero, List.getElem?_cons_succ, reduceIte, Nat.reduceEqDiff, Nat.reduceAdd, Nat.reduceMul, Nat.reduceLeDiff, Nat.zero_add, Nat.add_zero, Option.map_some, Int.reduceEq, Int.reduceLT, Int.reduceLE, Bool.false_eq_true, decide_true, decide_false, ge_iff_le, gt_iff_lt, set_get', g16]; rfl) ?_))))
  show Wc T _ _ _
  have h67 : ((hp.new (.cells [.int .i64 0, .string ⟨#[]⟩, .slice none 0 0, .int .i64 0] true 0)).new (.cells [.int .i64 0, .string ⟨#[]⟩, .slice none 0 0, .int .i64 0] true 0)).get hp.next = some (.cells [.int .i64 0, .string ⟨#[]⟩, .slice none 0 0, .int .i64 0] true 0) := by
    rw [new_get_ne' _ _ (by rw [new_next]; omega), new_get']
  have hsh : ∀ o, (((hp.new (.cells [.int .i64 0, .string ⟨#[]⟩, .slice none 0 0, .int .i64 0] true 0)).new (.cells [.int .i64 0, .string ⟨#[]⟩, .slice none 0 0, .int .i64 0] true 0)).set hp.next o).get (hp.new (.cells [.int .i64 0, .string ⟨#[]⟩, .slice none 0 0, .int .i64 0] true 0)).next = some (.cells [.int .i64 0, .string ⟨#[]⟩, .slice none 0 0, .int .i64 0] true 0) := by
    intro o
    rw [set_get_ne' _ _ (by rw [new_next]; omega), new_get']
  refine Wc_seq (Wc_draw ?_)
  refine Wd_P rfl (by simp only [iop, ev]; rfl) (Wd_P rfl (by simp only [iop, ev, dstUpd, upd, reduceIte, Nat.reduceEqDiff]; rfl) ?_)
  refine Wd_P rfl (by simp only [iop, ev, dstUpd, upd, reduceIte, Nat.reduceEqDiff, g0, g16, hva, idx_ok hil, Option.map_some, Nat.zero_add]; rfl) ?_
  refine Wd_R rfl (by simp only [iop, ev, dstUpd, upd, reduceIte, Nat.reduceEqDiff, ptr, hcx, Option.map_some]; rfl) (fun p hp => (by cases hp)) ?_
  refine Wd_P rfl (by simp only [iop, ev]; rfl) (Wd_P rfl (by simp only [iop, ev, dstUpd, upd, reduceIte, Nat.reduceEqDiff]; rfl) ?_)
  refine Wd_P rfl (by simp only [iop, ev, dstUpd, upd, reduceIte, Nat.reduceEqDiff, g1, g16, hvb, idx_ok hil2, Option.map_some, Nat.zero_add]; rfl) ?_
  refine Wd_R rfl (by simp only [iop, ev, dstUpd, upd, reduceIte, Nat.reduceEqDiff, ptr, hcy, Option.map_some]; rfl) (fun p hp => (by cases hp)) ?_
  refine Wd_A rfl (by simp only [iop]; rfl) (Wd_A rfl (by simp only [iop]; rfl) ?_)
  simp only [locOp, ev, dstUpd, upd, reduceIte, Nat.reduceEqDiff, ptr]
  refine Wd_E rfl (by simp only [iop, ev, dstUpd, upd, reduceIte, Nat.reduceEqDiff, cellsOf, Heap.write, h67, put, List.length_cons, List.length_nil, Nat.reduceAdd, Nat.zero_add, Nat.reduceLeDiff, Option.map_some]; rfl) ?_ ?_
  · intro p hp'
    simp only [List.mem_cons, List.not_mem_nil, or_false] at hp'
    rcases hp' with rfl | rfl | rfl | rfl
    · exact .inl (by simp)
    · exact .inl (by simp)
    · exact .inr (sameAt_cells (by omega))
    · exact .inl (by simp)
  refine Wd_E rfl (by simp only [iop, ev, dstUpd, upd, reduceIte, Nat.reduceEqDiff, cellsOf, Heap.write, hsh, put, List.length_cons, List.length_nil, Nat.reduceAdd, Nat.zero_add, Nat.reduceLeDiff, Option.map_some]; rfl) ?_ ?_
  · intro p hp'
    simp only [List.mem_cons, List.not_mem_nil, or_false] at hp'
    rcases hp' with rfl | rfl | rfl | rfl <;> exact .inl (by simp)
  refine Wd_nil ?_
  show Wc T _ _ _
  generalize hB : Heap.set _ _ _ = hpB
  have hkB : Kept h hpB := by rw [← hB]; exact ((((hk.new _).new _).set hk.next _).set (Nat.le_succ_of_le hk.next) _)
  have hkpB : Kept hp hpB := by rw [← hB]; exact (((((Kept.refl hp).new _).new _).set (Nat.le_refl _) _).set (Nat.le_succ _) _)
  have hgB : hpB.get (hp.next + 1) = some (.cells (ndCells y) true 0) := by rw [← hB]; exact set_get' _ _ _
  have hgB2 : hpB.get hp.next = some (.cells (ndCells x) true 0) := by
    rw [← hB]
    rw [set_get_ne' _ _ (by rw [new_next]; omega), set_get']; rfl
  have e1 : IntKind.i64.wrap ((i : Int) + 1) = ((i + 1 : Nat) : Int) := by rw [wrap64] <;> omega
  by_cases hkind : x.kind = y.kind
  case neg =>
    have hk1 : (x.kind != y.kind) = true := by simpa using hkind
    refine Wc_seq (Wc_seq (Wc_ops (Wo_run (fun call => by simp only [List.drop_succ_cons, List.drop_zero, iops_nil, iops_op, iops_grd, iK_some, iG_true, iG_false, gval_bool, beq_true, beq_false, Bool.not_true, Bool.not_false, iop, ev, upd, dstUpd, binV, binI, unV, ptr, Heap.cell, Heap.write, cellsOf, put, args0, partL, List.getD_cons_zero, List.getD_cons_succ, List.length_cons, List.length_nil, List.set_cons_zero, List.set_cons_succ, List.getElem?_cons_zero, List.getElem?_cons_succ, reduceIte, Nat.reduceEqDiff, Nat.reduceAdd, Nat.reduceMul, Nat.reduceLeDiff, Nat.zero_add, Nat.add_zero, Option.map_some, Int.reduceEq, Int.reduceLT, Int.reduceLE, Bool.false_eq_true, decide_true, decide_false, ge_iff_le, gt_iff_lt, set_get', new_next, hgB, hgB2, ndCells, hk1]; rfl) ?_)))
    show Wc T _ _ _
    refine Wc_cond true (by simp [ev, upd]) (fun _ => ?_) (fun h => (by cases h))
    refine Wc_seq (Wc_ops (Wo_run (fun call => by simp only [List.drop_succ_cons, List.drop_zero, iops_nil, iops_op, iops_grd, iK_some, iG_true, iG_false, gval_bool, beq_true, beq_false, Bool.not_true, Bool.not_false, iop, ev, upd, dstUpd, binV, binI, unV, ptr, Heap.cell, Heap.write, cellsOf, put, args0, partL, List.getD_cons_zero, List.getD_cons_succ, List.length_cons, List.length_nil, List.set_cons_zero, List.set_cons_succ, List.getElem?_cons_zero, List.getElem?_cons_succ, reduceIte, Nat.reduceEqDiff, Nat.reduceAdd, Nat.reduceMul, Nat.reduceLeDiff, Nat.zero_add, Nat.add_zero, Option.map_some, Int.reduceEq, Int.reduceLT, Int.reduceLE, Bool.false_eq_true, decide_true, decide_false, ge_iff_le, gt_iff_lt, set_get']; rfl) ?_))
    exact Wc_ret ⟨.inr rfl, rfl, fin _ _ false hkB (sameB_ne hxi hyi (fun h => hkind (congrArg (·.1) h))) (by simp [upd, dstUpd])⟩
  have hk1 : (x.kind != y.kind) = false := by simpa using hkind
  by_cases htext : x.text = y.text
  case neg =>
    have hk2 : (!decide (x.text = y.text)) = true := by simpa using htext
    refine Wc_seq (Wc_seq (Wc_ops (Wo_run (fun call => by simp only [List.drop_succ_cons, List.drop_zero, iops_nil, iops_op, iops_grd, iK_some, iG_true, iG_false, gval_bool, beq_true, beq_false, Bool.not_true, Bool.not_false, iop, ev, upd, dstUpd, binV, binI, unV, ptr, Heap.cell, Heap.write, cellsOf, put, args0, partL, List.getD_cons_zero, List.getD_cons_succ, List.length_cons, List.length_nil, List.set_cons_zero, List.set_cons_succ, List.getElem?_cons_zero, List.getElem?_cons_succ, reduceIte, Nat.reduceEqDiff, Nat.reduceAdd, Nat.reduceMul, Nat.reduceLeDiff, Nat.zero_add, Nat.add_zero, Option.map_some, Int.reduceEq, Int.reduceLT, Int.reduceLE, Bool.false_eq_true, decide_true, decide_false, ge_iff_le, gt_iff_lt, set_get', new_next, hgB, hgB2, ndCells, hk1, hk2]; rfl) ?_)))
    show Wc T _ _ _
    refine Wc_cond true (by simp [ev, upd]) (fun _ => ?_) (fun h => (by cases h))
    refine Wc_seq (Wc_ops (Wo_run (fun call => by simp only [List.drop_succ_cons, List.drop_zero, iops_nil, iops_op, iops_grd, iK_some, iG_true, iG_false, gval_bool, beq_true, beq_false, Bool.not_true, Bool.not_false, iop, ev, upd, dstUpd, binV, binI, unV, ptr, Heap.cell, Heap.write, cellsOf, put, args0, partL, List.getD_cons_zero, List.getD_cons_succ, List.length_cons, List.length_nil, List.set_cons_zero, List.set_cons_succ, List.getElem?_cons_zero, List.getElem?_cons_succ, reduceIte, Nat.reduceEqDiff, Nat.reduceAdd, Nat.reduceMul, Nat.reduceLeDiff, Nat.zero_add, Nat.add_zero, Option.map_some, Int.reduceEq, Int.reduceLT, Int.reduceLE, Bool.false_eq_true, decide_true, decide_false, ge_iff_le, gt_iff_lt, set_get']; rfl) ?_))
    exact Wc_ret ⟨.inr rfl, rfl, fin _ _ false hkB (sameB_ne hxi hyi (fun h => htext (congrArg (·.2.1) h))) (by simp [upd, dstUpd])⟩
  have hk2 : (!decide (x.text = y.text)) = false := by simpa using htext
  by_cases hkl : x.kids.length = y.kids.length
  case neg =>
    have hk3 : ((x.kids.length : Int) != (y.kids.length : Int)) = true := by simp; omega
    refine Wc_seq (Wc_seq (Wc_ops (Wo_run (fun call => by simp only [List.drop_succ_cons, List.drop_zero, iops_nil, iops_op, iops_grd, iK_some, iG_true, iG_false, gval_bool, beq_true, beq_false, Bool.not_true, Bool.not_false, iop, ev, upd, dstUpd, binV, binI, unV, ptr, Heap.cell, Heap.write, cellsOf, put, args0, partL, List.getD_cons_zero, List.getD_cons_succ, List.length_cons, List.length_nil, List.set_cons_zero, List.set_cons_succ, List.getElem?_cons_zero, List.getElem?_cons_succ, reduceIte, Nat.reduceEqDiff, Nat.reduceAdd, Nat.reduceMul, Nat.reduceLeDiff, Nat.zero_add, Nat.add_zero, Option.map_some, Int.reduceEq, Int.reduceLT, Int.reduceLE, Bool.false_eq_true, decide_true, decide_false, ge_iff_le, gt_iff_lt, set_get', new_next, hgB, hgB2, ndCells, hk1, hk2, hkx, hky, hk3]; rfl) ?_)))
    show Wc T _ _ _
    refine Wc_cond true (by simp [ev, upd]) (fun _ => ?_) (fun h => (by cases h))
    refine Wc_seq (Wc_ops (Wo_run (fun call => by simp only [List.drop_succ_cons, List.drop_zero, iops_nil, iops_op, iops_grd, iK_some, iG_true, iG_false, gval_bool, beq_true, beq_false, Bool.not_true, Bool.not_false, iop, ev, upd, dstUpd, binV, binI, unV, ptr, Heap.cell, Heap.write, cellsOf, put, args0, partL, List.getD_cons_zero, List.getD_cons_succ, List.length_cons, List.length_nil, List.set_cons_zero, List.set_cons_succ, List.getElem?_cons_zero, List.getElem?_cons_succ, reduceIte, Nat.reduceEqDiff, Nat.reduceAdd, Nat.reduceMul, Nat.reduceLeDiff, Nat.zero_add, Nat.add_zero, Option.map_some, Int.reduceEq, Int.reduceLT, Int.reduceLE, Bool.false_eq_true, decide_true, decide_false, ge_iff_le, gt_iff_lt, set_get']; rfl) ?_))
    exact Wc_ret ⟨.inr rfl, rfl, fin _ _ false hkB (sameB_ne hxi hyi (fun h => hkl (congrArg (·.2.2.length) h))) (by simp [upd, dstUpd])⟩
  have hk3 : ((x.kids.length : Int) != (y.kids.length : Int)) = false := by simp; omega
  refine Wc_seq (Wc_seq (Wc_ops (Wo_run (fun call => by simp only [List.drop_succ_cons, List.drop_zero, iops_nil, iops_op, iops_grd, iK_some, iG_true, iG_false, gval_bool, beq_true, beq_false, Bool.not_true, Bool.not_false, iop, ev, upd, dstUpd, binV, binI, unV, ptr, Heap.cell, Heap.write, cellsOf, put, args0, partL, List.getD_cons_zero, List.getD_cons_succ, List.length_cons, List.length_nil, List.set_cons_zero, List.set_cons_succ, List.getElem?_cons_zero, List.getElem?_cons_succ, reduceIte, Nat.reduceEqDiff, Nat.reduceAdd, Nat.reduceMul, Nat.reduceLeDiff, Nat.zero_add, Nat.add_zero, Option.map_some, Int.reduceEq, Int.reduceLT, Int.reduceLE, Bool.false_eq_true, decide_true, decide_false, ge_iff_le, gt_iff_lt, set_get', new_next, hgB, hgB2, ndCells, hk1, hk2, hkx, hky, hk3]; rfl) ?_)))
  show Wc T _ _ _
  refine Wc_cond false (by simp [ev, upd]) (fun h => (by cases h)) (fun _ => Wc_skip ?_)
  show Wc T _ _ _
  refine Wc_seq (Wc_ops (Wo_run (fun call => by simp only [List.drop_succ_cons, List.drop_zero, iops_nil, iops_op, iops_grd, iK_some, iG_true, iG_false, gval_bool, beq_true, beq_false, Bool.not_true, Bool.not_false, iop, ev, upd, dstUpd, binV, binI, unV, ptr, Heap.cell, Heap.write, cellsOf, put, args0, partL, List.getD_cons_zero, List.getD_cons_succ, List.length_cons, List.length_nil, List.set_cons_zero, List.set_cons_succ, List.getElem?_cons_zero, List.getElem?_cons_succ, reduceIte, Nat.reduceEqDiff, Nat.reduceAdd, Nat.reduceMul, Nat.reduceLeDiff, Nat.zero_add, Nat.add_zero, Option.map_some, Int.reduceEq, Int.reduceLT, Int.reduceLE, Bool.false_eq_true, decide_true, decide_false, ge_iff_le, gt_iff_lt, set_get', hgB2, ndCells, hkx]; rfl) ?_))
  show Wc T _ _ _
  refine Wc_block (kids17 (hxk.keep (Kept.refl _)) (hyk.keep (Kept.refl _)) hkpB hkl.symm hxl (by simp [upd, dstUpd]) (by simp [upd, dstUpd]) (b7 := hp.next + 1) (by simp [upd, dstUpd, ptr, new_next]) (b6 := hp.next) (by simp [upd, dstUpd, ptr]) hgB2 (by simp [ndCells]) hgB (by simp [ndCells]) ?_ ?_)
  · intro hks e' he'
    show Wc T _ _ _
    have f16 : e' 16 = .int .i64 i := by rw [he' 16 (by omega) (by omega)]; simp only [upd, Nat.reduceEqDiff, reduceIte]; exact g16
    refine Wc_ops (Wo_run (fun call => by simp only [List.drop_succ_cons, List.drop_zero, iops_nil, iops_op, iops_grd, iK_some, iG_true, iG_false, gval_bool, beq_true, beq_false, Bool.not_true, Bool.not_false, iop, ev, upd, dstUpd, binV, binI, unV, ptr, Heap.cell, Heap.write, cellsOf, put, args0, partL, List.getD_cons_zero, List.getD_cons_succ, List.length_cons, List.length_nil, List.set_cons_zero, List.set_cons_succ, List.getElem?_cons_zero, List.getElem?_cons_succ, reduceIte, Nat.reduceEqDiff, Nat.reduceAdd, Nat.reduceMul, Nat.reduceLeDiff, Nat.zero_add, Nat.add_zero, Option.map_some, Int.reduceEq, Int.reduceLT, Int.reduceLE, Bool.false_eq_true, decide_true, decide_false, ge_iff_le, gt_iff_lt, set_get', f16, e1]; rfl) ?_)
    refine ⟨⟨rfl, hkB, ?_, ?_, ?_, i + 1, by omega, ?_, ?_⟩, ?_⟩
    · simp only [upd, Nat.reduceEqDiff, reduceIte]; rw [he' 0 (by omega) (by omega)]; simp only [upd, Nat.reduceEqDiff, reduceIte]; exact g0
    · simp only [upd, Nat.reduceEqDiff, reduceIte]; rw [he' 1 (by omega) (by omega)]; simp only [upd, Nat.reduceEqDiff, reduceIte]; exact g1
    · simp only [upd, Nat.reduceEqDiff, reduceIte]; rw [he' 15 (by omega) (by omega)]; simp only [upd, Nat.reduceEqDiff, reduceIte]; exact g15
    · simp only [upd, Nat.reduceEqDiff, reduceIte]
    · rw [List.map_take, List.map_take] at ht ⊢
      exact take_eq_succ ht (x := x.sig) (by simp [hxi]) (by simp [hyi, Nd.sig, hkind, htext, hks])
    · simp only [upd, Nat.reduceEqDiff, reduceIte, g16]; omega
  · intro hks e' h4
    exact ⟨.inr rfl, rfl, fin _ _ false hkB (sameB_ne hxi hyi (fun h => hks (congrArg (·.2.2) h))) h4⟩

end Go.Idl
