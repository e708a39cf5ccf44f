/- InterpNone at the ideal level. -/
import Derived.Test.YtaejfnbifbflkaaGreatZ0
import Derived.Test.YtaejfnbifbflkaaGreatZ1
namespace Go.Idl
set_option linter.unusedVariables false
set_option linter.unusedSimpArgs false
set_option maxRecDepth 100000

def zeroM : List Value := [(.slice none 0 0), (.int .i64 0), (.int .i64 0), (.pointer none), (.slice none 0 0), (.slice none 0 0), (.slice none 0 0), (.int .i64 0), (.int .i64 0), (.int .i64 0), (.int .i64 0), (.int .i64 0), (.int .i64 0), (.int .i64 0), (.slice none 0 0), (.int .i64 0), (.int .i64 0), (.int .i64 0), (.bool false), (.bool false), .nilFunc, .nilFunc, .nilFunc, .nilFunc, .nilFunc, .nilFunc, .nilFunc, .nilFunc, .nilFunc, .nilFunc, .nilFunc, .nilFunc, .nilFunc, .nilFunc, .nilFunc, .nilFunc, .nilFunc, .nilFunc, .nilFunc, .nilFunc, .nilFunc, .nilFunc, .nilFunc, .nilFunc, .nilFunc, .nilFunc, .nilFunc, .nilFunc, .nilFunc]

theorem law3 {h : Heap} {kv nv n l : Value} (hl : ∃ a len c, l = .slice a len c) (hkv : cellsOf (.agg #[kv, nv]) = some [kv, nv]) : Wk T1 (.fn 3) [.agg #[kv, nv], n, l] h (fun o h' => o = .ret (.bool true)) := by
  obtain ⟨al, len, cl, rfl⟩ := hl
  refine Wk_fn T1_3 (by simp [C3]) ?_
  simp only [C3]
  have hb : iop (.box (.t 0)) (args0 [.agg #[kv, nv], n, .slice al len cl]) h = some (ptr h.next 0, h.new (.cells [kv, nv] true 0)) := rfl
  refine Wc_seq (Wc_ops (Wo_op hb (Wo_run (fun call => by simp only [List.drop_succ_cons, List.drop_zero, iops_nil, iops_op, iops_grd, iK_some, iG_true, iG_false, gval_bool, beq_true, beq_false, Bool.not_true, Bool.not_false, iop, ev, upd, dstUpd, binV, binI, unV, ptr, Heap.cell, Heap.write, cellsOf, put, args0, partL, List.getD_cons_zero, List.getD_cons_succ, List.length_cons, List.length_nil, List.set_cons_zero, List.set_cons_succ, List.getElem?_cons_zero, List.getElem?_cons_succ, reduceIte, Nat.reduceEqDiff, Nat.reduceAdd, Nat.reduceMul, Nat.reduceLeDiff, Nat.zero_add, Nat.add_zero, Option.map_some, Int.reduceEq, Int.reduceLT, Int.reduceLE, Bool.false_eq_true, decide_true, decide_false, ge_iff_le, gt_iff_lt, set_get']; rfl) ?_)))
  show Wc _ _ _ _
  have hg3 : (h.new (.cells [kv, nv] true 0)).get h.next = some (.cells [kv, nv] true 0) := new_get' _ _
  have hn1 : h.next < (h.new (.cells [kv, nv] true 0)).next := Nat.lt_succ_self _
  generalize h.new (.cells [kv, nv] true 0) = h1 at hg3 hn1 ⊢
  generalize h.next = b3 at hg3 hn1 ⊢
  have out : ∀ (e' : Env) (hp' : Heap), e' 6 = .bool true → ((Ex.ret = .normal ∨ Ex.ret = .ret) ∧ some ([] : List Dfr) = some [] ∧ ∃ vs, resAll e' hp' [.tmp 6] = some vs ∧ Out.ret (tup vs) = .ret (.bool true)) := by
    intro e' hp' h4
    exact ⟨.inr rfl, rfl, [.bool true], by simp only [resAll, resV, h4], rfl⟩
  refine Wc_seq (Wc_seq (Wc_ops (Wo_call (wake4 ?_))))
  show Wo _ _ _ _
  refine (Wo_run (fun call => by simp only [List.drop_succ_cons, List.drop_zero, iops_nil, iops_op, iops_grd, iK_some, iG_true, iG_false, gval_bool, beq_true, beq_false, Bool.not_true, Bool.not_false, iop, ev, upd, dstUpd, binV, binI, unV, ptr, Heap.cell, Heap.write, cellsOf, put, args0, partL, List.getD_cons_zero, List.getD_cons_succ, List.length_cons, List.length_nil, List.set_cons_zero, List.set_cons_succ, List.getElem?_cons_zero, List.getElem?_cons_succ, reduceIte, Nat.reduceEqDiff, Nat.reduceAdd, Nat.reduceMul, Nat.reduceLeDiff, Nat.zero_add, Nat.add_zero, Option.map_some, Int.reduceEq, Int.reduceLT, Int.reduceLE, Bool.false_eq_true, decide_true, decide_false, ge_iff_le, gt_iff_lt, set_get']; rfl) ?_)
  show Wc _ _ _ _
  refine Wc_cond false (by simp [ev, upd]) (fun h => by cases h) (fun _ => Wc_skip ?_)
  show Wc _ _ _ _
  refine Wc_seq (Wc_seq (Wc_ops (Wo_run (fun call => by simp only [List.drop_succ_cons, List.drop_zero, iops_nil, iops_op, iops_grd, iK_some, iG_true, iG_false, gval_bool, beq_true, beq_false, Bool.not_true, Bool.not_false, iop, ev, upd, dstUpd, binV, binI, unV, ptr, Heap.cell, Heap.write, cellsOf, put, args0, partL, List.getD_cons_zero, List.getD_cons_succ, List.length_cons, List.length_nil, List.set_cons_zero, List.set_cons_succ, List.getElem?_cons_zero, List.getElem?_cons_succ, reduceIte, Nat.reduceEqDiff, Nat.reduceAdd, Nat.reduceMul, Nat.reduceLeDiff, Nat.zero_add, Nat.add_zero, Option.map_some, Int.reduceEq, Int.reduceLT, Int.reduceLE, Bool.false_eq_true, decide_true, decide_false, ge_iff_le, gt_iff_lt, set_get']; rfl) ?_)))
  show Wc _ _ _ _
  refine Wc_cond (decide ((100 : Int) < len)) (by simp [ev, upd]) (fun _ => ?_) (fun hle => Wc_skip ?_)
  · refine Wc_seq (Wc_ops (Wo_run (fun call => by simp only [List.drop_succ_cons, List.drop_zero, iops_nil, iops_op, iops_grd, iK_some, iG_true, iG_false, gval_bool, beq_true, beq_false, Bool.not_true, Bool.not_false, iop, ev, upd, dstUpd, binV, binI, unV, ptr, Heap.cell, Heap.write, cellsOf, put, args0, partL, List.getD_cons_zero, List.getD_cons_succ, List.length_cons, List.length_nil, List.set_cons_zero, List.set_cons_succ, List.getElem?_cons_zero, List.getElem?_cons_succ, reduceIte, Nat.reduceEqDiff, Nat.reduceAdd, Nat.reduceMul, Nat.reduceLeDiff, Nat.zero_add, Nat.add_zero, Option.map_some, Int.reduceEq, Int.reduceLT, Int.reduceLE, Bool.false_eq_true, decide_true, decide_false, ge_iff_le, gt_iff_lt, set_get']; rfl) ?_))
    exact Wc_ret (out _ _ (by simp [upd, dstUpd]))
  show Wc _ _ _ _
  refine Wc_seq (Wc_ops (Wo_run (fun call => by simp only [List.drop_succ_cons, List.drop_zero, iops_nil, iops_op, iops_grd, iK_some, iG_true, iG_false, gval_bool, beq_true, beq_false, Bool.not_true, Bool.not_false, iop, ev, upd, dstUpd, binV, binI, unV, ptr, Heap.cell, Heap.write, cellsOf, put, args0, partL, List.getD_cons_zero, List.getD_cons_succ, List.length_cons, List.length_nil, List.set_cons_zero, List.set_cons_succ, List.getElem?_cons_zero, List.getElem?_cons_succ, reduceIte, Nat.reduceEqDiff, Nat.reduceAdd, Nat.reduceMul, Nat.reduceLeDiff, Nat.zero_add, Nat.add_zero, Option.map_some, Int.reduceEq, Int.reduceLT, Int.reduceLE, Bool.false_eq_true, decide_true, decide_false, ge_iff_le, gt_iff_lt, set_get']; rfl) ?_))
  show Wc _ _ _ _
  have hlit : ∀ (e : Env) (hp : Heap), e 22 = .pointer none → e 24 = ptr h1.next 0 → iop (.lit 1 2 [(.pointer none), (.pointer none)] [(0, 1, (.t 22)), (1, 1, (.t 24))]) e hp = some (.slice (some ⟨hp.next, 0, none⟩) 2 2, hp.new (.cells [.pointer none, .pointer (some ⟨h1.next, 0, none⟩)] true 1)) := by
    intro e hp h22 h24
    simp only [iop, evps, List.map_cons, List.map_nil, ev, h22, h24]
    rfl
  refine Wc_seq (Wc_seq (Wc_ops (Wo_op rfl (Wo_op (show iop (.build zeroM []) _ h1 = some (.agg zeroM.toArray, h1) from rfl) (Wo_op (show iop (.box (.t 23)) _ h1 = some (ptr h1.next 0, h1.new (.cells zeroM true 0)) from rfl) (Wo_op (hlit _ _ rfl rfl) (Wo_run (fun call => by simp only [List.drop_succ_cons, List.drop_zero, iops_nil, iops_op, iops_grd, iK_some, iG_true, iG_false, gval_bool, beq_true, beq_false, Bool.not_true, Bool.not_false, iop, ev, upd, dstUpd, binV, binI, unV, ptr, Heap.cell, Heap.write, cellsOf, put, args0, partL, List.getD_cons_zero, List.getD_cons_succ, List.length_cons, List.length_nil, List.set_cons_zero, List.set_cons_succ, List.getElem?_cons_zero, List.getElem?_cons_succ, reduceIte, Nat.reduceEqDiff, Nat.reduceAdd, Nat.reduceMul, Nat.reduceLeDiff, Nat.zero_add, Nat.add_zero, Option.map_some, Int.reduceEq, Int.reduceLT, Int.reduceLE, Bool.false_eq_true, decide_true, decide_false, ge_iff_le, gt_iff_lt, set_get']; rfl) ?_)))))))
  show Wc _ _ _ _
  have hgm : ((h1.new (.cells zeroM true 0)).new (.cells [.pointer none, .pointer (some ⟨h1.next, 0, none⟩)] true 1)).get h1.next = some (.cells zeroM true 0) := by rw [new_get_ne' _ _ (by rw [new_next]; omega), new_get']
  have hgl : ((h1.new (.cells zeroM true 0)).new (.cells [.pointer none, .pointer (some ⟨h1.next, 0, none⟩)] true 1)).get (h1.new (.cells zeroM true 0)).next = some (.cells [.pointer none, .pointer (some ⟨h1.next, 0, none⟩)] true 1) := new_get' _ _
  have hg32 : ((h1.new (.cells zeroM true 0)).new (.cells [.pointer none, .pointer (some ⟨h1.next, 0, none⟩)] true 1)).get b3 = some (.cells [kv, nv] true 0) := by rw [new_get_ne' _ _ (by rw [new_next]; omega), new_get_ne' _ _ (by omega)]; exact hg3
  have hn2 : ((h1.new (.cells zeroM true 0)).new (.cells [.pointer none, .pointer (some ⟨h1.next, 0, none⟩)] true 1)).next = h1.next + 2 := rfl
  have hnl : (h1.new (.cells zeroM true 0)).next = h1.next + 1 := rfl
  generalize (h1.new (.cells zeroM true 0)).new (.cells [.pointer none, .pointer (some ⟨h1.next, 0, none⟩)] true 1) = h2 at hgm hgl hg32 hn2 ⊢
  generalize (h1.new (.cells zeroM true 0)).next = bl at hgl hnl ⊢
  have hbm : h1.next < h2.next := by omega
  have hbl : bl < h2.next := by omega
  have hb3 : b3 < h2.next := by omega
  generalize h1.next = bm at hgm hgl hbm ⊢
  refine Wc_block (Wc_loop (fun s => s.d = some [] ∧ Kept h2 s.h ∧ s.e 1 = n ∧ s.e 2 = .slice al len cl ∧ s.e 3 = ptr b3 0 ∧ s.e 25 = .slice (some ⟨bl, 0, none⟩) 2 2 ∧ s.e 26 = .int .i64 2 ∧ ∃ i : Nat, i ≤ 2 ∧ s.e 27 = .int .i64 i)
    (fun s => match s.e 27 with | .int _ i => (2 - i).toNat | _ => 0) ?_ ?_)
  · exact ⟨rfl, .refl _, rfl, rfl, rfl, rfl, rfl, 0, by omega, rfl⟩
  rintro ⟨e, hp, d⟩ ⟨hd, hk, g1, g2, g3, g25, g26, i, hi, g27⟩
  simp only at hd hk g1 g2 g3 g25 g26 g27
  subst hd
  rw [C3L0]
  refine Wc_seq (Wc_ops (Wo_run (fun call => by simp only [List.drop_succ_cons, List.drop_zero, iops_nil, iops_op, iops_grd, iK_some, iG_true, iG_false, gval_bool, beq_true, beq_false, Bool.not_true, Bool.not_false, iop, ev, upd, dstUpd, binV, binI, unV, ptr, Heap.cell, Heap.write, cellsOf, put, args0, partL, List.getD_cons_zero, List.getD_cons_succ, List.length_cons, List.length_nil, List.set_cons_zero, List.set_cons_succ, List.getElem?_cons_zero, List.getElem?_cons_succ, reduceIte, Nat.reduceEqDiff, Nat.reduceAdd, Nat.reduceMul, Nat.reduceLeDiff, Nat.zero_add, Nat.add_zero, Option.map_some, Int.reduceEq, Int.reduceLT, Int.reduceLE, Bool.false_eq_true, decide_true, decide_false, ge_iff_le, gt_iff_lt, set_get', g26, g27]; rfl) ?_))
  show Wc _ _ _ _
  refine Wc_seq (Wc_cond (decide ((i : Int) < 2)) (by simp [ev, upd]) (fun hlt => Wc_skip ?_) (fun hge => Wc_exit ?_))
  case refine_2 =>
    show Wc _ _ _ _
    refine Wc_seq (Wc_ops (Wo_run (fun call => by simp only [List.drop_succ_cons, List.drop_zero, iops_nil, iops_op, iops_grd, iK_some, iG_true, iG_false, gval_bool, beq_true, beq_false, Bool.not_true, Bool.not_false, iop, ev, upd, dstUpd, binV, binI, unV, ptr, Heap.cell, Heap.write, cellsOf, put, args0, partL, List.getD_cons_zero, List.getD_cons_succ, List.length_cons, List.length_nil, List.set_cons_zero, List.set_cons_succ, List.getElem?_cons_zero, List.getElem?_cons_succ, reduceIte, Nat.reduceEqDiff, Nat.reduceAdd, Nat.reduceMul, Nat.reduceLeDiff, Nat.zero_add, Nat.add_zero, Option.map_some, Int.reduceEq, Int.reduceLT, Int.reduceLE, Bool.false_eq_true, decide_true, decide_false, ge_iff_le, gt_iff_lt, set_get']; rfl) ?_))
    exact Wc_ret (out _ _ (by simp [upd, dstUpd]))
  show Wc _ _ _ _
  have hil : i < 2 := by have := of_decide_eq_true hlt; omega
  have hidx : idxV 2 (.int .i64 i) = some i := idx_ok hil
  obtain ⟨m, hm, hnm⟩ : ∃ m, [Value.pointer none, ptr bm 0][i]? = some m ∧ notM h2 m := by
    rcases i with _ | _ | i
    · exact ⟨_, rfl, .inl rfl⟩
    · exact ⟨_, rfl, .inr ⟨bm, zeroM, _, _, rfl, hbm, hgm, rfl⟩⟩
    · omega
  have hglp : hp.get bl = some (.cells [.pointer none, ptr bm 0] true 1) := by rw [hk.get _ hbl]; exact hgl
  have hm' : [Value.pointer none, Value.pointer (some ⟨bm, 0, none⟩)][i]? = some m := hm
  have hmc : hp.cell bl (0 + i * 1) = some m := by simp only [Heap.cell, hglp]; rw [Nat.zero_add, Nat.mul_one]; exact hm
  have e1 : IntKind.i64.wrap ((i : Int) + 1) = ((i + 1 : Nat) : Int) := by rw [wrap64] <;> omega
  refine Wc_seq (Wc_block (Wc_seq (Wc_ops (Wo_run (fun call => by simp only [iops_nil, iops_op, iK_some, iop, ev, upd, dstUpd, ptr, reduceIte, Nat.reduceEqDiff, g25, g27, hidx, hmc, Option.map_some]; rfl) ?_))))
  show Wc _ _ _ _
  refine Wc_seq (Wc_ops (Wo_pre 1 (fun call => by simp only [List.take_succ_cons, List.take_zero, List.drop_succ_cons, List.drop_zero, iops_nil, iops_op, iops_grd, iK_some, iG_true, iG_false, gval_bool, beq_true, beq_false, Bool.not_true, Bool.not_false, iop, ev, upd, dstUpd, binV, binI, unV, ptr, Heap.cell, Heap.write, cellsOf, put, args0, partL, List.getD_cons_zero, List.getD_cons_succ, List.length_cons, List.length_nil, List.set_cons_zero, List.set_cons_succ, List.getElem?_cons_zero, List.getElem?_cons_succ, reduceIte, Nat.reduceEqDiff, Nat.reduceAdd, Nat.reduceMul, Nat.reduceLeDiff, Nat.zero_add, Nat.add_zero, Option.map_some, Int.reduceEq, Int.reduceLT, Int.reduceLE, Bool.false_eq_true, decide_true, decide_false, ge_iff_le, gt_iff_lt, set_get']; rfl) ?_))
  refine Wo_call ?_
  show Wk _ (.fn 5) [m] _ _
  refine (none5 T1_5 T1_19 (hnm.keep hk)).mono fun o h3 ⟨hk3, ho3⟩ => ?_
  subst ho3
  show Wo _ _ _ _
  refine (Wo_run (fun call => by simp only [List.drop_succ_cons, List.drop_zero, iops_nil, iops_op, iops_grd, iK_some, iG_true, iG_false, gval_bool, beq_true, beq_false, Bool.not_true, Bool.not_false, iop, ev, upd, dstUpd, binV, binI, unV, ptr, Heap.cell, Heap.write, cellsOf, put, args0, partL, List.getD_cons_zero, List.getD_cons_succ, List.length_cons, List.length_nil, List.set_cons_zero, List.set_cons_succ, List.getElem?_cons_zero, List.getElem?_cons_succ, reduceIte, Nat.reduceEqDiff, Nat.reduceAdd, Nat.reduceMul, Nat.reduceLeDiff, Nat.zero_add, Nat.add_zero, Option.map_some, Int.reduceEq, Int.reduceLT, Int.reduceLE, Bool.false_eq_true, decide_true, decide_false, ge_iff_le, gt_iff_lt, set_get', new_get', List.getElem?_toArray]; rfl) ?_)
  show Wc _ _ _ _
  generalize hA : Heap.set _ _ _ = h4
  have hk4 : Kept h2 h4 := by rw [← hA]; exact ((hk.trans hk3).new _).set (hk.trans hk3).next _
  refine Wc_seq (Wc_ops (Wo_pre 1 (fun call => by simp only [List.take_succ_cons, List.take_zero, List.drop_succ_cons, List.drop_zero, iops_nil, iops_op, iops_grd, iK_some, iG_true, iG_false, gval_bool, beq_true, beq_false, Bool.not_true, Bool.not_false, iop, ev, upd, dstUpd, binV, binI, unV, ptr, Heap.cell, Heap.write, cellsOf, put, args0, partL, List.getD_cons_zero, List.getD_cons_succ, List.length_cons, List.length_nil, List.set_cons_zero, List.set_cons_succ, List.getElem?_cons_zero, List.getElem?_cons_succ, reduceIte, Nat.reduceEqDiff, Nat.reduceAdd, Nat.reduceMul, Nat.reduceLeDiff, Nat.zero_add, Nat.add_zero, Option.map_some, Int.reduceEq, Int.reduceLT, Int.reduceLE, Bool.false_eq_true, decide_true, decide_false, ge_iff_le, gt_iff_lt, set_get']; rfl) ?_))
  refine Wo_call ?_
  show Wk _ (.fn 6) [m] _ _
  refine (none6 T1_6 T1_19 (hnm.keep hk4)).mono fun o h5 ⟨hk5, ho5⟩ => ?_
  subst ho5
  show Wo _ _ _ _
  refine (Wo_run (fun call => by simp only [List.drop_succ_cons, List.drop_zero, iops_nil, iops_op, iops_grd, iK_some, iG_true, iG_false, gval_bool, beq_true, beq_false, Bool.not_true, Bool.not_false, iop, ev, upd, dstUpd, binV, binI, unV, ptr, Heap.cell, Heap.write, cellsOf, put, args0, partL, List.getD_cons_zero, List.getD_cons_succ, List.length_cons, List.length_nil, List.set_cons_zero, List.set_cons_succ, List.getElem?_cons_zero, List.getElem?_cons_succ, reduceIte, Nat.reduceEqDiff, Nat.reduceAdd, Nat.reduceMul, Nat.reduceLeDiff, Nat.zero_add, Nat.add_zero, Option.map_some, Int.reduceEq, Int.reduceLT, Int.reduceLE, Bool.false_eq_true, decide_true, decide_false, ge_iff_le, gt_iff_lt, set_get']; rfl) ?_)
  show Wc _ _ _ _
  have hk25 : Kept h2 h5 := hk4.trans hk5
  have hl3 : ∀ {hq : Heap}, Kept h2 hq → hq.cells b3 0 2 = some [kv, nv] := by
    intro hq hkq
    simp only [Heap.cells, hkq.get _ hb3, hg32]
    rfl
  refine Wc_seq (Wc_ops (Wo_pre 2 (fun call => by simp only [List.take_succ_cons, List.take_zero, List.drop_succ_cons, List.drop_zero, iops_nil, iops_op, iops_grd, iK_some, iG_true, iG_false, gval_bool, beq_true, beq_false, Bool.not_true, Bool.not_false, iop, ev, upd, dstUpd, binV, binI, unV, ptr, Heap.cell, Heap.write, cellsOf, put, args0, partL, List.getD_cons_zero, List.getD_cons_succ, List.length_cons, List.length_nil, List.set_cons_zero, List.set_cons_succ, List.getElem?_cons_zero, List.getElem?_cons_succ, reduceIte, Nat.reduceEqDiff, Nat.reduceAdd, Nat.reduceMul, Nat.reduceLeDiff, Nat.zero_add, Nat.add_zero, Option.map_some, Int.reduceEq, Int.reduceLT, Int.reduceLE, Bool.false_eq_true, decide_true, decide_false, ge_iff_le, gt_iff_lt, set_get', g3, hl3 hk25]; rfl) ?_))
  refine Wo_call ?_
  show Wk _ (.fn 7) [m, .agg [kv, nv].toArray] _ _
  refine (none7 T1_7 T1_19 (hnm.keep hk25)).mono fun o h6 ⟨hk6, ho6⟩ => ?_
  subst ho6
  show Wo _ _ _ _
  refine (Wo_run (fun call => by simp only [List.drop_succ_cons, List.drop_zero, iops_nil, iops_op, iops_grd, iK_some, iG_true, iG_false, gval_bool, beq_true, beq_false, Bool.not_true, Bool.not_false, iop, ev, upd, dstUpd, binV, binI, unV, ptr, Heap.cell, Heap.write, cellsOf, put, args0, partL, List.getD_cons_zero, List.getD_cons_succ, List.length_cons, List.length_nil, List.set_cons_zero, List.set_cons_succ, List.getElem?_cons_zero, List.getElem?_cons_succ, reduceIte, Nat.reduceEqDiff, Nat.reduceAdd, Nat.reduceMul, Nat.reduceLeDiff, Nat.zero_add, Nat.add_zero, Option.map_some, Int.reduceEq, Int.reduceLT, Int.reduceLE, Bool.false_eq_true, decide_true, decide_false, ge_iff_le, gt_iff_lt, set_get', new_get']; rfl) ?_)
  show Wc _ _ _ _
  generalize hB : Heap.set _ _ _ = h7
  have hk7 : Kept h2 h7 := by rw [← hB]; exact ((hk25.trans hk6).new _).set (hk25.trans hk6).next _
  have w0 : IntKind.i64.wrap (0 + 0) = 0 := by decide
  refine Wc_seq (Wc_ops (Wo_pre 1 (fun call => by simp only [List.take_succ_cons, List.take_zero, List.drop_succ_cons, List.drop_zero, iops_nil, iops_op, iops_grd, iK_some, iG_true, iG_false, gval_bool, beq_true, beq_false, Bool.not_true, Bool.not_false, iop, ev, upd, dstUpd, binV, binI, unV, ptr, Heap.cell, Heap.write, cellsOf, put, args0, partL, List.getD_cons_zero, List.getD_cons_succ, List.length_cons, List.length_nil, List.set_cons_zero, List.set_cons_succ, List.getElem?_cons_zero, List.getElem?_cons_succ, reduceIte, Nat.reduceEqDiff, Nat.reduceAdd, Nat.reduceMul, Nat.reduceLeDiff, Nat.zero_add, Nat.add_zero, Option.map_some, Int.reduceEq, Int.reduceLT, Int.reduceLE, Bool.false_eq_true, decide_true, decide_false, ge_iff_le, gt_iff_lt, set_get']; rfl) ?_))
  refine Wo_call ?_
  show Wk _ (.fn 8) [m] _ _
  refine (none8 T1_8 T1_19 (hnm.keep hk7)).mono fun o h8 ⟨hk8, ho8⟩ => ?_
  subst ho8
  show Wo _ _ _ _
  refine (Wo_pre 14 (fun call => by simp only [List.take_succ_cons, List.take_zero, List.drop_succ_cons, List.drop_zero, iops_nil, iops_op, iops_grd, iK_some, iG_true, iG_false, gval_bool, beq_true, beq_false, Bool.not_true, Bool.not_false, iop, ev, upd, dstUpd, binV, binI, unV, ptr, Heap.cell, Heap.write, cellsOf, put, args0, partL, List.getD_cons_zero, List.getD_cons_succ, List.length_cons, List.length_nil, List.set_cons_zero, List.set_cons_succ, List.getElem?_cons_zero, List.getElem?_cons_succ, reduceIte, Nat.reduceEqDiff, Nat.reduceAdd, Nat.reduceMul, Nat.reduceLeDiff, Nat.zero_add, Nat.add_zero, Option.map_some, Int.reduceEq, Int.reduceLT, Int.reduceLE, Bool.false_eq_true, decide_true, decide_false, ge_iff_le, gt_iff_lt, set_get', w0, bne_self_eq_false]; rfl) ?_)
  have hk8' : Kept h2 h8 := hk7.trans hk8
  refine Wo_take (by simp only [dstUpd, upd, reduceIte, Nat.reduceEqDiff, gval_bool]; rfl) (Wo_call ?_)
  show Wk _ (.fn 9) [m] _ _
  refine (none9 T1_9 T1_19 (hnm.keep hk8')).mono fun o h9 ⟨hk9, ho9⟩ => ?_
  subst ho9
  show Wo _ _ _ _
  have hk9' : Kept h2 h9 := hk8'.trans hk9
  refine (Wo_pre 6 (fun call => by simp only [List.take_succ_cons, List.take_zero, List.drop_succ_cons, List.drop_zero, iops_nil, iops_op, iops_grd, iK_some, iG_true, iG_false, gval_bool, beq_true, beq_false, Bool.not_true, Bool.not_false, iop, ev, upd, dstUpd, binV, binI, unV, ptr, Heap.cell, Heap.write, cellsOf, put, args0, partL, List.getD_cons_zero, List.getD_cons_succ, List.length_cons, List.length_nil, List.set_cons_zero, List.set_cons_succ, List.getElem?_cons_zero, List.getElem?_cons_succ, reduceIte, Nat.reduceEqDiff, Nat.reduceAdd, Nat.reduceMul, Nat.reduceLeDiff, Nat.zero_add, Nat.add_zero, Option.map_some, Int.reduceEq, Int.reduceLT, Int.reduceLE, Bool.false_eq_true, decide_true, decide_false, ge_iff_le, gt_iff_lt, set_get', g2, bne_self_eq_false, Int.natCast_zero, Int.ofNat_zero]; rfl) ?_)
  refine Wo_take (by simp only [dstUpd, upd, reduceIte, Nat.reduceEqDiff, gval_bool]; rfl) (Wo_call ?_)
  show Wk _ (.fn 10) [m, .slice al len cl] _ _
  refine (none10 T1_10 T1_19 (hnm.keep hk9')).mono fun o h10 ⟨hk10, ho10⟩ => ?_
  subst ho10
  show Wo _ _ _ _
  have hk10' : Kept h2 h10 := hk9'.trans hk10
  refine (Wo_pre 5 (fun call => by simp only [List.take_succ_cons, List.take_zero, List.drop_succ_cons, List.drop_zero, iops_nil, iops_op, iops_grd, iK_some, iG_true, iG_false, gval_bool, beq_true, beq_false, Bool.not_true, Bool.not_false, iop, ev, upd, dstUpd, binV, binI, unV, ptr, Heap.cell, Heap.write, cellsOf, put, args0, partL, List.getD_cons_zero, List.getD_cons_succ, List.length_cons, List.length_nil, List.set_cons_zero, List.set_cons_succ, List.getElem?_cons_zero, List.getElem?_cons_succ, reduceIte, Nat.reduceEqDiff, Nat.reduceAdd, Nat.reduceMul, Nat.reduceLeDiff, Nat.zero_add, Nat.add_zero, Option.map_some, Int.reduceEq, Int.reduceLT, Int.reduceLE, Bool.false_eq_true, decide_true, decide_false, ge_iff_le, gt_iff_lt, set_get', g1, Int.reduceBEq]; rfl) ?_)
  refine Wo_take (by simp only [dstUpd, upd, reduceIte, Nat.reduceEqDiff, gval_bool]; rfl) (Wo_call ?_)
  show Wk _ (.fn 11) [m, n] _ _
  refine (none11 T1_11 T1_19 (hnm.keep hk10')).mono fun o h11 ⟨hk11, ho11⟩ => ?_
  subst ho11
  show Wo _ _ _ _
  have hk11' : Kept h2 h11 := hk10'.trans hk11
  refine (Wo_pre 5 (fun call => by simp only [List.take_succ_cons, List.take_zero, List.drop_succ_cons, List.drop_zero, iops_nil, iops_op, iops_grd, iK_some, iG_true, iG_false, gval_bool, beq_true, beq_false, Bool.not_true, Bool.not_false, iop, ev, upd, dstUpd, binV, binI, unV, ptr, Heap.cell, Heap.write, cellsOf, put, args0, partL, List.getD_cons_zero, List.getD_cons_succ, List.length_cons, List.length_nil, List.set_cons_zero, List.set_cons_succ, List.getElem?_cons_zero, List.getElem?_cons_succ, reduceIte, Nat.reduceEqDiff, Nat.reduceAdd, Nat.reduceMul, Nat.reduceLeDiff, Nat.zero_add, Nat.add_zero, Option.map_some, Int.reduceEq, Int.reduceLT, Int.reduceLE, Bool.false_eq_true, decide_true, decide_false, ge_iff_le, gt_iff_lt, set_get', fillL, evps, List.map_nil, fitL, fit1, seqL, seq1, beq_self_eq_true, Bool.and_self, bne_self_eq_false]; rfl) ?_)
  refine Wo_take (by simp only [dstUpd, upd, reduceIte, Nat.reduceEqDiff, gval_bool]; rfl) (Wo_call ?_)
  show Wk _ (.fn 12) [m] _ _
  refine (none12 T1_12 T1_19 (hnm.keep hk11')).mono fun o h12 ⟨hk12, ho12⟩ => ?_
  subst ho12
  show Wo _ _ _ _
  have hk12' : Kept h2 h12 := hk11'.trans hk12
  refine (Wo_pre 4 (fun call => by simp only [List.take_succ_cons, List.take_zero, List.drop_succ_cons, List.drop_zero, iops_nil, iops_op, iops_grd, iK_some, iG_true, iG_false, gval_bool, beq_true, beq_false, Bool.not_true, Bool.not_false, iop, ev, upd, dstUpd, binV, binI, unV, ptr, Heap.cell, Heap.write, cellsOf, put, args0, partL, List.getD_cons_zero, List.getD_cons_succ, List.length_cons, List.length_nil, List.set_cons_zero, List.set_cons_succ, List.getElem?_cons_zero, List.getElem?_cons_succ, reduceIte, Nat.reduceEqDiff, Nat.reduceAdd, Nat.reduceMul, Nat.reduceLeDiff, Nat.zero_add, Nat.add_zero, Option.map_some, Int.reduceEq, Int.reduceLT, Int.reduceLE, Bool.false_eq_true, decide_true, decide_false, ge_iff_le, gt_iff_lt, set_get', g3, hl3 hk12']; rfl) ?_)
  refine Wo_take (by simp only [dstUpd, upd, reduceIte, Nat.reduceEqDiff, gval_bool]; rfl) (Wo_call ?_)
  show Wk _ (.fn 13) [m, .agg [kv, nv].toArray] _ _
  refine (none13 T1_13 T1_19 (hnm.keep hk12')).mono fun o h13 ⟨hk13, ho13⟩ => ?_
  subst ho13
  show Wo _ _ _ _
  have hk13' : Kept h2 h13 := hk12'.trans hk13
  refine (Wo_pre 8 (fun call => by simp only [List.take_succ_cons, List.take_zero, List.drop_succ_cons, List.drop_zero, iops_nil, iops_op, iops_grd, iK_some, iG_true, iG_false, gval_bool, beq_true, beq_false, Bool.not_true, Bool.not_false, iop, ev, upd, dstUpd, binV, binI, unV, ptr, Heap.cell, Heap.write, cellsOf, put, args0, partL, List.getD_cons_zero, List.getD_cons_succ, List.length_cons, List.length_nil, List.set_cons_zero, List.set_cons_succ, List.getElem?_cons_zero, List.getElem?_cons_succ, reduceIte, Nat.reduceEqDiff, Nat.reduceAdd, Nat.reduceMul, Nat.reduceLeDiff, Nat.zero_add, Nat.add_zero, Option.map_some, Int.reduceEq, Int.reduceLT, Int.reduceLE, Bool.false_eq_true, decide_true, decide_false, ge_iff_le, gt_iff_lt, set_get', bne_self_eq_false]; rfl) ?_)
  refine Wo_take (by simp only [dstUpd, upd, reduceIte, Nat.reduceEqDiff, gval_bool]; rfl) (Wo_call ?_)
  show Wk _ (.fn 14) [m] _ _
  refine (none14 T1_14 T1_19 (hnm.keep hk13')).mono fun o h14 ⟨hk14, ho14⟩ => ?_
  subst ho14
  show Wo _ _ _ _
  have hk14' : Kept h2 h14 := hk13'.trans hk14
  refine (Wo_pre 5 (fun call => by simp only [List.take_succ_cons, List.take_zero, List.drop_succ_cons, List.drop_zero, iops_nil, iops_op, iops_grd, iK_some, iG_true, iG_false, gval_bool, beq_true, beq_false, Bool.not_true, Bool.not_false, iop, ev, upd, dstUpd, binV, binI, unV, ptr, Heap.cell, Heap.write, cellsOf, put, args0, partL, List.getD_cons_zero, List.getD_cons_succ, List.length_cons, List.length_nil, List.set_cons_zero, List.set_cons_succ, List.getElem?_cons_zero, List.getElem?_cons_succ, reduceIte, Nat.reduceEqDiff, Nat.reduceAdd, Nat.reduceMul, Nat.reduceLeDiff, Nat.zero_add, Nat.add_zero, Option.map_some, Int.reduceEq, Int.reduceLT, Int.reduceLE, Bool.false_eq_true, decide_true, decide_false, ge_iff_le, gt_iff_lt, set_get', g1, bne_self_eq_false]; rfl) ?_)
  refine Wo_take (by simp only [dstUpd, upd, reduceIte, Nat.reduceEqDiff, gval_bool]; rfl) (Wo_call ?_)
  show Wk _ (.fn 15) [m, n] _ _
  refine (none15 T1_15 T1_19 (hnm.keep hk14')).mono fun o h15 ⟨hk15, ho15⟩ => ?_
  subst ho15
  show Wo _ _ _ _
  have hk15' : Kept h2 h15 := hk14'.trans hk15
  refine (Wo_run (fun call => by simp only [List.drop_succ_cons, List.drop_zero, iops_nil, iops_op, iops_grd, iK_some, iG_true, iG_false, gval_bool, beq_true, beq_false, Bool.not_true, Bool.not_false, iop, ev, upd, dstUpd, binV, binI, unV, ptr, Heap.cell, Heap.write, cellsOf, put, args0, partL, List.getD_cons_zero, List.getD_cons_succ, List.length_cons, List.length_nil, List.set_cons_zero, List.set_cons_succ, List.getElem?_cons_zero, List.getElem?_cons_succ, reduceIte, Nat.reduceEqDiff, Nat.reduceAdd, Nat.reduceMul, Nat.reduceLeDiff, Nat.zero_add, Nat.add_zero, Option.map_some, Int.reduceEq, Int.reduceLT, Int.reduceLE, Bool.false_eq_true, decide_true, decide_false, ge_iff_le, gt_iff_lt, set_get', bne_self_eq_false, Int.natCast_zero, Int.ofNat_zero]; rfl) ?_)
  show Wc _ _ _ _
  refine Wc_cond false (by simp [ev, upd]) (fun h => by cases h) (fun _ => Wc_skip ?_)
  show Wc _ _ _ _
  refine Wc_ops (Wo_run (fun call => by simp only [List.drop_succ_cons, List.drop_zero, iops_nil, iops_op, iops_grd, iK_some, iG_true, iG_false, gval_bool, beq_true, beq_false, Bool.not_true, Bool.not_false, iop, ev, upd, dstUpd, binV, binI, unV, ptr, Heap.cell, Heap.write, cellsOf, put, args0, partL, List.getD_cons_zero, List.getD_cons_succ, List.length_cons, List.length_nil, List.set_cons_zero, List.set_cons_succ, List.getElem?_cons_zero, List.getElem?_cons_succ, reduceIte, Nat.reduceEqDiff, Nat.reduceAdd, Nat.reduceMul, Nat.reduceLeDiff, Nat.zero_add, Nat.add_zero, Option.map_some, Int.reduceEq, Int.reduceLT, Int.reduceLE, Bool.false_eq_true, decide_true, decide_false, ge_iff_le, gt_iff_lt, set_get', g27, e1]; rfl) ?_)
  refine ⟨⟨rfl, hk15', ?_, ?_, ?_, ?_, ?_, i + 1, by omega, ?_⟩, ?_⟩
  · simp only [upd, Nat.reduceEqDiff, reduceIte]; exact g1
  · simp only [upd, Nat.reduceEqDiff, reduceIte]; exact g2
  · simp only [upd, Nat.reduceEqDiff, reduceIte]; exact g3
  · simp only [upd, Nat.reduceEqDiff, reduceIte]; exact g25
  · simp only [upd, Nat.reduceEqDiff, reduceIte]; exact g26
  · simp only [upd, Nat.reduceEqDiff, reduceIte]
  · simp only [upd, Nat.reduceEqDiff, reduceIte, g27]; omega

end Go.Idl
