/- Whether codes are alike: the reference's. -/
import Derived.Test.YtfdpknfndjllgaaM2
namespace Go.Idl
set_option linter.unusedVariables false
set_option linter.unusedSimpArgs false

theorem ins19 {T : Tbl} (h37 : T.fn 37 = some C37) {h0 hp0 : Heap} {e : Env} {f g : Fn} {b6 b7 : Nat} {Q : Ex → St → Prop} (hx : f.Ok h0) (hy : g.Ok h0) (hk0 : Kept h0 hp0) (hsm : f.small)
    (hl : g.code.length = f.code.length) (g6 : e 6 = ptr b6 0) (g7 : e 7 = ptr b7 0) (hb6 : b6 < hp0.next) (hb7 : b7 < hp0.next) (hg6 : hp0.get b6 = some (.cells f.cells true 0)) (hg7 : hp0.get b7 = some (.cells g.cells true 0)) (g78 : e 78 = .int .i64 f.code.length) (g79 : e 79 = .int .i64 0)
    (hyes : f.code.map Ins.key = g.code.map Ins.key → ∀ (e' : Env) (hp : Heap), Kept hp0 hp → (∀ t, t < 78 → t ≠ 4 → t ≠ 8 → t ≠ 9 → t ≠ 10 → e' t = e t) → Q (.brk 2) ⟨e', hp, some []⟩)
    (hno : f.code.map Ins.key ≠ g.code.map Ins.key → ∀ (e' : Env) (hp : Heap), Kept hp0 hp → e' 4 = .bool false → Q .ret ⟨e', hp, some []⟩) : Wc T (.loop C19L0) ⟨e, hp0, some []⟩ Q := by
  refine Wc_loop (fun s => s.d = some [] ∧ Kept hp0 s.h ∧ (∀ t, t < 79 → t ≠ 4 → t ≠ 8 → t ≠ 9 → t ≠ 10 → s.e t = e t) ∧ ∃ i : Nat, i ≤ f.code.length ∧ s.e 79 = .int .i64 i ∧ (f.code.take i).map Ins.key = (g.code.take i).map Ins.key)
    (fun s => match s.e 79 with | .int _ i => (f.code.length - i).toNat | _ => 0) ?_ ?_
  · exact ⟨rfl, .refl _, fun _ _ _ _ _ _ => rfl, 0, Nat.zero_le _, g79, rfl⟩
  rintro ⟨e1, hp, d⟩ ⟨hd, hk, hfr, i, hi, k79, ht⟩
  simp only at hd hk hfr k79
  subst hd
  have k6 : e1 6 = ptr b6 0 := by rw [hfr 6 (by omega) (by omega) (by omega) (by omega) (by omega)]; exact g6
  have k7 : e1 7 = ptr b7 0 := by rw [hfr 7 (by omega) (by omega) (by omega) (by omega) (by omega)]; exact g7
  have k78 : e1 78 = .int .i64 f.code.length := by rw [hfr 78 (by omega) (by omega) (by omega) (by omega) (by omega)]; exact g78
  have kg6 : hp.get b6 = some (.cells f.cells true 0) := by rw [hk.get _ hb6]; exact hg6
  have kg7 : hp.get b7 = some (.cells g.cells true 0) := by rw [hk.get _ hb7]; exact hg7
  have hb6' : b6 < hp.next := Nat.lt_of_lt_of_le hb6 hk.next
  have hb7' : b7 < hp.next := Nat.lt_of_lt_of_le hb7 hk.next
  rw [C19L0]
  refine Wc_seq (Wc_ops (Wo_run (fun call => by simp only [List.drop_succ_cons, List.drop_zero, iops_nil, iops_op, iops_grd, iK_some, iG_true, iG_false, gval_bool, beq_true, beq_false, Bool.not_true, Bool.not_false, iop, ev, upd, dstUpd, binV, binI, unV, ptr, Heap.cell, Heap.write, cellsOf, put, args0, partL, List.getD_cons_zero, List.getD_cons_succ, List.length_cons, List.length_nil, List.set_cons_zero, List.set_cons_succ, List.getElem?_cons_zero, List.getElem?_cons_succ, reduceIte, Nat.reduceEqDiff, Nat.reduceAdd, Nat.reduceMul, Nat.reduceLeDiff, Nat.zero_add, Nat.add_zero, Option.map_some, Int.reduceEq, Int.reduceLT, Int.reduceLE, Bool.false_eq_true, decide_true, decide_false, ge_iff_le, gt_iff_lt, set_get', k78, k79]; rfl) ?_))
  show Wc T _ _ _
  refine Wc_seq (Wc_cond (decide ((i : Int) < f.code.length)) (by simp [ev, upd]) (fun hlt => Wc_skip ?_) (fun hge => Wc_exit ?_))
  case refine_2 =>
    have : i = f.code.length := by simp at hge; omega
    subst this
    rw [List.take_length, ← hl, List.take_length] at ht
    refine hyes ht _ _ hk (fun t h1 h2 h3 h4 h5 => ?_)
    simp only [upd]
    rw [if_neg (by omega)]
    exact hfr t (by omega) h2 h3 h4 h5
  show Wc T _ _ _
  have hil : i < f.code.length := by simpa using hlt
  have hil2 : i < g.code.length := by omega
  obtain ⟨x, hxi⟩ : ∃ x, f.code[i]? = some x := ⟨_, List.getElem?_eq_getElem hil⟩
  obtain ⟨y, hyi⟩ : ∃ y, g.code[i]? = some y := ⟨_, List.getElem?_eq_getElem hil2⟩
  obtain ⟨bx, cx, hva, hbx, _, hcx, hxin⟩ := ((hx.keep (hk0.trans hk)).code).load insCells_len hxi
  obtain ⟨by', cy, hvb, hby, _, hcy, hyin⟩ := ((hy.keep (hk0.trans hk)).code).load insCells_len hyi
  have e1' : IntKind.i64.wrap ((i : Int) + 1) = ((i + 1 : Nat) : Int) := by
    have := hsm.1
    unfold Idl.small at this
    rw [wrap64] <;> omega
  refine Wc_seq (Wc_block (Wc_seq (Wc_ops (Wo_run (fun call => by simp only [List.drop_succ_cons, List.drop_zero, iops_nil, iops_op, iops_grd, iK_some, iG_true, iG_false, gval_bool, beq_true, beq_false, Bool.not_true, Bool.not_false, iop, ev, upd, dstUpd, binV, binI, unV, ptr, Heap.cell, Heap.write, cellsOf, put, args0, partL, List.getD_cons_zero, List.getD_cons_succ, List.length_cons, List.length_nil, List.set_cons_zero, List.set_cons_succ, List.getElem?_cons_zero, List.getElem?_cons_succ, reduceIte, Nat.reduceEqDiff, Nat.reduceAdd, Nat.reduceMul, Nat.reduceLeDiff, Nat.zero_add, Nat.add_zero, Option.map_some, Int.reduceEq, Int.reduceLT, Int.reduceLE, Bool.false_eq_true, decide_true, decide_false, ge_iff_le, gt_iff_lt, set_get', k79]; rfl) ?_))))
  show Wc T _ _ _
  refine Wc_seq (Wc_draw ?_)
  refine Wd_P rfl (by simp only [iop, ev, dstUpd, upd, reduceIte, Nat.reduceEqDiff, k6, ptr]; rfl) ?_
  refine Wd_R rfl (by simp only [iop, ev, dstUpd, upd, reduceIte, Nat.reduceEqDiff, Heap.cell, kg6, Fn.cells, Nat.zero_add, List.getElem?_cons_zero, List.getElem?_cons_succ, Option.map_some]; rfl) (fun p hp => (by cases hp)) ?_
  refine Wd_P rfl rfl ?_
  refine Wd_P rfl (iop_iaddr (b := bx) (len := f.code.length) (c := cx) (i := i) (by simp only [upd, dstUpd, reduceIte, Nat.reduceEqDiff]; exact hva) (by simp only [upd, dstUpd, reduceIte, Nat.reduceEqDiff, ev, k79]) hil) ?_
  refine Wd_R rfl (iop_load (b := bx) (o := i * 6) (cs := x.cells) (by simp only [upd, dstUpd, reduceIte, Nat.reduceEqDiff]) hcx) (fun p hp => (by cases hp)) ?_
  refine Wd_P rfl (by simp only [iop, ev, dstUpd, upd, reduceIte, Nat.reduceEqDiff, k7, ptr]; rfl) ?_
  refine Wd_R rfl (by simp only [iop, ev, dstUpd, upd, reduceIte, Nat.reduceEqDiff, Heap.cell, kg7, Fn.cells, Nat.zero_add, List.getElem?_cons_zero, List.getElem?_cons_succ, Option.map_some]; rfl) (fun p hp => (by cases hp)) ?_
  refine Wd_P rfl rfl ?_
  refine Wd_P rfl (iop_iaddr (b := by') (len := g.code.length) (c := cy) (i := i) (by simp only [upd, dstUpd, reduceIte, Nat.reduceEqDiff]; exact hvb) (by simp only [upd, dstUpd, reduceIte, Nat.reduceEqDiff, ev, k79]) hil2) ?_
  refine Wd_R rfl (iop_load (b := by') (o := i * 6) (cs := y.cells) (by simp only [upd, dstUpd, reduceIte, Nat.reduceEqDiff]) hcy) (fun p hp => (by cases hp)) ?_
  refine Wd_A rfl (by simp only [iop]; rfl) (Wd_A rfl (by simp only [iop]; rfl) ?_)
  simp only [locOp, ev, dstUpd, upd, reduceIte, Nat.reduceEqDiff, ptr]
  refine Wd_E rfl (iop_store (b := hp.next) (esz := 0) (cs := x.cells) (z := [(.int .i64 0), (.int .i64 0), (.int .i64 0), (.int .i64 0), (.int .i64 0), (.slice none 0 0)]) (by simp only [upd, dstUpd, reduceIte, Nat.reduceEqDiff, ptr]) (by simp only [upd, dstUpd, reduceIte, Nat.reduceEqDiff]) (insCells_len x) (by rw [new_get_ne' _ _ (by rw [new_next]; omega), new_get']) rfl) ?_ ?_
  · intro p hp'
    simp only [List.mem_cons, List.not_mem_nil, or_false] at hp'
    rcases hp' with rfl | rfl | rfl | rfl | rfl | rfl
    · exact .inl (by simp)
    · exact .inl (by simp)
    · exact .inr (sameAt_cells (by omega))
    · exact .inr (sameAt_cells (by omega))
    · exact .inl (by simp)
    · exact .inl (by simp)
  refine Wd_E rfl (iop_store (b := hp.next + 1) (esz := 0) (cs := y.cells) (z := [(.int .i64 0), (.int .i64 0), (.int .i64 0), (.int .i64 0), (.int .i64 0), (.slice none 0 0)]) (by simp only [upd, dstUpd, reduceIte, Nat.reduceEqDiff, ptr, new_next]) (by simp only [upd, dstUpd, reduceIte, Nat.reduceEqDiff]) (insCells_len y) (by rw [set_get_ne' _ _ (by omega)]; exact new_get' _ _) rfl) ?_ ?_
  · intro p hp'
    simp only [List.mem_cons, List.not_mem_nil, or_false] at hp'
    rcases hp' with rfl | rfl | rfl | rfl | rfl | rfl <;> exact .inl (by simp)
  refine Wd_nil ?_
  show Wc T _ _ _
  have hkpB : Kept hp (((hp.new (.cells [(.int .i64 0), (.int .i64 0), (.int .i64 0), (.int .i64 0), (.int .i64 0), (.slice none 0 0)] true 0)).new (.cells [(.int .i64 0), (.int .i64 0), (.int .i64 0), (.int .i64 0), (.int .i64 0), (.slice none 0 0)] true 0)).set hp.next (.cells x.cells true 0) |>.set (hp.next + 1) (.cells y.cells true 0)) := ((((Kept.refl hp).new _).new _).set (Nat.le_refl _) _).set (Nat.le_succ _) _
  have hgB : (((hp.new (.cells [(.int .i64 0), (.int .i64 0), (.int .i64 0), (.int .i64 0), (.int .i64 0), (.slice none 0 0)] true 0)).new (.cells [(.int .i64 0), (.int .i64 0), (.int .i64 0), (.int .i64 0), (.int .i64 0), (.slice none 0 0)] true 0)).set hp.next (.cells x.cells true 0) |>.set (hp.next + 1) (.cells y.cells true 0)).get (hp.next + 1) = some (.cells y.cells true 0) := set_get' _ _ _
  have hgA : (((hp.new (.cells [(.int .i64 0), (.int .i64 0), (.int .i64 0), (.int .i64 0), (.int .i64 0), (.slice none 0 0)] true 0)).new (.cells [(.int .i64 0), (.int .i64 0), (.int .i64 0), (.int .i64 0), (.int .i64 0), (.slice none 0 0)] true 0)).set hp.next (.cells x.cells true 0) |>.set (hp.next + 1) (.cells y.cells true 0)).get hp.next = some (.cells x.cells true 0) := by
    rw [set_get_ne' _ _ (by omega), set_get']
  have hnB : hp.next + 1 < (((hp.new (.cells [(.int .i64 0), (.int .i64 0), (.int .i64 0), (.int .i64 0), (.int .i64 0), (.slice none 0 0)] true 0)).new (.cells [(.int .i64 0), (.int .i64 0), (.int .i64 0), (.int .i64 0), (.int .i64 0), (.slice none 0 0)] true 0)).set hp.next (.cells x.cells true 0) |>.set (hp.next + 1) (.cells y.cells true 0)).next := Nat.lt_succ_self _
  generalize (((hp.new (.cells [(.int .i64 0), (.int .i64 0), (.int .i64 0), (.int .i64 0), (.int .i64 0), (.slice none 0 0)] true 0)).new (.cells [(.int .i64 0), (.int .i64 0), (.int .i64 0), (.int .i64 0), (.int .i64 0), (.slice none 0 0)] true 0)).set hp.next (.cells x.cells true 0) |>.set (hp.next + 1) (.cells y.cells true 0)) = hpB at hkpB hgA hgB hnB ⊢
  have bad : ∀ (e' : Env), e' 4 = .bool false → x.key ≠ y.key → Q .ret ⟨e', hpB, some []⟩ := fun e' h4 hne => hno (ne_of_at (i := i) (x := x.key) (y := y.key) (by simp [hxi]) (by simp [hyi]) hne) e' _ (hk.trans hkpB) h4
  by_cases c0 : x.op = y.op
  case neg =>
    have d0 : (x.op != y.op) = true := by simpa using c0
    refine Wc_seq (Wc_ops (Wo_run (fun call => by simp only [List.drop_succ_cons, List.drop_zero, iops_nil, iops_op, iops_grd, iK_some, iG_true, iG_false, gval_bool, beq_true, beq_false, Bool.not_true, Bool.not_false, iop, ev, upd, dstUpd, binV, binI, unV, ptr, Heap.cell, Heap.write, cellsOf, put, args0, partL, List.getD_cons_zero, List.getD_cons_succ, List.length_cons, List.length_nil, List.set_cons_zero, List.set_cons_succ, List.getElem?_cons_zero, List.getElem?_cons_succ, reduceIte, Nat.reduceEqDiff, Nat.reduceAdd, Nat.reduceMul, Nat.reduceLeDiff, Nat.zero_add, Nat.add_zero, Option.map_some, Int.reduceEq, Int.reduceLT, Int.reduceLE, Bool.false_eq_true, decide_true, decide_false, ge_iff_le, gt_iff_lt, set_get', new_next, hgA, hgB, Ins.cells, d0]; rfl) ?_))
    show Wc T _ _ _
    refine Wc_cond true (by simp [ev, upd]) (fun _ => ?_) (fun h => by cases h)
    refine Wc_seq (Wc_ops (Wo_run (fun call => by simp only [List.drop_succ_cons, List.drop_zero, iops_nil, iops_op, iops_grd, iK_some, iG_true, iG_false, gval_bool, beq_true, beq_false, Bool.not_true, Bool.not_false, iop, ev, upd, dstUpd, binV, binI, unV, ptr, Heap.cell, Heap.write, cellsOf, put, args0, partL, List.getD_cons_zero, List.getD_cons_succ, List.length_cons, List.length_nil, List.set_cons_zero, List.set_cons_succ, List.getElem?_cons_zero, List.getElem?_cons_succ, reduceIte, Nat.reduceEqDiff, Nat.reduceAdd, Nat.reduceMul, Nat.reduceLeDiff, Nat.zero_add, Nat.add_zero, Option.map_some, Int.reduceEq, Int.reduceLT, Int.reduceLE, Bool.false_eq_true, decide_true, decide_false, ge_iff_le, gt_iff_lt, set_get']; rfl) ?_))
    refine Wc_ret (bad _ (by simp [upd, dstUpd]) (by simp [Ins.key, c0]))
  have d0 : (x.op != y.op) = false := by simpa using c0
  by_cases c1 : x.a = y.a
  case neg =>
    have d1 : (x.a != y.a) = true := by simpa using c1
    refine Wc_seq (Wc_ops (Wo_run (fun call => by simp only [List.drop_succ_cons, List.drop_zero, iops_nil, iops_op, iops_grd, iK_some, iG_true, iG_false, gval_bool, beq_true, beq_false, Bool.not_true, Bool.not_false, iop, ev, upd, dstUpd, binV, binI, unV, ptr, Heap.cell, Heap.write, cellsOf, put, args0, partL, List.getD_cons_zero, List.getD_cons_succ, List.length_cons, List.length_nil, List.set_cons_zero, List.set_cons_succ, List.getElem?_cons_zero, List.getElem?_cons_succ, reduceIte, Nat.reduceEqDiff, Nat.reduceAdd, Nat.reduceMul, Nat.reduceLeDiff, Nat.zero_add, Nat.add_zero, Option.map_some, Int.reduceEq, Int.reduceLT, Int.reduceLE, Bool.false_eq_true, decide_true, decide_false, ge_iff_le, gt_iff_lt, set_get', new_next, hgA, hgB, Ins.cells, d1, d0]; rfl) ?_))
    show Wc T _ _ _
    refine Wc_cond true (by simp [ev, upd]) (fun _ => ?_) (fun h => by cases h)
    refine Wc_seq (Wc_ops (Wo_run (fun call => by simp only [List.drop_succ_cons, List.drop_zero, iops_nil, iops_op, iops_grd, iK_some, iG_true, iG_false, gval_bool, beq_true, beq_false, Bool.not_true, Bool.not_false, iop, ev, upd, dstUpd, binV, binI, unV, ptr, Heap.cell, Heap.write, cellsOf, put, args0, partL, List.getD_cons_zero, List.getD_cons_succ, List.length_cons, List.length_nil, List.set_cons_zero, List.set_cons_succ, List.getElem?_cons_zero, List.getElem?_cons_succ, reduceIte, Nat.reduceEqDiff, Nat.reduceAdd, Nat.reduceMul, Nat.reduceLeDiff, Nat.zero_add, Nat.add_zero, Option.map_some, Int.reduceEq, Int.reduceLT, Int.reduceLE, Bool.false_eq_true, decide_true, decide_false, ge_iff_le, gt_iff_lt, set_get']; rfl) ?_))
    refine Wc_ret (bad _ (by simp [upd, dstUpd]) (by simp [Ins.key, c1]))
  have d1 : (x.a != y.a) = false := by simpa using c1
  by_cases c2 : x.b = y.b
  case neg =>
    have d2 : (x.b != y.b) = true := by simpa using c2
    refine Wc_seq (Wc_ops (Wo_run (fun call => by simp only [List.drop_succ_cons, List.drop_zero, iops_nil, iops_op, iops_grd, iK_some, iG_true, iG_false, gval_bool, beq_true, beq_false, Bool.not_true, Bool.not_false, iop, ev, upd, dstUpd, binV, binI, unV, ptr, Heap.cell, Heap.write, cellsOf, put, args0, partL, List.getD_cons_zero, List.getD_cons_succ, List.length_cons, List.length_nil, List.set_cons_zero, List.set_cons_succ, List.getElem?_cons_zero, List.getElem?_cons_succ, reduceIte, Nat.reduceEqDiff, Nat.reduceAdd, Nat.reduceMul, Nat.reduceLeDiff, Nat.zero_add, Nat.add_zero, Option.map_some, Int.reduceEq, Int.reduceLT, Int.reduceLE, Bool.false_eq_true, decide_true, decide_false, ge_iff_le, gt_iff_lt, set_get', new_next, hgA, hgB, Ins.cells, d2, d0, d1]; rfl) ?_))
    show Wc T _ _ _
    refine Wc_cond true (by simp [ev, upd]) (fun _ => ?_) (fun h => by cases h)
    refine Wc_seq (Wc_ops (Wo_run (fun call => by simp only [List.drop_succ_cons, List.drop_zero, iops_nil, iops_op, iops_grd, iK_some, iG_true, iG_false, gval_bool, beq_true, beq_false, Bool.not_true, Bool.not_false, iop, ev, upd, dstUpd, binV, binI, unV, ptr, Heap.cell, Heap.write, cellsOf, put, args0, partL, List.getD_cons_zero, List.getD_cons_succ, List.length_cons, List.length_nil, List.set_cons_zero, List.set_cons_succ, List.getElem?_cons_zero, List.getElem?_cons_succ, reduceIte, Nat.reduceEqDiff, Nat.reduceAdd, Nat.reduceMul, Nat.reduceLeDiff, Nat.zero_add, Nat.add_zero, Option.map_some, Int.reduceEq, Int.reduceLT, Int.reduceLE, Bool.false_eq_true, decide_true, decide_false, ge_iff_le, gt_iff_lt, set_get']; rfl) ?_))
    refine Wc_ret (bad _ (by simp [upd, dstUpd]) (by simp [Ins.key, c2]))
  have d2 : (x.b != y.b) = false := by simpa using c2
  by_cases c3 : x.c = y.c
  case neg =>
    have d3 : (x.c != y.c) = true := by simpa using c3
    refine Wc_seq (Wc_ops (Wo_run (fun call => by simp only [List.drop_succ_cons, List.drop_zero, iops_nil, iops_op, iops_grd, iK_some, iG_true, iG_false, gval_bool, beq_true, beq_false, Bool.not_true, Bool.not_false, iop, ev, upd, dstUpd, binV, binI, unV, ptr, Heap.cell, Heap.write, cellsOf, put, args0, partL, List.getD_cons_zero, List.getD_cons_succ, List.length_cons, List.length_nil, List.set_cons_zero, List.set_cons_succ, List.getElem?_cons_zero, List.getElem?_cons_succ, reduceIte, Nat.reduceEqDiff, Nat.reduceAdd, Nat.reduceMul, Nat.reduceLeDiff, Nat.zero_add, Nat.add_zero, Option.map_some, Int.reduceEq, Int.reduceLT, Int.reduceLE, Bool.false_eq_true, decide_true, decide_false, ge_iff_le, gt_iff_lt, set_get', new_next, hgA, hgB, Ins.cells, d3, d0, d1, d2]; rfl) ?_))
    show Wc T _ _ _
    refine Wc_cond true (by simp [ev, upd]) (fun _ => ?_) (fun h => by cases h)
    refine Wc_seq (Wc_ops (Wo_run (fun call => by simp only [List.drop_succ_cons, List.drop_zero, iops_nil, iops_op, iops_grd, iK_some, iG_true, iG_false, gval_bool, beq_true, beq_false, Bool.not_true, Bool.not_false, iop, ev, upd, dstUpd, binV, binI, unV, ptr, Heap.cell, Heap.write, cellsOf, put, args0, partL, List.getD_cons_zero, List.getD_cons_succ, List.length_cons, List.length_nil, List.set_cons_zero, List.set_cons_succ, List.getElem?_cons_zero, List.getElem?_cons_succ, reduceIte, Nat.reduceEqDiff, Nat.reduceAdd, Nat.reduceMul, Nat.reduceLeDiff, Nat.zero_add, Nat.add_zero, Option.map_some, Int.reduceEq, Int.reduceLT, Int.reduceLE, Bool.false_eq_true, decide_true, decide_false, ge_iff_le, gt_iff_lt, set_get']; rfl) ?_))
    refine Wc_ret (bad _ (by simp [upd, dstUpd]) (by simp [Ins.key, c3]))
  have d3 : (x.c != y.c) = false := by simpa using c3
  by_cases c4 : x.k = y.k
  case neg =>
    have d4 : (x.k != y.k) = true := by simpa using c4
    refine Wc_seq (Wc_ops (Wo_run (fun call => by simp only [List.drop_succ_cons, List.drop_zero, iops_nil, iops_op, iops_grd, iK_some, iG_true, iG_false, gval_bool, beq_true, beq_false, Bool.not_true, Bool.not_false, iop, ev, upd, dstUpd, binV, binI, unV, ptr, Heap.cell, Heap.write, cellsOf, put, args0, partL, List.getD_cons_zero, List.getD_cons_succ, List.length_cons, List.length_nil, List.set_cons_zero, List.set_cons_succ, List.getElem?_cons_zero, List.getElem?_cons_succ, reduceIte, Nat.reduceEqDiff, Nat.reduceAdd, Nat.reduceMul, Nat.reduceLeDiff, Nat.zero_add, Nat.add_zero, Option.map_some, Int.reduceEq, Int.reduceLT, Int.reduceLE, Bool.false_eq_true, decide_true, decide_false, ge_iff_le, gt_iff_lt, set_get', new_next, hgA, hgB, Ins.cells, d4, d0, d1, d2, d3]; rfl) ?_))
    show Wc T _ _ _
    refine Wc_cond true (by simp [ev, upd]) (fun _ => ?_) (fun h => by cases h)
    refine Wc_seq (Wc_ops (Wo_run (fun call => by simp only [List.drop_succ_cons, List.drop_zero, iops_nil, iops_op, iops_grd, iK_some, iG_true, iG_false, gval_bool, beq_true, beq_false, Bool.not_true, Bool.not_false, iop, ev, upd, dstUpd, binV, binI, unV, ptr, Heap.cell, Heap.write, cellsOf, put, args0, partL, List.getD_cons_zero, List.getD_cons_succ, List.length_cons, List.length_nil, List.set_cons_zero, List.set_cons_succ, List.getElem?_cons_zero, List.getElem?_cons_succ, reduceIte, Nat.reduceEqDiff, Nat.reduceAdd, Nat.reduceMul, Nat.reduceLeDiff, Nat.zero_add, Nat.add_zero, Option.map_some, Int.reduceEq, Int.reduceLT, Int.reduceLE, Bool.false_eq_true, decide_true, decide_false, ge_iff_le, gt_iff_lt, set_get']; rfl) ?_))
    refine Wc_ret (bad _ (by simp [upd, dstUpd]) (by simp [Ins.key, c4]))
  have d4 : (x.k != y.k) = false := by simpa using c4
  refine Wc_seq (Wc_ops (Wo_pre 38 (fun call => by simp only [List.take_succ_cons, List.take_zero, List.drop_succ_cons, List.drop_zero, iops_nil, iops_op, iops_grd, iK_some, iG_true, iG_false, gval_bool, beq_true, beq_false, Bool.not_true, Bool.not_false, iop, ev, upd, dstUpd, binV, binI, unV, ptr, Heap.cell, Heap.write, cellsOf, put, args0, partL, List.getD_cons_zero, List.getD_cons_succ, List.length_cons, List.length_nil, List.set_cons_zero, List.set_cons_succ, List.getElem?_cons_zero, List.getElem?_cons_succ, reduceIte, Nat.reduceEqDiff, Nat.reduceAdd, Nat.reduceMul, Nat.reduceLeDiff, Nat.zero_add, Nat.add_zero, Option.map_some, Int.reduceEq, Int.reduceLT, Int.reduceLE, Bool.false_eq_true, decide_true, decide_false, ge_iff_le, gt_iff_lt, set_get', new_next, hgA, hgB, Ins.cells, d0, d1, d2, d3, d4]; rfl) ?_))
  refine Wo_take (by simp only [dstUpd, upd, reduceIte, Nat.reduceEqDiff, gval_bool]; rfl) (Wo_call ?_)
  show Wk T (.fn 37) [x.lv, y.lv] hpB _
  refine (ints11 (C37_eq ▸ h37) (hxin.keep hkpB).ints (hyin.keep hkpB).ints (hsm.2 x (List.mem_of_getElem? hxi))).mono fun o h2 ⟨hh2, ho2⟩ => ?_
  subst hh2 ho2
  show Wo T _ _ _
  refine (Wo_run (fun call => by simp only [List.drop_succ_cons, List.drop_zero, iops_nil, iops_op, iops_grd, iK_some, iG_true, iG_false, gval_bool, beq_true, beq_false, Bool.not_true, Bool.not_false, iop, ev, upd, dstUpd, binV, binI, unV, ptr, Heap.cell, Heap.write, cellsOf, put, args0, partL, List.getD_cons_zero, List.getD_cons_succ, List.length_cons, List.length_nil, List.set_cons_zero, List.set_cons_succ, List.getElem?_cons_zero, List.getElem?_cons_succ, reduceIte, Nat.reduceEqDiff, Nat.reduceAdd, Nat.reduceMul, Nat.reduceLeDiff, Nat.zero_add, Nat.add_zero, Option.map_some, Int.reduceEq, Int.reduceLT, Int.reduceLE, Bool.false_eq_true, decide_true, decide_false, ge_iff_le, gt_iff_lt, set_get']; rfl) ?_)
  show Wc T _ _ _
  refine Wc_cond (!decide (x.l = y.l)) (by simp [ev, upd]) (fun hne => ?_) (fun heq => Wc_skip ?_)
  · refine Wc_seq (Wc_ops (Wo_run (fun call => by simp only [List.drop_succ_cons, List.drop_zero, iops_nil, iops_op, iops_grd, iK_some, iG_true, iG_false, gval_bool, beq_true, beq_false, Bool.not_true, Bool.not_false, iop, ev, upd, dstUpd, binV, binI, unV, ptr, Heap.cell, Heap.write, cellsOf, put, args0, partL, List.getD_cons_zero, List.getD_cons_succ, List.length_cons, List.length_nil, List.set_cons_zero, List.set_cons_succ, List.getElem?_cons_zero, List.getElem?_cons_succ, reduceIte, Nat.reduceEqDiff, Nat.reduceAdd, Nat.reduceMul, Nat.reduceLeDiff, Nat.zero_add, Nat.add_zero, Option.map_some, Int.reduceEq, Int.reduceLT, Int.reduceLE, Bool.false_eq_true, decide_true, decide_false, ge_iff_le, gt_iff_lt, set_get']; rfl) ?_))
    refine Wc_ret (bad _ (by simp [upd, dstUpd]) ?_)
    have : ¬ x.l = y.l := by simpa using hne
    simp [Ins.key, this]
  show Wc T _ _ _
  have hll : x.l = y.l := by simpa using heq
  refine Wc_ops (Wo_run (fun call => by simp only [List.drop_succ_cons, List.drop_zero, iops_nil, iops_op, iops_grd, iK_some, iG_true, iG_false, gval_bool, beq_true, beq_false, Bool.not_true, Bool.not_false, iop, ev, upd, dstUpd, binV, binI, unV, ptr, Heap.cell, Heap.write, cellsOf, put, args0, partL, List.getD_cons_zero, List.getD_cons_succ, List.length_cons, List.length_nil, List.set_cons_zero, List.set_cons_succ, List.getElem?_cons_zero, List.getElem?_cons_succ, reduceIte, Nat.reduceEqDiff, Nat.reduceAdd, Nat.reduceMul, Nat.reduceLeDiff, Nat.zero_add, Nat.add_zero, Option.map_some, Int.reduceEq, Int.reduceLT, Int.reduceLE, Bool.false_eq_true, decide_true, decide_false, ge_iff_le, gt_iff_lt, set_get', k79, e1']; rfl) ?_)
  refine ⟨⟨rfl, hk.trans hkpB, fun t h1 h2 h3 h4 h5 => ?_, i + 1, by omega, ?_, ?_⟩, ?_⟩
  · simp only [upd]
    repeat rw [if_neg (by omega)]
    exact hfr t h1 h2 h3 h4 h5
  · simp only [upd, Nat.reduceEqDiff, reduceIte]
  · rw [List.map_take, List.map_take] at ht ⊢
    exact take_eq_succ ht (x := x.key) (by simp [hxi]) (by simp [hyi, Ins.key, c0, c1, c2, c3, c4, hll])
  · simp only [upd, Nat.reduceEqDiff, reduceIte, k79]; omega

theorem same19 {T : Tbl} (hT : T.fn 19 = some C19) (h37 : T.fn 37 = some C37) (x y : Cod) (h : Heap) (hx : x.Ok h) (hy : y.Ok h) (hs : x.small) : Wk T (.fn 19) [.agg x.cells.toArray, .agg y.cells.toArray] h (fun o h' => Kept h h' ∧ o = .ret (.bool (decide (x.key = y.key)))) := by
  refine Wk_fn hT (by simp [C19]) ?_
  simp only [C19]
  have hb : iop (.box (.t 0)) (args0 [.agg x.cells.toArray, .agg y.cells.toArray]) h = some (ptr h.next 0, h.new (.cells x.cells true 0)) := by simp [iop, ev, args0, cellsOf]
  have hb2 : iop (.box (.t 1)) (dstUpd (args0 [.agg x.cells.toArray, .agg y.cells.toArray]) (some 2) (ptr h.next 0)) (h.new (.cells x.cells true 0)) = some (ptr (h.next + 1) 0, (h.new (.cells x.cells true 0)).new (.cells y.cells true 0)) := by simp [iop, ev, args0, cellsOf, dstUpd, upd, new_next]
  refine Wc_seq (Wc_ops (Wo_op hb (Wo_op hb2 (Wo_run (fun call => by simp only [List.drop_succ_cons, List.drop_zero, iops_nil, iops_op, iops_grd, iK_some, iG_true, iG_false, gval_bool, beq_true, beq_false, Bool.not_true, Bool.not_false, iop, ev, upd, dstUpd, binV, binI, unV, ptr, Heap.cell, Heap.write, cellsOf, put, args0, partL, List.getD_cons_zero, List.getD_cons_succ, List.length_cons, List.length_nil, List.set_cons_zero, List.set_cons_succ, List.getElem?_cons_zero, List.getElem?_cons_succ, reduceIte, Nat.reduceEqDiff, Nat.reduceAdd, Nat.reduceMul, Nat.reduceLeDiff, Nat.zero_add, Nat.add_zero, Option.map_some, Int.reduceEq, Int.reduceLT, Int.reduceLE, Bool.false_eq_true, decide_true, decide_false, ge_iff_le, gt_iff_lt, set_get']; rfl) ?_))))
  show Wc T _ _ _
  have hg3 : ((h.new (.cells x.cells true 0)).new (.cells y.cells true 0)).get (h.next + 1) = some (.cells y.cells true 0) := new_get' _ _
  have hg2 : ((h.new (.cells x.cells true 0)).new (.cells y.cells true 0)).get h.next = some (.cells x.cells true 0) := by rw [new_get_ne' _ _ (by rw [new_next]; omega), new_get']
  have hk : Kept h ((h.new (.cells x.cells true 0)).new (.cells y.cells true 0)) := ((Kept.refl h).new _).new _
  have hn1 : ((h.new (.cells x.cells true 0)).new (.cells y.cells true 0)).next = h.next + 2 := rfl
  generalize (h.new (.cells x.cells true 0)).new (.cells y.cells true 0) = h1 at hg2 hg3 hk hn1 ⊢
  have fin : ∀ (e : Env) (hp : Heap) (r : Bool), Kept h1 hp → e 4 = .bool r → decide (x.key = y.key) = r → ((Ex.ret = .normal ∨ Ex.ret = .ret) ∧ some ([] : List Dfr) = some [] ∧ ∃ vs, resAll e hp [.tmp 4] = some vs ∧ Kept h hp ∧ Out.ret (tup vs) = .ret (.bool (decide (x.key = y.key)))) := by
    intro e hp r hk1 h4 hr
    exact ⟨.inr rfl, rfl, [.bool r], by simp only [resAll, resV, h4], hk.trans hk1, by rw [hr]; rfl⟩
  obtain ⟨pa, ca, hfx⟩ := hx.funcs.len
  obtain ⟨pb, cb, hfy⟩ := hy.funcs.len
  by_cases c0 : x.funcs.length = y.funcs.length
  case neg =>
    have d0 : ((x.funcs.length : Int) != (y.funcs.length : Int)) = true := by simp; omega
    refine Wc_seq (Wc_seq (Wc_ops (Wo_run (fun call => by simp only [List.drop_succ_cons, List.drop_zero, iops_nil, iops_op, iops_grd, iK_some, iG_true, iG_false, gval_bool, beq_true, beq_false, Bool.not_true, Bool.not_false, iop, ev, upd, dstUpd, binV, binI, unV, ptr, Heap.cell, Heap.write, cellsOf, put, args0, partL, List.getD_cons_zero, List.getD_cons_succ, List.length_cons, List.length_nil, List.set_cons_zero, List.set_cons_succ, List.getElem?_cons_zero, List.getElem?_cons_succ, reduceIte, Nat.reduceEqDiff, Nat.reduceAdd, Nat.reduceMul, Nat.reduceLeDiff, Nat.zero_add, Nat.add_zero, Option.map_some, Int.reduceEq, Int.reduceLT, Int.reduceLE, Bool.false_eq_true, decide_true, decide_false, ge_iff_le, gt_iff_lt, set_get', hg2, hg3, Cod.cells, hfx, hfy, d0]; rfl) ?_)))
    show Wc T _ _ _
    refine Wc_cond true (by simp [ev, upd]) (fun _ => ?_) (fun h => by cases h)
    refine Wc_seq (Wc_ops (Wo_run (fun call => by simp only [List.drop_succ_cons, List.drop_zero, iops_nil, iops_op, iops_grd, iK_some, iG_true, iG_false, gval_bool, beq_true, beq_false, Bool.not_true, Bool.not_false, iop, ev, upd, dstUpd, binV, binI, unV, ptr, Heap.cell, Heap.write, cellsOf, put, args0, partL, List.getD_cons_zero, List.getD_cons_succ, List.length_cons, List.length_nil, List.set_cons_zero, List.set_cons_succ, List.getElem?_cons_zero, List.getElem?_cons_succ, reduceIte, Nat.reduceEqDiff, Nat.reduceAdd, Nat.reduceMul, Nat.reduceLeDiff, Nat.zero_add, Nat.add_zero, Option.map_some, Int.reduceEq, Int.reduceLT, Int.reduceLE, Bool.false_eq_true, decide_true, decide_false, ge_iff_le, gt_iff_lt, set_get']; rfl) ?_))
    refine Wc_ret (fin _ _ false (.refl _) (by simp [upd, dstUpd]) ?_)
    simp only [decide_eq_false_iff_not]
    intro e
    have := congrArg (fun k : CodK => k.funcs.length) e
    simp [Cod.key] at this
    exact c0 this
  have d0 : ((x.funcs.length : Int) != (y.funcs.length : Int)) = false := by simp; omega
  by_cases c1 : x.main = y.main
  case neg =>
    have d1 : (x.main != y.main) = true := by simpa using c1
    refine Wc_seq (Wc_seq (Wc_ops (Wo_run (fun call => by simp only [List.drop_succ_cons, List.drop_zero, iops_nil, iops_op, iops_grd, iK_some, iG_true, iG_false, gval_bool, beq_true, beq_false, Bool.not_true, Bool.not_false, iop, ev, upd, dstUpd, binV, binI, unV, ptr, Heap.cell, Heap.write, cellsOf, put, args0, partL, List.getD_cons_zero, List.getD_cons_succ, List.length_cons, List.length_nil, List.set_cons_zero, List.set_cons_succ, List.getElem?_cons_zero, List.getElem?_cons_succ, reduceIte, Nat.reduceEqDiff, Nat.reduceAdd, Nat.reduceMul, Nat.reduceLeDiff, Nat.zero_add, Nat.add_zero, Option.map_some, Int.reduceEq, Int.reduceLT, Int.reduceLE, Bool.false_eq_true, decide_true, decide_false, ge_iff_le, gt_iff_lt, set_get', hg2, hg3, Cod.cells, hfx, hfy, d0, d1]; rfl) ?_)))
    show Wc T _ _ _
    refine Wc_cond true (by simp [ev, upd]) (fun _ => ?_) (fun h => by cases h)
    refine Wc_seq (Wc_ops (Wo_run (fun call => by simp only [List.drop_succ_cons, List.drop_zero, iops_nil, iops_op, iops_grd, iK_some, iG_true, iG_false, gval_bool, beq_true, beq_false, Bool.not_true, Bool.not_false, iop, ev, upd, dstUpd, binV, binI, unV, ptr, Heap.cell, Heap.write, cellsOf, put, args0, partL, List.getD_cons_zero, List.getD_cons_succ, List.length_cons, List.length_nil, List.set_cons_zero, List.set_cons_succ, List.getElem?_cons_zero, List.getElem?_cons_succ, reduceIte, Nat.reduceEqDiff, Nat.reduceAdd, Nat.reduceMul, Nat.reduceLeDiff, Nat.zero_add, Nat.add_zero, Option.map_some, Int.reduceEq, Int.reduceLT, Int.reduceLE, Bool.false_eq_true, decide_true, decide_false, ge_iff_le, gt_iff_lt, set_get']; rfl) ?_))
    exact Wc_ret (fin _ _ false (.refl _) (by simp [upd, dstUpd]) (by simp [Cod.key, c1]))
  have d1 : (x.main != y.main) = false := by simpa using c1
  by_cases c2 : x.merges = y.merges
  case neg =>
    have d2 : (x.merges != y.merges) = true := by simpa using c2
    refine Wc_seq (Wc_seq (Wc_ops (Wo_run (fun call => by simp only [List.drop_succ_cons, List.drop_zero, iops_nil, iops_op, iops_grd, iK_some, iG_true, iG_false, gval_bool, beq_true, beq_false, Bool.not_true, Bool.not_false, iop, ev, upd, dstUpd, binV, binI, unV, ptr, Heap.cell, Heap.write, cellsOf, put, args0, partL, List.getD_cons_zero, List.getD_cons_succ, List.length_cons, List.length_nil, List.set_cons_zero, List.set_cons_succ, List.getElem?_cons_zero, List.getElem?_cons_succ, reduceIte, Nat.reduceEqDiff, Nat.reduceAdd, Nat.reduceMul, Nat.reduceLeDiff, Nat.zero_add, Nat.add_zero, Option.map_some, Int.reduceEq, Int.reduceLT, Int.reduceLE, Bool.false_eq_true, decide_true, decide_false, ge_iff_le, gt_iff_lt, set_get', hg2, hg3, Cod.cells, hfx, hfy, d0, d1, d2]; rfl) ?_)))
    show Wc T _ _ _
    refine Wc_cond true (by simp [ev, upd]) (fun _ => ?_) (fun h => by cases h)
    refine Wc_seq (Wc_ops (Wo_run (fun call => by simp only [List.drop_succ_cons, List.drop_zero, iops_nil, iops_op, iops_grd, iK_some, iG_true, iG_false, gval_bool, beq_true, beq_false, Bool.not_true, Bool.not_false, iop, ev, upd, dstUpd, binV, binI, unV, ptr, Heap.cell, Heap.write, cellsOf, put, args0, partL, List.getD_cons_zero, List.getD_cons_succ, List.length_cons, List.length_nil, List.set_cons_zero, List.set_cons_succ, List.getElem?_cons_zero, List.getElem?_cons_succ, reduceIte, Nat.reduceEqDiff, Nat.reduceAdd, Nat.reduceMul, Nat.reduceLeDiff, Nat.zero_add, Nat.add_zero, Option.map_some, Int.reduceEq, Int.reduceLT, Int.reduceLE, Bool.false_eq_true, decide_true, decide_false, ge_iff_le, gt_iff_lt, set_get']; rfl) ?_))
    exact Wc_ret (fin _ _ false (.refl _) (by simp [upd, dstUpd]) (by simp [Cod.key, c2]))
  have d2 : (x.merges != y.merges) = false := by simpa using c2
  refine Wc_seq (Wc_seq (Wc_ops (Wo_run (fun call => by simp only [List.drop_succ_cons, List.drop_zero, iops_nil, iops_op, iops_grd, iK_some, iG_true, iG_false, gval_bool, beq_true, beq_false, Bool.not_true, Bool.not_false, iop, ev, upd, dstUpd, binV, binI, unV, ptr, Heap.cell, Heap.write, cellsOf, put, args0, partL, List.getD_cons_zero, List.getD_cons_succ, List.length_cons, List.length_nil, List.set_cons_zero, List.set_cons_succ, List.getElem?_cons_zero, List.getElem?_cons_succ, reduceIte, Nat.reduceEqDiff, Nat.reduceAdd, Nat.reduceMul, Nat.reduceLeDiff, Nat.zero_add, Nat.add_zero, Option.map_some, Int.reduceEq, Int.reduceLT, Int.reduceLE, Bool.false_eq_true, decide_true, decide_false, ge_iff_le, gt_iff_lt, set_get', hg2, hg3, Cod.cells, hfx, hfy, d0, d1, d2]; rfl) ?_)))
  show Wc T _ _ _
  refine Wc_cond false (by simp [ev, upd]) (fun h => by cases h) (fun _ => Wc_skip ?_)
  show Wc T _ _ _
  refine Wc_seq (Wc_seq (Wc_ops (Wo_run (fun call => by simp only [List.drop_succ_cons, List.drop_zero, iops_nil, iops_op, iops_grd, iK_some, iG_true, iG_false, gval_bool, beq_true, beq_false, Bool.not_true, Bool.not_false, iop, ev, upd, dstUpd, binV, binI, unV, ptr, Heap.cell, Heap.write, cellsOf, put, args0, partL, List.getD_cons_zero, List.getD_cons_succ, List.length_cons, List.length_nil, List.set_cons_zero, List.set_cons_succ, List.getElem?_cons_zero, List.getElem?_cons_succ, reduceIte, Nat.reduceEqDiff, Nat.reduceAdd, Nat.reduceMul, Nat.reduceLeDiff, Nat.zero_add, Nat.add_zero, Option.map_some, Int.reduceEq, Int.reduceLT, Int.reduceLE, Bool.false_eq_true, decide_true, decide_false, ge_iff_le, gt_iff_lt, set_get', hg2, Cod.cells, hfx]; rfl) ?_)))
  show Wc T _ _ _
  refine Wc_block (Wc_loop (fun s => s.d = some [] ∧ Kept h1 s.h ∧ s.e 2 = ptr h.next 0 ∧ s.e 3 = ptr (h.next + 1) 0 ∧ s.e 34 = .int .i64 x.funcs.length ∧ ∃ i : Nat, i ≤ x.funcs.length ∧ s.e 35 = .int .i64 i ∧ (x.funcs.take i).map Fn.key = (y.funcs.take i).map Fn.key)
    (fun s => match s.e 35 with | .int _ i => (x.funcs.length - i).toNat | _ => 0) ?_ ?_)
  · exact ⟨rfl, .refl _, by simp [upd, dstUpd, ptr], by simp [upd, dstUpd, ptr], by simp [upd, dstUpd], 0, Nat.zero_le _, by simp [upd, dstUpd], rfl⟩
  rintro ⟨e, hp, d⟩ ⟨hd, hkp, g2, g3, g34, i, hi, g35, ht⟩
  simp only at hd hkp g2 g3 g34 g35
  subst hd
  rw [C19L1]
  have kg2 : hp.get h.next = some (.cells x.cells true 0) := by rw [hkp.get _ (by omega)]; exact hg2
  have kg3 : hp.get (h.next + 1) = some (.cells y.cells true 0) := by rw [hkp.get _ (by omega)]; exact hg3
  have hnp : h.next + 2 ≤ hp.next := by have := hkp.next; omega
  refine Wc_seq (Wc_ops (Wo_run (fun call => by simp only [List.drop_succ_cons, List.drop_zero, iops_nil, iops_op, iops_grd, iK_some, iG_true, iG_false, gval_bool, beq_true, beq_false, Bool.not_true, Bool.not_false, iop, ev, upd, dstUpd, binV, binI, unV, ptr, Heap.cell, Heap.write, cellsOf, put, args0, partL, List.getD_cons_zero, List.getD_cons_succ, List.length_cons, List.length_nil, List.set_cons_zero, List.set_cons_succ, List.getElem?_cons_zero, List.getElem?_cons_succ, reduceIte, Nat.reduceEqDiff, Nat.reduceAdd, Nat.reduceMul, Nat.reduceLeDiff, Nat.zero_add, Nat.add_zero, Option.map_some, Int.reduceEq, Int.reduceLT, Int.reduceLE, Bool.false_eq_true, decide_true, decide_false, ge_iff_le, gt_iff_lt, set_get', g34, g35]; rfl) ?_))
  show Wc T _ _ _
  refine Wc_seq (Wc_cond (decide ((i : Int) < x.funcs.length)) (by simp [ev, upd]) (fun hlt => Wc_skip ?_) (fun hge => Wc_exit ?_))
  case refine_2 =>
    show Wc T _ _ _
    have : i = x.funcs.length := by simp at hge; omega
    subst this
    rw [List.take_length, c0, List.take_length] at ht
    refine Wc_seq (Wc_ops (Wo_run (fun call => by simp only [List.drop_succ_cons, List.drop_zero, iops_nil, iops_op, iops_grd, iK_some, iG_true, iG_false, gval_bool, beq_true, beq_false, Bool.not_true, Bool.not_false, iop, ev, upd, dstUpd, binV, binI, unV, ptr, Heap.cell, Heap.write, cellsOf, put, args0, partL, List.getD_cons_zero, List.getD_cons_succ, List.length_cons, List.length_nil, List.set_cons_zero, List.set_cons_succ, List.getElem?_cons_zero, List.getElem?_cons_succ, reduceIte, Nat.reduceEqDiff, Nat.reduceAdd, Nat.reduceMul, Nat.reduceLeDiff, Nat.zero_add, Nat.add_zero, Option.map_some, Int.reduceEq, Int.reduceLT, Int.reduceLE, Bool.false_eq_true, decide_true, decide_false, ge_iff_le, gt_iff_lt, set_get']; rfl) ?_))
    exact Wc_ret (fin _ _ true hkp (by simp [upd, dstUpd]) (by simp [Cod.key, c1, c2, ht]))
  show Wc T _ _ _
  have hil : i < x.funcs.length := by simpa using hlt
  have hil2 : i < y.funcs.length := by omega
  obtain ⟨f, hxi⟩ : ∃ f, x.funcs[i]? = some f := ⟨_, List.getElem?_eq_getElem hil⟩
  obtain ⟨g, hyi⟩ : ∃ g, y.funcs[i]? = some g := ⟨_, List.getElem?_eq_getElem hil2⟩
  obtain ⟨bx, cx, hva, hbx, _, hcx, hxin⟩ := ((hx.keep (hk.trans hkp)).funcs).load fnCells_len hxi
  obtain ⟨by', cy, hvb, hby, _, hcy, hyin⟩ := ((hy.keep (hk.trans hkp)).funcs).load fnCells_len hyi
  have e1' : IntKind.i64.wrap ((i : Int) + 1) = ((i + 1 : Nat) : Int) := by
    have := hs.1
    unfold Idl.small at this
    rw [wrap64] <;> omega
  refine Wc_seq (Wc_block (Wc_seq (Wc_ops (Wo_run (fun call => by simp only [List.drop_succ_cons, List.drop_zero, iops_nil, iops_op, iops_grd, iK_some, iG_true, iG_false, gval_bool, beq_true, beq_false, Bool.not_true, Bool.not_false, iop, ev, upd, dstUpd, binV, binI, unV, ptr, Heap.cell, Heap.write, cellsOf, put, args0, partL, List.getD_cons_zero, List.getD_cons_succ, List.length_cons, List.length_nil, List.set_cons_zero, List.set_cons_succ, List.getElem?_cons_zero, List.getElem?_cons_succ, reduceIte, Nat.reduceEqDiff, Nat.reduceAdd, Nat.reduceMul, Nat.reduceLeDiff, Nat.zero_add, Nat.add_zero, Option.map_some, Int.reduceEq, Int.reduceLT, Int.reduceLE, Bool.false_eq_true, decide_true, decide_false, ge_iff_le, gt_iff_lt, set_get', g35]; rfl) ?_))))
  show Wc T _ _ _
  refine Wc_seq (Wc_draw ?_)
  refine Wd_P rfl (by simp only [iop, ev, dstUpd, upd, reduceIte, Nat.reduceEqDiff, g2, ptr]; rfl) ?_
  refine Wd_R rfl (by simp only [iop, ev, dstUpd, upd, reduceIte, Nat.reduceEqDiff, Heap.cell, kg2, Cod.cells, Nat.zero_add, List.getElem?_cons_zero, List.getElem?_cons_succ, Option.map_some]; rfl) (fun p hp => (by cases hp)) ?_
  refine Wd_P rfl rfl ?_
  refine Wd_P rfl (iop_iaddr (b := bx) (len := x.funcs.length) (c := cx) (i := i) (by simp only [upd, dstUpd, reduceIte, Nat.reduceEqDiff]; exact hva) (by simp only [upd, dstUpd, reduceIte, Nat.reduceEqDiff, ev, g35]) hil) ?_
  refine Wd_R rfl (iop_load (b := bx) (o := i * 4) (cs := f.cells) (by simp only [upd, dstUpd, reduceIte, Nat.reduceEqDiff]) hcx) (fun p hp => (by cases hp)) ?_
  refine Wd_P rfl (by simp only [iop, ev, dstUpd, upd, reduceIte, Nat.reduceEqDiff, g3, ptr]; rfl) ?_
  refine Wd_R rfl (by simp only [iop, ev, dstUpd, upd, reduceIte, Nat.reduceEqDiff, Heap.cell, kg3, Cod.cells, Nat.zero_add, List.getElem?_cons_zero, List.getElem?_cons_succ, Option.map_some]; rfl) (fun p hp => (by cases hp)) ?_
  refine Wd_P rfl rfl ?_
  refine Wd_P rfl (iop_iaddr (b := by') (len := y.funcs.length) (c := cy) (i := i) (by simp only [upd, dstUpd, reduceIte, Nat.reduceEqDiff]; exact hvb) (by simp only [upd, dstUpd, reduceIte, Nat.reduceEqDiff, ev, g35]) hil2) ?_
  refine Wd_R rfl (iop_load (b := by') (o := i * 4) (cs := g.cells) (by simp only [upd, dstUpd, reduceIte, Nat.reduceEqDiff]) hcy) (fun p hp => (by cases hp)) ?_
  refine Wd_A rfl (by simp only [iop]; rfl) (Wd_A rfl (by simp only [iop]; rfl) ?_)
  simp only [locOp, ev, dstUpd, upd, reduceIte, Nat.reduceEqDiff, ptr]
  refine Wd_E rfl (iop_store (b := hp.next) (esz := 0) (cs := f.cells) (z := [(.string ⟨#[]⟩), (.int .i64 0), (.int .i64 0), (.slice none 0 0)]) (by simp only [upd, dstUpd, reduceIte, Nat.reduceEqDiff, ptr]) (by simp only [upd, dstUpd, reduceIte, Nat.reduceEqDiff]) (fnCells_len f) (by rw [new_get_ne' _ _ (by rw [new_next]; omega), new_get']) rfl) ?_ ?_
  · intro p hp'
    simp only [List.mem_cons, List.not_mem_nil, or_false] at hp'
    rcases hp' with rfl | rfl | rfl | rfl | rfl | rfl
    · exact .inl (by simp)
    · exact .inl (by simp)
    · exact .inr (sameAt_cells (by omega))
    · exact .inr (sameAt_cells (by omega))
    · exact .inl (by simp)
    · exact .inl (by simp)
  refine Wd_E rfl (iop_store (b := hp.next + 1) (esz := 0) (cs := g.cells) (z := [(.string ⟨#[]⟩), (.int .i64 0), (.int .i64 0), (.slice none 0 0)]) (by simp only [upd, dstUpd, reduceIte, Nat.reduceEqDiff, ptr, new_next]) (by simp only [upd, dstUpd, reduceIte, Nat.reduceEqDiff]) (fnCells_len g) (by rw [set_get_ne' _ _ (by omega)]; exact new_get' _ _) rfl) ?_ ?_
  · intro p hp'
    simp only [List.mem_cons, List.not_mem_nil, or_false] at hp'
    rcases hp' with rfl | rfl | rfl | rfl | rfl | rfl <;> exact .inl (by simp)
  refine Wd_nil ?_
  show Wc T _ _ _
  have hkpB : Kept hp (((hp.new (.cells [(.string ⟨#[]⟩), (.int .i64 0), (.int .i64 0), (.slice none 0 0)] true 0)).new (.cells [(.string ⟨#[]⟩), (.int .i64 0), (.int .i64 0), (.slice none 0 0)] true 0)).set hp.next (.cells f.cells true 0) |>.set (hp.next + 1) (.cells g.cells true 0)) := ((((Kept.refl hp).new _).new _).set (Nat.le_refl _) _).set (Nat.le_succ _) _
  have hgB : (((hp.new (.cells [(.string ⟨#[]⟩), (.int .i64 0), (.int .i64 0), (.slice none 0 0)] true 0)).new (.cells [(.string ⟨#[]⟩), (.int .i64 0), (.int .i64 0), (.slice none 0 0)] true 0)).set hp.next (.cells f.cells true 0) |>.set (hp.next + 1) (.cells g.cells true 0)).get (hp.next + 1) = some (.cells g.cells true 0) := set_get' _ _ _
  have hgA : (((hp.new (.cells [(.string ⟨#[]⟩), (.int .i64 0), (.int .i64 0), (.slice none 0 0)] true 0)).new (.cells [(.string ⟨#[]⟩), (.int .i64 0), (.int .i64 0), (.slice none 0 0)] true 0)).set hp.next (.cells f.cells true 0) |>.set (hp.next + 1) (.cells g.cells true 0)).get hp.next = some (.cells f.cells true 0) := by
    rw [set_get_ne' _ _ (by omega), set_get']
  have hnB : hp.next + 1 < (((hp.new (.cells [(.string ⟨#[]⟩), (.int .i64 0), (.int .i64 0), (.slice none 0 0)] true 0)).new (.cells [(.string ⟨#[]⟩), (.int .i64 0), (.int .i64 0), (.slice none 0 0)] true 0)).set hp.next (.cells f.cells true 0) |>.set (hp.next + 1) (.cells g.cells true 0)).next := Nat.lt_succ_self _
  generalize (((hp.new (.cells [(.string ⟨#[]⟩), (.int .i64 0), (.int .i64 0), (.slice none 0 0)] true 0)).new (.cells [(.string ⟨#[]⟩), (.int .i64 0), (.int .i64 0), (.slice none 0 0)] true 0)).set hp.next (.cells f.cells true 0) |>.set (hp.next + 1) (.cells g.cells true 0)) = hpB at hkpB hgA hgB hnB ⊢
  have hkB : Kept h1 hpB := hkp.trans hkpB
  have bad : ∀ (e' : Env) (hq : Heap), Kept hpB hq → e' 4 = .bool false → f.key ≠ g.key → ((Ex.ret = .normal ∨ Ex.ret = .ret) ∧ some ([] : List Dfr) = some [] ∧ ∃ vs, resAll e' hq [.tmp 4] = some vs ∧ Kept h hq ∧ Out.ret (tup vs) = .ret (.bool (decide (x.key = y.key)))) := by
    intro e' hq hkq h4 hne
    refine fin e' hq false (hkB.trans hkq) h4 ?_
    simp only [decide_eq_false_iff_not]
    intro e
    exact ne_of_at (i := i) (x := f.key) (y := g.key) (a := x.funcs.map Fn.key) (b := y.funcs.map Fn.key) (by simp [hxi]) (by simp [hyi]) hne (congrArg CodK.funcs e)
  obtain ⟨qa, ra, hfc⟩ := hxin.code.len
  obtain ⟨qb, rb, hgc⟩ := hyin.code.len
  by_cases q0 : f.name = g.name
  case neg =>
    have r0 : (!decide (f.name = g.name)) = true := by simpa using q0
    refine Wc_seq (Wc_seq (Wc_ops (Wo_run (fun call => by simp only [List.drop_succ_cons, List.drop_zero, iops_nil, iops_op, iops_grd, iK_some, iG_true, iG_false, gval_bool, beq_true, beq_false, Bool.not_true, Bool.not_false, iop, ev, upd, dstUpd, binV, binI, unV, ptr, Heap.cell, Heap.write, cellsOf, put, args0, partL, List.getD_cons_zero, List.getD_cons_succ, List.length_cons, List.length_nil, List.set_cons_zero, List.set_cons_succ, List.getElem?_cons_zero, List.getElem?_cons_succ, reduceIte, Nat.reduceEqDiff, Nat.reduceAdd, Nat.reduceMul, Nat.reduceLeDiff, Nat.zero_add, Nat.add_zero, Option.map_some, Int.reduceEq, Int.reduceLT, Int.reduceLE, Bool.false_eq_true, decide_true, decide_false, ge_iff_le, gt_iff_lt, set_get', new_next, hgA, hgB, Fn.cells, r0]; rfl) ?_)))
    show Wc T _ _ _
    refine Wc_cond true (by simp [ev, upd]) (fun _ => ?_) (fun h => by cases h)
    refine Wc_seq (Wc_ops (Wo_run (fun call => by simp only [List.drop_succ_cons, List.drop_zero, iops_nil, iops_op, iops_grd, iK_some, iG_true, iG_false, gval_bool, beq_true, beq_false, Bool.not_true, Bool.not_false, iop, ev, upd, dstUpd, binV, binI, unV, ptr, Heap.cell, Heap.write, cellsOf, put, args0, partL, List.getD_cons_zero, List.getD_cons_succ, List.length_cons, List.length_nil, List.set_cons_zero, List.set_cons_succ, List.getElem?_cons_zero, List.getElem?_cons_succ, reduceIte, Nat.reduceEqDiff, Nat.reduceAdd, Nat.reduceMul, Nat.reduceLeDiff, Nat.zero_add, Nat.add_zero, Option.map_some, Int.reduceEq, Int.reduceLT, Int.reduceLE, Bool.false_eq_true, decide_true, decide_false, ge_iff_le, gt_iff_lt, set_get']; rfl) ?_))
    refine Wc_ret (bad _ _ (.refl _) (by simp [upd, dstUpd]) (by simp [Fn.key, q0]))
  have r0 : (!decide (f.name = g.name)) = false := by simpa using q0
  by_cases q1 : f.params = g.params
  case neg =>
    have r1 : (f.params != g.params) = true := by simpa using q1
    refine Wc_seq (Wc_seq (Wc_ops (Wo_run (fun call => by simp only [List.drop_succ_cons, List.drop_zero, iops_nil, iops_op, iops_grd, iK_some, iG_true, iG_false, gval_bool, beq_true, beq_false, Bool.not_true, Bool.not_false, iop, ev, upd, dstUpd, binV, binI, unV, ptr, Heap.cell, Heap.write, cellsOf, put, args0, partL, List.getD_cons_zero, List.getD_cons_succ, List.length_cons, List.length_nil, List.set_cons_zero, List.set_cons_succ, List.getElem?_cons_zero, List.getElem?_cons_succ, reduceIte, Nat.reduceEqDiff, Nat.reduceAdd, Nat.reduceMul, Nat.reduceLeDiff, Nat.zero_add, Nat.add_zero, Option.map_some, Int.reduceEq, Int.reduceLT, Int.reduceLE, Bool.false_eq_true, decide_true, decide_false, ge_iff_le, gt_iff_lt, set_get', new_next, hgA, hgB, Fn.cells, r1, r0]; rfl) ?_)))
    show Wc T _ _ _
    refine Wc_cond true (by simp [ev, upd]) (fun _ => ?_) (fun h => by cases h)
    refine Wc_seq (Wc_ops (Wo_run (fun call => by simp only [List.drop_succ_cons, List.drop_zero, iops_nil, iops_op, iops_grd, iK_some, iG_true, iG_false, gval_bool, beq_true, beq_false, Bool.not_true, Bool.not_false, iop, ev, upd, dstUpd, binV, binI, unV, ptr, Heap.cell, Heap.write, cellsOf, put, args0, partL, List.getD_cons_zero, List.getD_cons_succ, List.length_cons, List.length_nil, List.set_cons_zero, List.set_cons_succ, List.getElem?_cons_zero, List.getElem?_cons_succ, reduceIte, Nat.reduceEqDiff, Nat.reduceAdd, Nat.reduceMul, Nat.reduceLeDiff, Nat.zero_add, Nat.add_zero, Option.map_some, Int.reduceEq, Int.reduceLT, Int.reduceLE, Bool.false_eq_true, decide_true, decide_false, ge_iff_le, gt_iff_lt, set_get']; rfl) ?_))
    refine Wc_ret (bad _ _ (.refl _) (by simp [upd, dstUpd]) (by simp [Fn.key, q1]))
  have r1 : (f.params != g.params) = false := by simpa using q1
  by_cases q2 : f.regs = g.regs
  case neg =>
    have r2 : (f.regs != g.regs) = true := by simpa using q2
    refine Wc_seq (Wc_seq (Wc_ops (Wo_run (fun call => by simp only [List.drop_succ_cons, List.drop_zero, iops_nil, iops_op, iops_grd, iK_some, iG_true, iG_false, gval_bool, beq_true, beq_false, Bool.not_true, Bool.not_false, iop, ev, upd, dstUpd, binV, binI, unV, ptr, Heap.cell, Heap.write, cellsOf, put, args0, partL, List.getD_cons_zero, List.getD_cons_succ, List.length_cons, List.length_nil, List.set_cons_zero, List.set_cons_succ, List.getElem?_cons_zero, List.getElem?_cons_succ, reduceIte, Nat.reduceEqDiff, Nat.reduceAdd, Nat.reduceMul, Nat.reduceLeDiff, Nat.zero_add, Nat.add_zero, Option.map_some, Int.reduceEq, Int.reduceLT, Int.reduceLE, Bool.false_eq_true, decide_true, decide_false, ge_iff_le, gt_iff_lt, set_get', new_next, hgA, hgB, Fn.cells, r2, r0, r1]; rfl) ?_)))
    show Wc T _ _ _
    refine Wc_cond true (by simp [ev, upd]) (fun _ => ?_) (fun h => by cases h)
    refine Wc_seq (Wc_ops (Wo_run (fun call => by simp only [List.drop_succ_cons, List.drop_zero, iops_nil, iops_op, iops_grd, iK_some, iG_true, iG_false, gval_bool, beq_true, beq_false, Bool.not_true, Bool.not_false, iop, ev, upd, dstUpd, binV, binI, unV, ptr, Heap.cell, Heap.write, cellsOf, put, args0, partL, List.getD_cons_zero, List.getD_cons_succ, List.length_cons, List.length_nil, List.set_cons_zero, List.set_cons_succ, List.getElem?_cons_zero, List.getElem?_cons_succ, reduceIte, Nat.reduceEqDiff, Nat.reduceAdd, Nat.reduceMul, Nat.reduceLeDiff, Nat.zero_add, Nat.add_zero, Option.map_some, Int.reduceEq, Int.reduceLT, Int.reduceLE, Bool.false_eq_true, decide_true, decide_false, ge_iff_le, gt_iff_lt, set_get']; rfl) ?_))
    refine Wc_ret (bad _ _ (.refl _) (by simp [upd, dstUpd]) (by simp [Fn.key, q2]))
  have r2 : (f.regs != g.regs) = false := by simpa using q2
  by_cases q3 : f.code.length = g.code.length
  case neg =>
    have r3 : ((f.code.length : Int) != (g.code.length : Int)) = true := by simp; omega
    refine Wc_seq (Wc_seq (Wc_ops (Wo_run (fun call => by simp only [List.drop_succ_cons, List.drop_zero, iops_nil, iops_op, iops_grd, iK_some, iG_true, iG_false, gval_bool, beq_true, beq_false, Bool.not_true, Bool.not_false, iop, ev, upd, dstUpd, binV, binI, unV, ptr, Heap.cell, Heap.write, cellsOf, put, args0, partL, List.getD_cons_zero, List.getD_cons_succ, List.length_cons, List.length_nil, List.set_cons_zero, List.set_cons_succ, List.getElem?_cons_zero, List.getElem?_cons_succ, reduceIte, Nat.reduceEqDiff, Nat.reduceAdd, Nat.reduceMul, Nat.reduceLeDiff, Nat.zero_add, Nat.add_zero, Option.map_some, Int.reduceEq, Int.reduceLT, Int.reduceLE, Bool.false_eq_true, decide_true, decide_false, ge_iff_le, gt_iff_lt, set_get', new_next, hgA, hgB, Fn.cells, hfc, hgc, r3, r0, r1, r2]; rfl) ?_)))
    show Wc T _ _ _
    refine Wc_cond true (by simp [ev, upd]) (fun _ => ?_) (fun h => by cases h)
    refine Wc_seq (Wc_ops (Wo_run (fun call => by simp only [List.drop_succ_cons, List.drop_zero, iops_nil, iops_op, iops_grd, iK_some, iG_true, iG_false, gval_bool, beq_true, beq_false, Bool.not_true, Bool.not_false, iop, ev, upd, dstUpd, binV, binI, unV, ptr, Heap.cell, Heap.write, cellsOf, put, args0, partL, List.getD_cons_zero, List.getD_cons_succ, List.length_cons, List.length_nil, List.set_cons_zero, List.set_cons_succ, List.getElem?_cons_zero, List.getElem?_cons_succ, reduceIte, Nat.reduceEqDiff, Nat.reduceAdd, Nat.reduceMul, Nat.reduceLeDiff, Nat.zero_add, Nat.add_zero, Option.map_some, Int.reduceEq, Int.reduceLT, Int.reduceLE, Bool.false_eq_true, decide_true, decide_false, ge_iff_le, gt_iff_lt, set_get']; rfl) ?_))
    refine Wc_ret (bad _ _ (.refl _) (by simp [upd, dstUpd]) ?_)
    intro e
    have := congrArg (fun k : FnK => k.code.length) e
    simp [Fn.key] at this
    exact q3 this
  have r3 : ((f.code.length : Int) != (g.code.length : Int)) = false := by simp; omega
  refine Wc_seq (Wc_seq (Wc_ops (Wo_run (fun call => by simp only [List.drop_succ_cons, List.drop_zero, iops_nil, iops_op, iops_grd, iK_some, iG_true, iG_false, gval_bool, beq_true, beq_false, Bool.not_true, Bool.not_false, iop, ev, upd, dstUpd, binV, binI, unV, ptr, Heap.cell, Heap.write, cellsOf, put, args0, partL, List.getD_cons_zero, List.getD_cons_succ, List.length_cons, List.length_nil, List.set_cons_zero, List.set_cons_succ, List.getElem?_cons_zero, List.getElem?_cons_succ, reduceIte, Nat.reduceEqDiff, Nat.reduceAdd, Nat.reduceMul, Nat.reduceLeDiff, Nat.zero_add, Nat.add_zero, Option.map_some, Int.reduceEq, Int.reduceLT, Int.reduceLE, Bool.false_eq_true, decide_true, decide_false, ge_iff_le, gt_iff_lt, set_get', new_next, hgA, hgB, Fn.cells, hfc, hgc, r3, r0, r1, r2]; rfl) ?_)))
  show Wc T _ _ _
  refine Wc_cond false (by simp [ev, upd]) (fun h => by cases h) (fun _ => Wc_skip ?_)
  show Wc T _ _ _
  refine Wc_seq (Wc_ops (Wo_run (fun call => by simp only [List.drop_succ_cons, List.drop_zero, iops_nil, iops_op, iops_grd, iK_some, iG_true, iG_false, gval_bool, beq_true, beq_false, Bool.not_true, Bool.not_false, iop, ev, upd, dstUpd, binV, binI, unV, ptr, Heap.cell, Heap.write, cellsOf, put, args0, partL, List.getD_cons_zero, List.getD_cons_succ, List.length_cons, List.length_nil, List.set_cons_zero, List.set_cons_succ, List.getElem?_cons_zero, List.getElem?_cons_succ, reduceIte, Nat.reduceEqDiff, Nat.reduceAdd, Nat.reduceMul, Nat.reduceLeDiff, Nat.zero_add, Nat.add_zero, Option.map_some, Int.reduceEq, Int.reduceLT, Int.reduceLE, Bool.false_eq_true, decide_true, decide_false, ge_iff_le, gt_iff_lt, set_get', hgA, Fn.cells, hfc]; rfl) ?_))
  show Wc T _ _ _
  refine Wc_block (ins19 h37 (f := f) (g := g) (b6 := hp.next) (b7 := hp.next + 1) hxin hyin hkpB (hs.2 f (List.mem_of_getElem? hxi)) q3.symm (by simp [upd, dstUpd, ptr]) (by simp [upd, dstUpd, ptr, new_next]) (by omega) (by omega) hgA hgB (by simp [upd, dstUpd]) (by simp [upd, dstUpd]) ?_ ?_)
  · intro hc e' hq hkq hfr
    show Wc T _ _ _
    have f35 : e' 35 = .int .i64 i := by rw [hfr 35 (by omega) (by omega) (by omega) (by omega) (by omega)]; simp only [upd, Nat.reduceEqDiff, reduceIte]; exact g35
    refine Wc_ops (Wo_run (fun call => by simp only [List.drop_succ_cons, List.drop_zero, iops_nil, iops_op, iops_grd, iK_some, iG_true, iG_false, gval_bool, beq_true, beq_false, Bool.not_true, Bool.not_false, iop, ev, upd, dstUpd, binV, binI, unV, ptr, Heap.cell, Heap.write, cellsOf, put, args0, partL, List.getD_cons_zero, List.getD_cons_succ, List.length_cons, List.length_nil, List.set_cons_zero, List.set_cons_succ, List.getElem?_cons_zero, List.getElem?_cons_succ, reduceIte, Nat.reduceEqDiff, Nat.reduceAdd, Nat.reduceMul, Nat.reduceLeDiff, Nat.zero_add, Nat.add_zero, Option.map_some, Int.reduceEq, Int.reduceLT, Int.reduceLE, Bool.false_eq_true, decide_true, decide_false, ge_iff_le, gt_iff_lt, set_get', f35, e1']; rfl) ?_)
    refine ⟨⟨rfl, hkB.trans hkq, ?_, ?_, ?_, i + 1, by omega, ?_, ?_⟩, ?_⟩
    · simp only [upd, Nat.reduceEqDiff, reduceIte]; rw [hfr 2 (by omega) (by omega) (by omega) (by omega) (by omega)]; simp only [upd, Nat.reduceEqDiff, reduceIte]; exact g2
    · simp only [upd, Nat.reduceEqDiff, reduceIte]; rw [hfr 3 (by omega) (by omega) (by omega) (by omega) (by omega)]; simp only [upd, Nat.reduceEqDiff, reduceIte]; exact g3
    · simp only [upd, Nat.reduceEqDiff, reduceIte]; rw [hfr 34 (by omega) (by omega) (by omega) (by omega) (by omega)]; simp only [upd, Nat.reduceEqDiff, reduceIte]; exact g34
    · simp only [upd, Nat.reduceEqDiff, reduceIte]
    · rw [List.map_take, List.map_take] at ht ⊢
      exact take_eq_succ ht (x := f.key) (by simp [hxi]) (by simp [hyi, Fn.key, q0, q1, q2, hc])
    · simp only [upd, Nat.reduceEqDiff, reduceIte, g35]; omega
  · intro hc e' hq hkq h4
    exact bad e' hq hkq h4 (fun e => hc (congrArg FnK.code e))

end Go.Idl
