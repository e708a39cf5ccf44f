/- few; IrSame at the ideal level. -/
import Derived.Test.YtfdpknfndjllgaaM3
import Derived.Test.YtfdpknfndjllgaaK4
import Derived.Test.YtfdpknfndjllgaaI18
namespace Go.Idl
set_option linter.unusedVariables false
set_option linter.unusedSimpArgs false
set_option maxRecDepth 100000
open Go.Proofs

def insSize (l : List Ins) : Nat := (l.map fun x => x.l.length).sum
def fnSize (f : Fn) : Nat := 1 + f.code.length + f.name.size / 10 + insSize f.code
def fnsSize (l : List Fn) : Nat := (l.map fnSize).sum
def Cod.size (c : Cod) : Nat := fnsSize c.funcs

theorem insSize_take {l : List Ins} {i : Nat} {x : Ins} (h : l[i]? = some x) : insSize (l.take (i + 1)) = insSize (l.take i) + x.l.length := by
  unfold insSize
  rw [List.take_add_one, h]; simp
theorem insSize_le (l : List Ins) (i : Nat) : insSize (l.take i) ≤ insSize l := by
  have : insSize l = insSize (l.take i) + insSize (l.drop i) := by
    unfold insSize
    rw [← List.sum_append, ← List.map_append, List.take_append_drop]
  omega
theorem fnsSize_take {l : List Fn} {i : Nat} {x : Fn} (h : l[i]? = some x) : fnsSize (l.take (i + 1)) = fnsSize (l.take i) + fnSize x := by
  unfold fnsSize
  rw [List.take_add_one, h]; simp
theorem fnsSize_le (l : List Fn) (i : Nat) : fnsSize (l.take i) ≤ fnsSize l := by
  have : fnsSize l = fnsSize (l.take i) + fnsSize (l.drop i) := by
    unfold fnsSize
    rw [← List.sum_append, ← List.map_append, List.take_append_drop]
  omega

theorem size_ins {T : Tbl} {h0 hp0 : Heap} {cv : Value} {l : List Ins} {e : Env} {s : Nat} {Q : Ex → St → Prop} (hr : rowsAt Ins.cells insIn h0 cv l) (hk0 : Kept h0 hp0) (hb : s + insSize l < 4611686018427387904) (hl : l.length < 4611686018427387904)
    (g27 : e 27 = cv) (g28 : e 28 = .int .i64 l.length) (g29 : e 29 = .int .i64 0) (g3 : e 3 = .int .i64 s)
    (hQ : ∀ (e' : Env) (hp : Heap), Kept hp0 hp → e' 3 = .int .i64 ((s + insSize l : Nat) : Int) → (∀ t, t < 27 → t ≠ 3 → t ≠ 7 → e' t = e t) → Q (.brk 2) ⟨e', hp, some []⟩) : Wc T (.loop C20L0) ⟨e, hp0, some []⟩ Q := by
  refine Wc_loop (fun st => st.d = some [] ∧ Kept hp0 st.h ∧ st.e 27 = cv ∧ st.e 28 = .int .i64 l.length ∧ (∀ t, t < 27 → t ≠ 3 → t ≠ 7 → st.e t = e t) ∧ ∃ i : Nat, i ≤ l.length ∧ st.e 29 = .int .i64 i ∧ st.e 3 = .int .i64 ((s + insSize (l.take i) : Nat) : Int))
    (fun st => match st.e 29 with | .int _ i => (l.length - i).toNat | _ => 0) ?_ ?_
  · exact ⟨rfl, .refl _, g27, g28, fun _ _ _ _ => rfl, 0, Nat.zero_le _, g29, by simp [insSize, g3]⟩
  rintro ⟨e1, hp, d⟩ ⟨hd, hk, k27, k28, hfr, i, hi, k29, k3⟩
  simp only at hd hk k27 k28 hfr k29 k3
  subst hd
  rw [C20L0]
  refine Wc_seq (Wc_ops (Wo_run (fun call => by simp only [List.drop_succ_cons, List.drop_zero, iops_nil, iops_op, iops_grd, iK_some, iG_true, iG_false, gval_bool, beq_true, beq_false, Bool.not_true, Bool.not_false, iop, ev, upd, dstUpd, binV, binI, unV, ptr, Heap.cell, Heap.write, cellsOf, put, args0, partL, List.getD_cons_zero, List.getD_cons_succ, List.length_cons, List.length_nil, List.set_cons_zero, List.set_cons_succ, List.getElem?_cons_zero, List.getElem?_cons_succ, reduceIte, Nat.reduceEqDiff, Nat.reduceAdd, Nat.reduceMul, Nat.reduceLeDiff, Nat.zero_add, Nat.add_zero, Option.map_some, Int.reduceEq, Int.reduceLT, Int.reduceLE, Bool.false_eq_true, decide_true, decide_false, ge_iff_le, gt_iff_lt, set_get', k28, k29]; rfl) ?_))
  show Wc T _ _ _
  refine Wc_seq (Wc_cond (decide ((i : Int) < l.length)) (by simp [ev, upd]) (fun hlt => Wc_skip ?_) (fun hge => Wc_exit ?_))
  case refine_2 =>
    have : i = l.length := by simp at hge; omega
    subst this
    rw [List.take_length] at k3
    exact hQ _ _ hk (by simp [upd, k3]) (fun t h1 h2 h3 => by simp only [upd]; rw [if_neg (by omega)]; exact hfr t h1 h2 h3)
  show Wc T _ _ _
  have hil : i < l.length := by simpa using hlt
  obtain ⟨x, hxi⟩ : ∃ x, l[i]? = some x := ⟨_, List.getElem?_eq_getElem hil⟩
  obtain ⟨bx, cx, hva, hbx, _, hcx, hxin⟩ := (rowsAt.keep (inner := insIn) insIn_keep (hk0.trans hk) hr).load insCells_len hxi
  obtain ⟨al, cl, hlv⟩ := hxin.ints.len
  have hst := insSize_take hxi
  have hsl := insSize_le l (i + 1)
  have e1' : IntKind.i64.wrap ((i : Int) + 1) = ((i + 1 : Nat) : Int) := by rw [wrap64] <;> omega
  have e2' : IntKind.i64.wrap (((s + insSize (l.take i) : Nat) : Int) + (x.l.length : Int)) = ((s + insSize (l.take (i + 1)) : Nat) : Int) := by rw [wrap64] <;> omega
  refine Wc_seq (Wc_block (Wc_seq (Wc_ops ?_)))
  refine Wo_op (iop_iaddr (b := bx) (len := l.length) (c := cx) (i := i) (by simp only [upd, dstUpd, reduceIte, Nat.reduceEqDiff, k27]; exact hva) (by simp only [upd, dstUpd, reduceIte, Nat.reduceEqDiff, k29]) hil) (Wo_op (iop_load (b := bx) (o := i * 6) (cs := x.cells) (by simp only [upd, dstUpd, reduceIte, Nat.reduceEqDiff]) hcx) (Wo_op rfl (Wo_op (iop_store (b := hp.next) (esz := 0) (cs := x.cells) (z := [(.int .i64 0), (.int .i64 0), (.int .i64 0), (.int .i64 0), (.int .i64 0), (.slice none 0 0)]) (by simp only [upd, dstUpd, reduceIte, Nat.reduceEqDiff]) (by simp only [upd, dstUpd, reduceIte, Nat.reduceEqDiff]) rfl (new_get' _ _) rfl) (Wo_nil ?_))))
  show Wc T _ _ _
  have hkA : Kept hp ((hp.new (.cells [(.int .i64 0), (.int .i64 0), (.int .i64 0), (.int .i64 0), (.int .i64 0), (.slice none 0 0)] true 0)).set hp.next (.cells x.cells true 0)) := ((Kept.refl hp).new _).set (Nat.le_refl _) _
  have hgA : ((hp.new (.cells [(.int .i64 0), (.int .i64 0), (.int .i64 0), (.int .i64 0), (.int .i64 0), (.slice none 0 0)] true 0)).set hp.next (.cells x.cells true 0)).get hp.next = some (.cells x.cells true 0) := set_get' _ _ _
  generalize (hp.new (.cells [(.int .i64 0), (.int .i64 0), (.int .i64 0), (.int .i64 0), (.int .i64 0), (.slice none 0 0)] true 0)).set hp.next (.cells x.cells true 0) = hpA at hkA hgA ⊢
  refine Wc_ops (Wo_run (fun call => by simp only [List.drop_succ_cons, List.drop_zero, iops_nil, iops_op, iops_grd, iK_some, iG_true, iG_false, gval_bool, beq_true, beq_false, Bool.not_true, Bool.not_false, iop, ev, upd, dstUpd, binV, binI, unV, ptr, Heap.cell, Heap.write, cellsOf, put, args0, partL, List.getD_cons_zero, List.getD_cons_succ, List.length_cons, List.length_nil, List.set_cons_zero, List.set_cons_succ, List.getElem?_cons_zero, List.getElem?_cons_succ, reduceIte, Nat.reduceEqDiff, Nat.reduceAdd, Nat.reduceMul, Nat.reduceLeDiff, Nat.zero_add, Nat.add_zero, Option.map_some, Int.reduceEq, Int.reduceLT, Int.reduceLE, Bool.false_eq_true, decide_true, decide_false, ge_iff_le, gt_iff_lt, set_get', k3, hgA, Ins.cells, hlv, e2']; rfl) ?_)
  show Wc T _ _ _
  refine Wc_ops (Wo_run (fun call => by simp only [List.drop_succ_cons, List.drop_zero, iops_nil, iops_op, iops_grd, iK_some, iG_true, iG_false, gval_bool, beq_true, beq_false, Bool.not_true, Bool.not_false, iop, ev, upd, dstUpd, binV, binI, unV, ptr, Heap.cell, Heap.write, cellsOf, put, args0, partL, List.getD_cons_zero, List.getD_cons_succ, List.length_cons, List.length_nil, List.set_cons_zero, List.set_cons_succ, List.getElem?_cons_zero, List.getElem?_cons_succ, reduceIte, Nat.reduceEqDiff, Nat.reduceAdd, Nat.reduceMul, Nat.reduceLeDiff, Nat.zero_add, Nat.add_zero, Option.map_some, Int.reduceEq, Int.reduceLT, Int.reduceLE, Bool.false_eq_true, decide_true, decide_false, ge_iff_le, gt_iff_lt, set_get', k29, e1']; rfl) ?_)
  refine ⟨⟨rfl, hk.trans hkA, by simp [upd, dstUpd, k27], by simp [upd, dstUpd, k28], fun t h1 h2 h3 => ?_, i + 1, by omega, by simp [upd, dstUpd], by simp [upd, dstUpd]⟩, ?_⟩
  · simp only [upd, dstUpd]
    repeat rw [if_neg (by omega)]
    exact hfr t h1 h2 h3
  · simp only [upd, dstUpd, Nat.reduceEqDiff, reduceIte, k29]; omega

theorem size20 {T : Tbl} (hT : T.fn 20 = some C20) (x : Cod) (h : Heap) (hx : x.Ok h) (hs : x.small) (hb : x.size < 4611686018427387904) : Wk T (.fn 20) [.agg x.cells.toArray] h (fun o h' => Kept h h' ∧ o = .ret (.int .i64 (x.size : Int))) := by
  refine Wk_fn hT (by simp [C20]) ?_
  simp only [C20]
  have hbx : iop (.box (.t 0)) (args0 [.agg x.cells.toArray]) h = some (ptr h.next 0, h.new (.cells x.cells true 0)) := by simp [iop, ev, args0, cellsOf]
  refine Wc_seq (Wc_ops (Wo_op hbx (Wo_run (fun call => by simp only [List.drop_succ_cons, List.drop_zero, iops_nil, iops_op, iops_grd, iK_some, iG_true, iG_false, gval_bool, beq_true, beq_false, Bool.not_true, Bool.not_false, iop, ev, upd, dstUpd, binV, binI, unV, ptr, Heap.cell, Heap.write, cellsOf, put, args0, partL, List.getD_cons_zero, List.getD_cons_succ, List.length_cons, List.length_nil, List.set_cons_zero, List.set_cons_succ, List.getElem?_cons_zero, List.getElem?_cons_succ, reduceIte, Nat.reduceEqDiff, Nat.reduceAdd, Nat.reduceMul, Nat.reduceLeDiff, Nat.zero_add, Nat.add_zero, Option.map_some, Int.reduceEq, Int.reduceLT, Int.reduceLE, Bool.false_eq_true, decide_true, decide_false, ge_iff_le, gt_iff_lt, set_get']; rfl) ?_)))
  show Wc T _ _ _
  have hg : (h.new (.cells x.cells true 0)).get h.next = some (.cells x.cells true 0) := new_get' _ _
  have hk : Kept h (h.new (.cells x.cells true 0)) := (Kept.refl h).new _
  generalize h.new (.cells x.cells true 0) = h1 at hg hk ⊢
  obtain ⟨pa, ca, hfx⟩ := hx.funcs.len
  refine Wc_seq (Wc_ops (Wo_run (fun call => by simp only [List.drop_succ_cons, List.drop_zero, iops_nil, iops_op, iops_grd, iK_some, iG_true, iG_false, gval_bool, beq_true, beq_false, Bool.not_true, Bool.not_false, iop, ev, upd, dstUpd, binV, binI, unV, ptr, Heap.cell, Heap.write, cellsOf, put, args0, partL, List.getD_cons_zero, List.getD_cons_succ, List.length_cons, List.length_nil, List.set_cons_zero, List.set_cons_succ, List.getElem?_cons_zero, List.getElem?_cons_succ, reduceIte, Nat.reduceEqDiff, Nat.reduceAdd, Nat.reduceMul, Nat.reduceLeDiff, Nat.zero_add, Nat.add_zero, Option.map_some, Int.reduceEq, Int.reduceLT, Int.reduceLE, Bool.false_eq_true, decide_true, decide_false, ge_iff_le, gt_iff_lt, set_get']; rfl) ?_))
  show Wc T _ _ _
  refine Wc_seq (Wc_seq (Wc_ops (Wo_run (fun call => by simp only [List.drop_succ_cons, List.drop_zero, iops_nil, iops_op, iops_grd, iK_some, iG_true, iG_false, gval_bool, beq_true, beq_false, Bool.not_true, Bool.not_false, iop, ev, upd, dstUpd, binV, binI, unV, ptr, Heap.cell, Heap.write, cellsOf, put, args0, partL, List.getD_cons_zero, List.getD_cons_succ, List.length_cons, List.length_nil, List.set_cons_zero, List.set_cons_succ, List.getElem?_cons_zero, List.getElem?_cons_succ, reduceIte, Nat.reduceEqDiff, Nat.reduceAdd, Nat.reduceMul, Nat.reduceLeDiff, Nat.zero_add, Nat.add_zero, Option.map_some, Int.reduceEq, Int.reduceLT, Int.reduceLE, Bool.false_eq_true, decide_true, decide_false, ge_iff_le, gt_iff_lt, set_get', hg, Cod.cells, hfx]; rfl) ?_)))
  show Wc T _ _ _
  refine Wc_block (Wc_loop (fun s => s.d = some [] ∧ Kept h1 s.h ∧ s.e 9 = x.fv ∧ s.e 10 = .int .i64 x.funcs.length ∧ ∃ i : Nat, i ≤ x.funcs.length ∧ s.e 11 = .int .i64 i ∧ s.e 3 = .int .i64 (fnsSize (x.funcs.take i) : Int))
    (fun s => match s.e 11 with | .int _ i => (x.funcs.length - i).toNat | _ => 0) ?_ ?_)
  · exact ⟨rfl, .refl _, by simp [upd, dstUpd, hfx], by simp [upd, dstUpd], 0, Nat.zero_le _, by simp [upd, dstUpd], by simp [upd, dstUpd, fnsSize]⟩
  rintro ⟨e, hp, d⟩ ⟨hd, hkp, g9, g10, i, hi, g11, g3⟩
  simp only at hd hkp g9 g10 g11 g3
  subst hd
  rw [C20L1]
  refine Wc_seq (Wc_ops (Wo_run (fun call => by simp only [List.drop_succ_cons, List.drop_zero, iops_nil, iops_op, iops_grd, iK_some, iG_true, iG_false, gval_bool, beq_true, beq_false, Bool.not_true, Bool.not_false, iop, ev, upd, dstUpd, binV, binI, unV, ptr, Heap.cell, Heap.write, cellsOf, put, args0, partL, List.getD_cons_zero, List.getD_cons_succ, List.length_cons, List.length_nil, List.set_cons_zero, List.set_cons_succ, List.getElem?_cons_zero, List.getElem?_cons_succ, reduceIte, Nat.reduceEqDiff, Nat.reduceAdd, Nat.reduceMul, Nat.reduceLeDiff, Nat.zero_add, Nat.add_zero, Option.map_some, Int.reduceEq, Int.reduceLT, Int.reduceLE, Bool.false_eq_true, decide_true, decide_false, ge_iff_le, gt_iff_lt, set_get', g10, g11]; rfl) ?_))
  show Wc T _ _ _
  refine Wc_seq (Wc_cond (decide ((i : Int) < x.funcs.length)) (by simp [ev, upd]) (fun hlt => Wc_skip ?_) (fun hge => Wc_exit ?_))
  case refine_2 =>
    show Wc T _ _ _
    have : i = x.funcs.length := by simp at hge; omega
    subst this
    rw [List.take_length] at g3
    refine Wc_seq (Wc_ops (Wo_run (fun call => by simp only [List.drop_succ_cons, List.drop_zero, iops_nil, iops_op, iops_grd, iK_some, iG_true, iG_false, gval_bool, beq_true, beq_false, Bool.not_true, Bool.not_false, iop, ev, upd, dstUpd, binV, binI, unV, ptr, Heap.cell, Heap.write, cellsOf, put, args0, partL, List.getD_cons_zero, List.getD_cons_succ, List.length_cons, List.length_nil, List.set_cons_zero, List.set_cons_succ, List.getElem?_cons_zero, List.getElem?_cons_succ, reduceIte, Nat.reduceEqDiff, Nat.reduceAdd, Nat.reduceMul, Nat.reduceLeDiff, Nat.zero_add, Nat.add_zero, Option.map_some, Int.reduceEq, Int.reduceLT, Int.reduceLE, Bool.false_eq_true, decide_true, decide_false, ge_iff_le, gt_iff_lt, set_get', g3]; rfl) ?_))
    exact Wc_ret ⟨.inr rfl, rfl, [.int .i64 x.size], by simp [resAll, resV, upd, dstUpd, Cod.size], hk.trans hkp, rfl⟩
  show Wc T _ _ _
  have hil : i < x.funcs.length := by simpa using hlt
  obtain ⟨f, hxi⟩ : ∃ f, x.funcs[i]? = some f := ⟨_, List.getElem?_eq_getElem hil⟩
  obtain ⟨bx, cx, hva, hbx', _, hcx, hxin⟩ := ((hx.keep (hk.trans hkp)).funcs).load fnCells_len hxi
  obtain ⟨qa, ra, hfc⟩ := hxin.code.len
  have hst := fnsSize_take hxi
  have hsl := fnsSize_le x.funcs (i + 1)
  have hsm := (hs.2 f (List.mem_of_getElem? hxi)).1
  have hs1 := hs.1
  unfold Idl.small at hsm hs1
  unfold Cod.size at hb
  unfold fnSize at hst
  have e1' : IntKind.i64.wrap ((i : Int) + 1) = ((i + 1 : Nat) : Int) := by rw [wrap64] <;> omega
  have w1 : IntKind.i64.wrap (1 + (f.code.length : Int)) = ((1 + f.code.length : Nat) : Int) := by rw [wrap64] <;> omega
  have w2 : IntKind.i64.wrap ((f.name.size : Int).tdiv 10) = ((f.name.size / 10 : Nat) : Int) := by
    have : (f.name.size : Int).tdiv 10 = ((f.name.size / 10 : Nat) : Int) := by rw [Int.tdiv_eq_ediv_of_nonneg (by omega)]; rfl
    have hnm := hxin.name
    unfold maxLen at hnm
    rw [this, wrap64] <;> omega
  have w3 : IntKind.i64.wrap (((1 + f.code.length : Nat) : Int) + ((f.name.size / 10 : Nat) : Int)) = ((1 + f.code.length + f.name.size / 10 : Nat) : Int) := by rw [wrap64] <;> omega
  have w4 : IntKind.i64.wrap ((fnsSize (x.funcs.take i) : Int) + ((1 + f.code.length + f.name.size / 10 : Nat) : Int)) = ((fnsSize (x.funcs.take i) + (1 + f.code.length + f.name.size / 10) : Nat) : Int) := by rw [wrap64] <;> omega
  refine Wc_seq (Wc_block (Wc_seq (Wc_ops ?_)))
  refine Wo_op (iop_iaddr (b := bx) (len := x.funcs.length) (c := cx) (i := i) (by simp only [upd, dstUpd, reduceIte, Nat.reduceEqDiff, g9]; exact hva) (by simp only [upd, dstUpd, reduceIte, Nat.reduceEqDiff, g11]) hil) (Wo_op (iop_load (b := bx) (o := i * 4) (cs := f.cells) (by simp only [upd, dstUpd, reduceIte, Nat.reduceEqDiff]) hcx) (Wo_op rfl (Wo_op (iop_store (b := hp.next) (esz := 0) (cs := f.cells) (z := [(.string ⟨#[]⟩), (.int .i64 0), (.int .i64 0), (.slice none 0 0)]) (by simp only [upd, dstUpd, reduceIte, Nat.reduceEqDiff]) (by simp only [upd, dstUpd, reduceIte, Nat.reduceEqDiff]) rfl (new_get' _ _) rfl) (Wo_nil ?_))))
  show Wc T _ _ _
  have hkA : Kept hp ((hp.new (.cells [(.string ⟨#[]⟩), (.int .i64 0), (.int .i64 0), (.slice none 0 0)] true 0)).set hp.next (.cells f.cells true 0)) := ((Kept.refl hp).new _).set (Nat.le_refl _) _
  have hgA : ((hp.new (.cells [(.string ⟨#[]⟩), (.int .i64 0), (.int .i64 0), (.slice none 0 0)] true 0)).set hp.next (.cells f.cells true 0)).get hp.next = some (.cells f.cells true 0) := set_get' _ _ _
  generalize (hp.new (.cells [(.string ⟨#[]⟩), (.int .i64 0), (.int .i64 0), (.slice none 0 0)] true 0)).set hp.next (.cells f.cells true 0) = hpA at hkA hgA ⊢
  refine Wc_seq (Wc_ops (Wo_run (fun call => by simp only [List.drop_succ_cons, List.drop_zero, iops_nil, iops_op, iops_grd, iK_some, iG_true, iG_false, gval_bool, beq_true, beq_false, Bool.not_true, Bool.not_false, iop, ev, upd, dstUpd, binV, binI, unV, ptr, Heap.cell, Heap.write, cellsOf, put, args0, partL, List.getD_cons_zero, List.getD_cons_succ, List.length_cons, List.length_nil, List.set_cons_zero, List.set_cons_succ, List.getElem?_cons_zero, List.getElem?_cons_succ, reduceIte, Nat.reduceEqDiff, Nat.reduceAdd, Nat.reduceMul, Nat.reduceLeDiff, Nat.zero_add, Nat.add_zero, Option.map_some, Int.reduceEq, Int.reduceLT, Int.reduceLE, Bool.false_eq_true, decide_true, decide_false, ge_iff_le, gt_iff_lt, set_get', g3, hgA, Fn.cells, hfc, w1, w2, w3, w4]; rfl) ?_))
  show Wc T _ _ _
  refine Wc_seq (Wc_ops (Wo_run (fun call => by simp only [List.drop_succ_cons, List.drop_zero, iops_nil, iops_op, iops_grd, iK_some, iG_true, iG_false, gval_bool, beq_true, beq_false, Bool.not_true, Bool.not_false, iop, ev, upd, dstUpd, binV, binI, unV, ptr, Heap.cell, Heap.write, cellsOf, put, args0, partL, List.getD_cons_zero, List.getD_cons_succ, List.length_cons, List.length_nil, List.set_cons_zero, List.set_cons_succ, List.getElem?_cons_zero, List.getElem?_cons_succ, reduceIte, Nat.reduceEqDiff, Nat.reduceAdd, Nat.reduceMul, Nat.reduceLeDiff, Nat.zero_add, Nat.add_zero, Option.map_some, Int.reduceEq, Int.reduceLT, Int.reduceLE, Bool.false_eq_true, decide_true, decide_false, ge_iff_le, gt_iff_lt, set_get', hgA, Fn.cells, hfc]; rfl) ?_))
  show Wc T _ _ _
  refine Wc_block (size_ins (hxin.code) hkA (s := fnsSize (x.funcs.take i) + (1 + f.code.length + f.name.size / 10)) (by omega) hsm (by simp [upd, dstUpd, hfc]) (by simp [upd, dstUpd]) (by simp [upd, dstUpd]) (by simp [upd, dstUpd]) ?_)
  intro e' hq hkq k3 hfr
  show Wc T _ _ _
  have f11 : e' 11 = .int .i64 i := by rw [hfr 11 (by omega) (by omega) (by omega)]; simp only [upd, dstUpd, Nat.reduceEqDiff, reduceIte]; exact g11
  refine Wc_ops (Wo_run (fun call => by simp only [List.drop_succ_cons, List.drop_zero, iops_nil, iops_op, iops_grd, iK_some, iG_true, iG_false, gval_bool, beq_true, beq_false, Bool.not_true, Bool.not_false, iop, ev, upd, dstUpd, binV, binI, unV, ptr, Heap.cell, Heap.write, cellsOf, put, args0, partL, List.getD_cons_zero, List.getD_cons_succ, List.length_cons, List.length_nil, List.set_cons_zero, List.set_cons_succ, List.getElem?_cons_zero, List.getElem?_cons_succ, reduceIte, Nat.reduceEqDiff, Nat.reduceAdd, Nat.reduceMul, Nat.reduceLeDiff, Nat.zero_add, Nat.add_zero, Option.map_some, Int.reduceEq, Int.reduceLT, Int.reduceLE, Bool.false_eq_true, decide_true, decide_false, ge_iff_le, gt_iff_lt, set_get', f11, e1']; rfl) ?_)
  refine ⟨⟨rfl, (hkp.trans hkA).trans hkq, ?_, ?_, i + 1, by omega, ?_, ?_⟩, ?_⟩
  · simp only [upd, dstUpd, Nat.reduceEqDiff, reduceIte]; rw [hfr 9 (by omega) (by omega) (by omega)]; simp only [upd, dstUpd, Nat.reduceEqDiff, reduceIte]; exact g9
  · simp only [upd, dstUpd, Nat.reduceEqDiff, reduceIte]; rw [hfr 10 (by omega) (by omega) (by omega)]; simp only [upd, dstUpd, Nat.reduceEqDiff, reduceIte]; exact g10
  · simp only [upd, dstUpd, Nat.reduceEqDiff, reduceIte]
  · simp only [upd, dstUpd, Nat.reduceEqDiff, reduceIte, k3]
    rw [hst]
    congr 1; omega
  · simp only [upd, dstUpd, Nat.reduceEqDiff, reduceIte, g11]; omega

theorem few8 {T : Tbl} (hT : T.fn 8 = some C8) (h20 : T.fn 20 = some C20) (x : Cod) (h : Heap) (hx : x.Ok h) (hs : x.small) (hb : x.size < 4611686018427387904) : Wk T (.fn 8) [.agg x.cells.toArray] h (fun o h' => Kept h h' ∧ o = .ret (.bool (decide (x.size ≤ 2000)))) := by
  refine Wk_fn hT (by simp [C8]) ?_
  simp only [C8]
  have hbx : iop (.box (.t 0)) (args0 [.agg x.cells.toArray]) h = some (ptr h.next 0, h.new (.cells x.cells true 0)) := by simp [iop, ev, args0, cellsOf]
  refine Wc_seq (Wc_ops (Wo_op hbx (Wo_run (fun call => by simp only [List.drop_succ_cons, List.drop_zero, iops_nil, iops_op, iops_grd, iK_some, iG_true, iG_false, gval_bool, beq_true, beq_false, Bool.not_true, Bool.not_false, iop, ev, upd, dstUpd, binV, binI, unV, ptr, Heap.cell, Heap.write, cellsOf, put, args0, partL, List.getD_cons_zero, List.getD_cons_succ, List.length_cons, List.length_nil, List.set_cons_zero, List.set_cons_succ, List.getElem?_cons_zero, List.getElem?_cons_succ, reduceIte, Nat.reduceEqDiff, Nat.reduceAdd, Nat.reduceMul, Nat.reduceLeDiff, Nat.zero_add, Nat.add_zero, Option.map_some, Int.reduceEq, Int.reduceLT, Int.reduceLE, Bool.false_eq_true, decide_true, decide_false, ge_iff_le, gt_iff_lt, set_get']; rfl) ?_)))
  show Wc T _ _ _
  have hg : (h.new (.cells x.cells true 0)).get h.next = some (.cells x.cells true 0) := new_get' _ _
  have hk : Kept h (h.new (.cells x.cells true 0)) := (Kept.refl h).new _
  generalize h.new (.cells x.cells true 0) = h1 at hg hk ⊢
  refine Wc_seq (Wc_ops (Wo_op (iop_load (b := h.next) (o := 0) (cs := x.cells) (by simp only [upd, dstUpd, reduceIte, Nat.reduceEqDiff, ptr]) (cells_all hg rfl)) (Wo_call ?_)))
  show Wk T (.fn 20) [.agg x.cells.toArray] h1 _
  refine (size20 h20 x h1 (hx.keep hk) hs hb).mono fun o h2 ⟨hk2, ho2⟩ => ?_
  subst ho2
  show Wo T _ _ _
  have hd : decide ((x.size : Int) ≤ 2000) = decide (x.size ≤ 2000) := by rw [decide_eq_decide]; omega
  refine (Wo_run (fun call => by simp only [List.drop_succ_cons, List.drop_zero, iops_nil, iops_op, iops_grd, iK_some, iG_true, iG_false, gval_bool, beq_true, beq_false, Bool.not_true, Bool.not_false, iop, ev, upd, dstUpd, binV, binI, unV, ptr, Heap.cell, Heap.write, cellsOf, put, args0, partL, List.getD_cons_zero, List.getD_cons_succ, List.length_cons, List.length_nil, List.set_cons_zero, List.set_cons_succ, List.getElem?_cons_zero, List.getElem?_cons_succ, reduceIte, Nat.reduceEqDiff, Nat.reduceAdd, Nat.reduceMul, Nat.reduceLeDiff, Nat.zero_add, Nat.add_zero, Option.map_some, Int.reduceEq, Int.reduceLT, Int.reduceLE, Bool.false_eq_true, decide_true, decide_false, ge_iff_le, gt_iff_lt, set_get', hd]; rfl) ?_)
  exact Wc_ret ⟨.inr rfl, rfl, [.bool (decide (x.size ≤ 2000))], by simp [resAll, resV, upd, dstUpd], hk.trans hk2, rfl⟩

theorem T1_6 : T1.fn 6 = some C6 := by
  have h : cfn Try.prog Try.f6 = some C6 := by kernel_rfl
  simp only [T1, T0, Tb0, setPrim, Try.func6, Option.bind_some, h]; rfl
theorem T1_8 : T1.fn 8 = some C8 := by
  have h : cfn Try.prog Try.f8 = some C8 := by kernel_rfl
  simp only [T1, T0, Tb0, setPrim, Try.func8, Option.bind_some, h]; rfl
theorem T1_18 : T1.fn 18 = some C18 := by
  have h : cfn Try.prog Try.f18 = some C18 := by kernel_rfl
  simp only [T1, T0, Tb0, setPrim, Try.func18, Option.bind_some, h]; rfl
theorem T1_19 : T1.fn 19 = some C19 := by
  have h : cfn Try.prog Try.f19 = some C19 := by kernel_rfl
  simp only [T1, T0, Tb0, setPrim, Try.func19, Option.bind_some, h]; rfl
theorem T1_20 : T1.fn 20 = some C20 := by
  have h : cfn Try.prog Try.f20 = some C20 := by kernel_rfl
  simp only [T1, T0, Tb0, setPrim, Try.func20, Option.bind_some, h]; rfl
theorem T1_32 : T1.fn 32 = some C32 := by
  have h : cfn Try.prog Try.f32 = some C32 := by kernel_rfl
  simp only [T1, T0, Tb0, setPrim, Try.func32, Option.bind_some, h]; rfl
theorem T1_33 : T1.fn 33 = some C33 := by
  have h : cfn Try.prog Try.f33 = some C33 := by kernel_rfl
  simp only [T1, T0, Tb0, setPrim, Try.func33, Option.bind_some, h]; rfl
theorem T1_34 : T1.fn 34 = some C34 := by
  have h : cfn Try.prog Try.f34 = some C34 := by kernel_rfl
  simp only [T1, T0, Tb0, setPrim, Try.func34, Option.bind_some, h]; rfl
theorem T1_35 : T1.fn 35 = some C35 := by
  have h : cfn Try.prog Try.f35 = some C35 := by kernel_rfl
  simp only [T1, T0, Tb0, setPrim, Try.func35, Option.bind_some, h]; rfl
theorem T1_36 : T1.fn 36 = some C36 := by
  have h : cfn Try.prog Try.f36 = some C36 := by kernel_rfl
  simp only [T1, T0, Tb0, setPrim, Try.func36, Option.bind_some, h]; rfl
theorem T1_37 : T1.fn 37 = some C37 := by
  have h : cfn Try.prog Try.f37 = some C37 := by kernel_rfl
  simp only [T1, T0, Tb0, setPrim, Try.func37, Option.bind_some, h]; rfl

theorem law6 {x y : Cod} {h : Heap} (hx : x.Ok h) (hy : y.Ok h) (hsx : x.small) (hsy : y.small) (hbx : x.size < 4611686018427387904) (hby : y.size < 4611686018427387904) : Wk T1 (.fn 6) [.agg x.cells.toArray, .agg y.cells.toArray] h (fun o h' => o = .ret (.bool true)) := by
  refine Wk_fn T1_6 (by simp [C6]) ?_
  simp only [C6]
  have hb : iop (.box (.t 0)) (args0 [.agg x.cells.toArray, .agg y.cells.toArray]) h = some (ptr h.next 0, h.new (.cells x.cells true 0)) := by simp [iop, ev, args0, cellsOf]
  have hb2 : iop (.box (.t 1)) (dstUpd (args0 [.agg x.cells.toArray, .agg y.cells.toArray]) (some 2) (ptr h.next 0)) (h.new (.cells x.cells true 0)) = some (ptr (h.next + 1) 0, (h.new (.cells x.cells true 0)).new (.cells y.cells true 0)) := by simp [iop, ev, args0, cellsOf, dstUpd, upd, new_next]
  refine Wc_seq (Wc_ops (Wo_op hb (Wo_op hb2 (Wo_run (fun call => by simp only [List.drop_succ_cons, List.drop_zero, iops_nil, iops_op, iops_grd, iK_some, iG_true, iG_false, gval_bool, beq_true, beq_false, Bool.not_true, Bool.not_false, iop, ev, upd, dstUpd, binV, binI, unV, ptr, Heap.cell, Heap.write, cellsOf, put, args0, partL, List.getD_cons_zero, List.getD_cons_succ, List.length_cons, List.length_nil, List.set_cons_zero, List.set_cons_succ, List.getElem?_cons_zero, List.getElem?_cons_succ, reduceIte, Nat.reduceEqDiff, Nat.reduceAdd, Nat.reduceMul, Nat.reduceLeDiff, Nat.zero_add, Nat.add_zero, Option.map_some, Int.reduceEq, Int.reduceLT, Int.reduceLE, Bool.false_eq_true, decide_true, decide_false, ge_iff_le, gt_iff_lt, set_get']; rfl) ?_))))
  show Wc _ _ _ _
  have hg3 : ((h.new (.cells x.cells true 0)).new (.cells y.cells true 0)).get (h.next + 1) = some (.cells y.cells true 0) := new_get' _ _
  have hg2 : ((h.new (.cells x.cells true 0)).new (.cells y.cells true 0)).get h.next = some (.cells x.cells true 0) := by rw [new_get_ne' _ _ (by rw [new_next]; omega), new_get']
  have hk : Kept h ((h.new (.cells x.cells true 0)).new (.cells y.cells true 0)) := ((Kept.refl h).new _).new _
  have hn1 : ((h.new (.cells x.cells true 0)).new (.cells y.cells true 0)).next = h.next + 2 := rfl
  generalize (h.new (.cells x.cells true 0)).new (.cells y.cells true 0) = h1 at hg2 hg3 hk hn1 ⊢
  have hx1 := hx.keep hk
  have hy1 := hy.keep hk
  have out : ∀ (e' : Env) (hp' : Heap), e' 4 = .bool true → ((Ex.ret = .normal ∨ Ex.ret = .ret) ∧ some ([] : List Dfr) = some [] ∧ ∃ vs, resAll e' hp' [.tmp 4] = some vs ∧ Out.ret (tup vs) = .ret (.bool true)) := by
    intro e' hp' h4
    exact ⟨.inr rfl, rfl, [.bool true], by simp only [resAll, resV, h4], rfl⟩
  have lx : ∀ {hq : Heap}, Kept h1 hq → hq.cells h.next 0 3 = some x.cells := fun hkq => cells_all (by rw [hkq.get _ (by omega)]; exact hg2) rfl
  have ly : ∀ {hq : Heap}, Kept h1 hq → hq.cells (h.next + 1) 0 3 = some y.cells := fun hkq => cells_all (by rw [hkq.get _ (by omega)]; exact hg3) rfl
  refine Wc_seq (Wc_seq (Wc_ops (Wo_call (wake7 ?_))))
  show Wo _ _ _ _
  refine (Wo_run (fun call => by simp only [List.drop_succ_cons, List.drop_zero, iops_nil, iops_op, iops_grd, iK_some, iG_true, iG_false, gval_bool, beq_true, beq_false, Bool.not_true, Bool.not_false, iop, ev, upd, dstUpd, binV, binI, unV, ptr, Heap.cell, Heap.write, cellsOf, put, args0, partL, List.getD_cons_zero, List.getD_cons_succ, List.length_cons, List.length_nil, List.set_cons_zero, List.set_cons_succ, List.getElem?_cons_zero, List.getElem?_cons_succ, reduceIte, Nat.reduceEqDiff, Nat.reduceAdd, Nat.reduceMul, Nat.reduceLeDiff, Nat.zero_add, Nat.add_zero, Option.map_some, Int.reduceEq, Int.reduceLT, Int.reduceLE, Bool.false_eq_true, decide_true, decide_false, ge_iff_le, gt_iff_lt, set_get']; rfl) ?_)
  show Wc _ _ _ _
  refine Wc_cond false (by simp [ev, upd]) (fun h => by cases h) (fun _ => Wc_skip ?_)
  show Wc _ _ _ _
  refine Wc_seq (Wc_seq (Wc_ops (Wo_op (iop_load (b := h.next) (o := 0) (cs := x.cells) (by simp only [upd, dstUpd, reduceIte, Nat.reduceEqDiff, ptr]) (lx (.refl _))) (Wo_call ?_))))
  show Wk _ (.fn 8) [.agg x.cells.toArray] h1 _
  refine (few8 T1_8 T1_20 x h1 hx1 hsx hbx).mono fun o h2 ⟨hk2, ho2⟩ => ?_
  subst ho2
  show Wo _ _ _ _
  by_cases hfx : x.size ≤ 2000
  case neg =>
    refine (Wo_run (fun call => by simp only [List.drop_succ_cons, List.drop_zero, iops_nil, iops_op, iops_grd, iK_some, iG_true, iG_false, gval_bool, beq_true, beq_false, Bool.not_true, Bool.not_false, iop, ev, upd, dstUpd, binV, binI, unV, ptr, Heap.cell, Heap.write, cellsOf, put, args0, partL, List.getD_cons_zero, List.getD_cons_succ, List.length_cons, List.length_nil, List.set_cons_zero, List.set_cons_succ, List.getElem?_cons_zero, List.getElem?_cons_succ, reduceIte, Nat.reduceEqDiff, Nat.reduceAdd, Nat.reduceMul, Nat.reduceLeDiff, Nat.zero_add, Nat.add_zero, Option.map_some, Int.reduceEq, Int.reduceLT, Int.reduceLE, Bool.false_eq_true, decide_true, decide_false, ge_iff_le, gt_iff_lt, set_get', hfx]; rfl) ?_)
    show Wc _ _ _ _
    refine Wc_cond true (by simp [ev, upd]) (fun _ => ?_) (fun h => by cases h)
    refine Wc_seq (Wc_ops (Wo_run (fun call => by simp only [List.drop_succ_cons, List.drop_zero, iops_nil, iops_op, iops_grd, iK_some, iG_true, iG_false, gval_bool, beq_true, beq_false, Bool.not_true, Bool.not_false, iop, ev, upd, dstUpd, binV, binI, unV, ptr, Heap.cell, Heap.write, cellsOf, put, args0, partL, List.getD_cons_zero, List.getD_cons_succ, List.length_cons, List.length_nil, List.set_cons_zero, List.set_cons_succ, List.getElem?_cons_zero, List.getElem?_cons_succ, reduceIte, Nat.reduceEqDiff, Nat.reduceAdd, Nat.reduceMul, Nat.reduceLeDiff, Nat.zero_add, Nat.add_zero, Option.map_some, Int.reduceEq, Int.reduceLT, Int.reduceLE, Bool.false_eq_true, decide_true, decide_false, ge_iff_le, gt_iff_lt, set_get']; rfl) ?_))
    exact Wc_ret (out _ _ (by simp [upd, dstUpd]))
  refine (Wo_pre 2 (fun call => by simp only [List.take_succ_cons, List.take_zero, List.drop_succ_cons, List.drop_zero, iops_nil, iops_op, iops_grd, iK_some, iG_true, iG_false, gval_bool, beq_true, beq_false, Bool.not_true, Bool.not_false, iop, ev, upd, dstUpd, binV, binI, unV, ptr, Heap.cell, Heap.write, cellsOf, put, args0, partL, List.getD_cons_zero, List.getD_cons_succ, List.length_cons, List.length_nil, List.set_cons_zero, List.set_cons_succ, List.getElem?_cons_zero, List.getElem?_cons_succ, reduceIte, Nat.reduceEqDiff, Nat.reduceAdd, Nat.reduceMul, Nat.reduceLeDiff, Nat.zero_add, Nat.add_zero, Option.map_some, Int.reduceEq, Int.reduceLT, Int.reduceLE, Bool.false_eq_true, decide_true, decide_false, ge_iff_le, gt_iff_lt, set_get', hfx]; rfl) ?_)
  refine Wo_take (by simp only [dstUpd, upd, reduceIte, Nat.reduceEqDiff, gval_bool]; rfl) (Wo_op (iop_load (b := h.next + 1) (o := 0) (cs := y.cells) (by simp only [upd, dstUpd, reduceIte, Nat.reduceEqDiff, ptr]) (ly hk2)) ?_)
  refine Wo_take (by simp only [dstUpd, upd, reduceIte, Nat.reduceEqDiff, gval_bool]; rfl) (Wo_call ?_)
  show Wk _ (.fn 8) [.agg y.cells.toArray] h2 _
  refine (few8 T1_8 T1_20 y h2 (hy1.keep hk2) hsy hby).mono fun o h3 ⟨hk3, ho3⟩ => ?_
  subst ho3
  show Wo _ _ _ _
  by_cases hfy : y.size ≤ 2000
  case neg =>
    refine (Wo_run (fun call => by simp only [List.drop_succ_cons, List.drop_zero, iops_nil, iops_op, iops_grd, iK_some, iG_true, iG_false, gval_bool, beq_true, beq_false, Bool.not_true, Bool.not_false, iop, ev, upd, dstUpd, binV, binI, unV, ptr, Heap.cell, Heap.write, cellsOf, put, args0, partL, List.getD_cons_zero, List.getD_cons_succ, List.length_cons, List.length_nil, List.set_cons_zero, List.set_cons_succ, List.getElem?_cons_zero, List.getElem?_cons_succ, reduceIte, Nat.reduceEqDiff, Nat.reduceAdd, Nat.reduceMul, Nat.reduceLeDiff, Nat.zero_add, Nat.add_zero, Option.map_some, Int.reduceEq, Int.reduceLT, Int.reduceLE, Bool.false_eq_true, decide_true, decide_false, ge_iff_le, gt_iff_lt, set_get', hfy]; rfl) ?_)
    show Wc _ _ _ _
    refine Wc_cond true (by simp [ev, upd]) (fun _ => ?_) (fun h => by cases h)
    refine Wc_seq (Wc_ops (Wo_run (fun call => by simp only [List.drop_succ_cons, List.drop_zero, iops_nil, iops_op, iops_grd, iK_some, iG_true, iG_false, gval_bool, beq_true, beq_false, Bool.not_true, Bool.not_false, iop, ev, upd, dstUpd, binV, binI, unV, ptr, Heap.cell, Heap.write, cellsOf, put, args0, partL, List.getD_cons_zero, List.getD_cons_succ, List.length_cons, List.length_nil, List.set_cons_zero, List.set_cons_succ, List.getElem?_cons_zero, List.getElem?_cons_succ, reduceIte, Nat.reduceEqDiff, Nat.reduceAdd, Nat.reduceMul, Nat.reduceLeDiff, Nat.zero_add, Nat.add_zero, Option.map_some, Int.reduceEq, Int.reduceLT, Int.reduceLE, Bool.false_eq_true, decide_true, decide_false, ge_iff_le, gt_iff_lt, set_get']; rfl) ?_))
    exact Wc_ret (out _ _ (by simp [upd, dstUpd]))
  refine (Wo_run (fun call => by simp only [List.drop_succ_cons, List.drop_zero, iops_nil, iops_op, iops_grd, iK_some, iG_true, iG_false, gval_bool, beq_true, beq_false, Bool.not_true, Bool.not_false, iop, ev, upd, dstUpd, binV, binI, unV, ptr, Heap.cell, Heap.write, cellsOf, put, args0, partL, List.getD_cons_zero, List.getD_cons_succ, List.length_cons, List.length_nil, List.set_cons_zero, List.set_cons_succ, List.getElem?_cons_zero, List.getElem?_cons_succ, reduceIte, Nat.reduceEqDiff, Nat.reduceAdd, Nat.reduceMul, Nat.reduceLeDiff, Nat.zero_add, Nat.add_zero, Option.map_some, Int.reduceEq, Int.reduceLT, Int.reduceLE, Bool.false_eq_true, decide_true, decide_false, ge_iff_le, gt_iff_lt, set_get', hfy]; rfl) ?_)
  show Wc _ _ _ _
  refine Wc_cond false (by simp [ev, upd]) (fun h => by cases h) (fun _ => Wc_skip ?_)
  show Wc _ _ _ _
  have hk13 : Kept h1 h3 := hk2.trans hk3
  have hn3 : h.next + 1 < h3.next := by have := hk13.next; omega
  have s18 : ∀ {hq : Heap} (u v : Cod), u.Ok hq → v.Ok hq → u.small → Wk T1 (.fn 18) [.agg u.cells.toArray, .agg v.cells.toArray] hq (fun o h' => Kept hq h' ∧ o = .ret (.bool (decide (u.key = v.key)))) := fun u v hu hv hs => same18 T1_18 T1_32 T1_33 T1_34 T1_35 T1_36 u v _ hu hv hs
  have comm : decide (y.key = x.key) = decide (x.key = y.key) := by rw [decide_eq_decide]; exact ⟨Eq.symm, Eq.symm⟩
  have bx' : ∀ {e : Env}, e 2 = ptr h.next 0 → Below h3.next (locOp (.load (some 3) (.t 2)) e) := fun h2 => by simp only [locOp, ev, h2, ptr, Below]; omega
  have by' : ∀ {e : Env}, e 3 = ptr (h.next + 1) 0 → Below h3.next (locOp (.load (some 3) (.t 3)) e) := fun h2 => by simp only [locOp, ev, h2, ptr, Below]; omega
  refine Wc_seq (Wc_drawK ?_)
  refine WdK_R rfl (iop_load (b := h.next) (o := 0) (cs := x.cells) (by simp only [upd, dstUpd, reduceIte, Nat.reduceEqDiff, ptr]) (lx hk13)) (bx' (by simp only [upd, dstUpd, reduceIte, Nat.reduceEqDiff, ptr])) ?_
  refine WdK_R rfl (iop_load (b := h.next + 1) (o := 0) (cs := y.cells) (by simp only [upd, dstUpd, reduceIte, Nat.reduceEqDiff, ptr]) (ly hk13)) (by' (by simp only [upd, dstUpd, reduceIte, Nat.reduceEqDiff, ptr])) ?_
  refine WdK_call ?_
  show Wk _ (.fn 18) [.agg x.cells.toArray, .agg y.cells.toArray] h3 _
  refine (s18 x y (hx1.keep hk13) (hy1.keep hk13) hsx).mono fun o h4 ⟨hk4, ho4⟩ => ?_
  subst ho4
  refine ⟨hk4, ?_⟩
  have hk14 := hk13.trans hk4
  refine WdK_R rfl (iop_load (b := h.next) (o := 0) (cs := x.cells) (by simp only [upd, dstUpd, reduceIte, Nat.reduceEqDiff, ptr]) (lx hk14)) (bx' (by simp only [upd, dstUpd, reduceIte, Nat.reduceEqDiff, ptr])) ?_
  refine WdK_R rfl (iop_load (b := h.next + 1) (o := 0) (cs := y.cells) (by simp only [upd, dstUpd, reduceIte, Nat.reduceEqDiff, ptr]) (ly hk14)) (by' (by simp only [upd, dstUpd, reduceIte, Nat.reduceEqDiff, ptr])) ?_
  refine WdK_call ?_
  show Wk _ (.fn 19) [.agg x.cells.toArray, .agg y.cells.toArray] h4 _
  refine (same19 T1_19 T1_37 x y h4 (hx1.keep hk14) (hy1.keep hk14) hsx).mono fun o h5 ⟨hk5, ho5⟩ => ?_
  subst ho5
  refine ⟨hk5, ?_⟩
  have hk15 := hk14.trans hk5
  refine WdK_P (v := .bool true) rfl (by simp [iop, ev, dstUpd, upd]) ?_
  refine WdK_P rfl rfl ?_
  refine WdK_take (by simp only [dstUpd, upd, reduceIte, Nat.reduceEqDiff, gval_bool]; rfl) (WdK_R rfl (iop_load (b := h.next) (o := 0) (cs := x.cells) (by simp only [upd, dstUpd, reduceIte, Nat.reduceEqDiff, ptr]) (lx hk15)) (bx' (by simp only [upd, dstUpd, reduceIte, Nat.reduceEqDiff, ptr])) ?_)
  refine WdK_take (by simp only [dstUpd, upd, reduceIte, Nat.reduceEqDiff, gval_bool]; rfl) (WdK_R rfl (iop_load (b := h.next) (o := 0) (cs := x.cells) (by simp only [upd, dstUpd, reduceIte, Nat.reduceEqDiff, ptr]) (lx hk15)) (bx' (by simp only [upd, dstUpd, reduceIte, Nat.reduceEqDiff, ptr])) ?_)
  refine WdK_take (by simp only [dstUpd, upd, reduceIte, Nat.reduceEqDiff, gval_bool]; rfl) (WdK_call ?_)
  show Wk _ (.fn 18) [.agg x.cells.toArray, .agg x.cells.toArray] h5 _
  refine (s18 x x (hx1.keep hk15) (hx1.keep hk15) hsx).mono fun o h6 ⟨hk6, ho6⟩ => ?_
  subst ho6
  refine ⟨hk6, ?_⟩
  have hk16 := hk15.trans hk6
  refine WdK_P (v := .bool true) rfl (by simp [iop, ev, dstUpd, upd]) ?_
  refine WdK_P rfl rfl ?_
  refine WdK_take (by simp only [dstUpd, upd, reduceIte, Nat.reduceEqDiff, gval_bool]; rfl) (WdK_R rfl (iop_load (b := h.next) (o := 0) (cs := x.cells) (by simp only [upd, dstUpd, reduceIte, Nat.reduceEqDiff, ptr]) (lx hk16)) (bx' (by simp only [upd, dstUpd, reduceIte, Nat.reduceEqDiff, ptr])) ?_)
  refine WdK_take (by simp only [dstUpd, upd, reduceIte, Nat.reduceEqDiff, gval_bool]; rfl) (WdK_R rfl (iop_load (b := h.next + 1) (o := 0) (cs := y.cells) (by simp only [upd, dstUpd, reduceIte, Nat.reduceEqDiff, ptr]) (ly hk16)) (by' (by simp only [upd, dstUpd, reduceIte, Nat.reduceEqDiff, ptr])) ?_)
  refine WdK_take (by simp only [dstUpd, upd, reduceIte, Nat.reduceEqDiff, gval_bool]; rfl) (WdK_call ?_)
  show Wk _ (.fn 18) [.agg x.cells.toArray, .agg y.cells.toArray] h6 _
  refine (s18 x y (hx1.keep hk16) (hy1.keep hk16) hsx).mono fun o h7 ⟨hk7, ho7⟩ => ?_
  subst ho7
  refine ⟨hk7, ?_⟩
  have hk17 := hk16.trans hk7
  refine WdK_take (by simp only [dstUpd, upd, reduceIte, Nat.reduceEqDiff, gval_bool]; rfl) (WdK_R rfl (iop_load (b := h.next + 1) (o := 0) (cs := y.cells) (by simp only [upd, dstUpd, reduceIte, Nat.reduceEqDiff, ptr]) (ly hk17)) (by' (by simp only [upd, dstUpd, reduceIte, Nat.reduceEqDiff, ptr])) ?_)
  refine WdK_take (by simp only [dstUpd, upd, reduceIte, Nat.reduceEqDiff, gval_bool]; rfl) (WdK_R rfl (iop_load (b := h.next) (o := 0) (cs := x.cells) (by simp only [upd, dstUpd, reduceIte, Nat.reduceEqDiff, ptr]) (lx hk17)) (bx' (by simp only [upd, dstUpd, reduceIte, Nat.reduceEqDiff, ptr])) ?_)
  refine WdK_take (by simp only [dstUpd, upd, reduceIte, Nat.reduceEqDiff, gval_bool]; rfl) (WdK_call ?_)
  show Wk _ (.fn 18) [.agg y.cells.toArray, .agg x.cells.toArray] h7 _
  refine (s18 y x (hy1.keep hk17) (hx1.keep hk17) hsy).mono fun o h8 ⟨hk8, ho8⟩ => ?_
  subst ho8
  refine ⟨hk8, ?_⟩
  refine WdK_take (by simp only [dstUpd, upd, reduceIte, Nat.reduceEqDiff, gval_bool]; rfl) (WdK_P (v := .bool true) rfl (by simp [iop, ev, dstUpd, upd, comm]) ?_)
  refine WdK_P (v := .bool true) rfl (by simp [iop, ev, dstUpd, upd]) ?_
  refine WdK_P rfl rfl ?_
  refine WdK_nil ?_
  show Wc _ _ _ _
  exact Wc_ret (out _ _ (by simp [upd, dstUpd, ev]))

end Go.Idl
