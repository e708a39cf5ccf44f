/- The checker at an instruction. -/
import Derived.Test.YtfdpknfndjllgaaM3
import Derived.Test.YtfdpknfndjllgaaI20
import Derived.Test.YtfdpknfndjllgaaK1
import Derived.Lib.IndexAny
section
/- few; IrSame at the ideal level. -/
namespace Go.Idl
set_option linter.unusedVariables false
set_option linter.unusedSimpArgs false
set_option maxRecDepth 100000
open Go.Proofs

def insSize (l : List Ins) : Nat := (l.map fun x => x.l.length).sum
def fnSize (f : Fn) : Nat := 1 + f.code.length + f.name.size / 10 + insSize f.code
def fnsSize (l : List Fn) : Nat := (l.map fnSize).sum
def Cod.size (c : Cod) : Nat := fnsSize c.funcs

theorem insSize_take {l : List Ins} {i : Nat} {x : Ins} (h : l[i]? = some x) : insSize (l.take (i + 1)) = insSize (l.take i) + x.l.length := by
  unfold insSize
  rw [List.take_add_one, h]; simp
theorem insSize_le (l : List Ins) (i : Nat) : insSize (l.take i) ≤ insSize l := by
  have : insSize l = insSize (l.take i) + insSize (l.drop i) := by
    unfold insSize
    rw [← List.sum_append, ← List.map_append, List.take_append_drop]
  omega
theorem fnsSize_take {l : List Fn} {i : Nat} {x : Fn} (h : l[i]? = some x) : fnsSize (l.take (i + 1)) = fnsSize (l.take i) + fnSize x := by
  unfold fnsSize
  rw [List.take_add_one, h]; simp
theorem fnsSize_le (l : List Fn) (i : Nat) : fnsSize (l.take i) ≤ fnsSize l := by
  have : fnsSize l = fnsSize (l.take i) + fnsSize (l.drop i) := by
    unfold fnsSize
    rw [← List.sum_append, ← List.map_append, List.take_append_drop]
  omega

theorem size_ins {T : Tbl} {h0 hp0 : Heap} {cv : Value} {l : List Ins} {e : Env} {s : Nat} {Q : Ex → St → Prop} (hr : rowsAt Ins.cells insIn h0 cv l) (hk0 : Kept h0 hp0) (hb : s + insSize l < 4611686018427387904) (hl : l.length < 4611686018427387904)
    (g27 : e 27 = cv) (g28 : e 28 = .int .i64 l.length) (g29 : e 29 = .int .i64 0) (g3 : e 3 = .int .i64 s)
    (hQ : ∀ (e' : Env) (hp : Heap), Kept hp0 hp → e' 3 = .int .i64 ((s + insSize l : Nat) : Int) → (∀ t, t < 27 → t ≠ 3 → t ≠ 7 → e' t = e t) → Q (.brk 2) ⟨e', hp, some []⟩) : Wc T (.loop C20L0) ⟨e, hp0, some []⟩ Q := by
  refine Wc_loop (fun st => st.d = some [] ∧ Kept hp0 st.h ∧ st.e 27 = cv ∧ st.e 28 = .int .i64 l.length ∧ (∀ t, t < 27 → t ≠ 3 → t ≠ 7 → st.e t = e t) ∧ ∃ i : Nat, i ≤ l.length ∧ st.e 29 = .int .i64 i ∧ st.e 3 = .int .i64 ((s + insSize (l.take i) : Nat) : Int))
    (fun st => match st.e 29 with | .int _ i => (l.length - i).toNat | _ => 0) ?_ ?_
  · exact ⟨rfl, .refl _, g27, g28, fun _ _ _ _ => rfl, 0, Nat.zero_le _, g29, by simp [insSize, g3]⟩
  rintro ⟨e1, hp, d⟩ ⟨hd, hk, k27, k28, hfr, i, hi, k29, k3⟩
  simp only at hd hk k27 k28 hfr k29 k3
  subst hd
  rw [C20L0]
  refine Wc_seq (Wc_ops (Wo_run (fun call => by simp only [List.drop_succ_cons, List.drop_zero, iops_nil, iops_op, iops_grd, iK_some, iG_true, iG_false, gval_bool, beq_true, beq_false, Bool.not_true, Bool.not_false, iop, ev, upd, dstUpd, binV, binI, unV, ptr, Heap.cell, Heap.write, cellsOf, put, args0, partL, List.getD_cons_zero, List.getD_cons_succ, List.length_cons, List.length_nil, List.set_cons_zero, List.set_cons_succ, List.getElem?_cons_zero, List.getElem?_cons_succ, reduceIte, Nat.reduceEqDiff, Nat.reduceAdd, Nat.reduceMul, Nat.reduceLeDiff, Nat.zero_add, Nat.add_zero, Option.map_some, Int.reduceEq, Int.reduceLT, Int.reduceLE, Bool.false_eq_true, decide_true, decide_false, ge_iff_le, gt_iff_lt, set_get', k28, k29]; rfl) ?_))
  show Wc T _ _ _
  refine Wc_seq (Wc_cond (decide ((i : Int) < l.length)) (by simp [ev, upd]) (fun hlt => Wc_skip ?_) (fun hge => Wc_exit ?_))
  case refine_2 =>
    have : i = l.length := by simp at hge; omega
    subst this
    rw [List.take_length] at k3
    exact hQ _ _ hk (by simp [upd, k3]) (fun t h1 h2 h3 => by simp only [upd]; rw [if_neg (by omega)]; exact hfr t h1 h2 h3)
  show Wc T _ _ _
  have hil : i < l.length := by simpa using hlt
  obtain ⟨x, hxi⟩ : ∃ x, l[i]? = some x := ⟨_, List.getElem?_eq_getElem hil⟩
  obtain ⟨bx, cx, hva, hbx, _, hcx, hxin⟩ := (rowsAt.keep (inner := insIn) insIn_keep (hk0.trans hk) hr).load insCells_len hxi
  obtain ⟨al, cl, hlv⟩ := hxin.ints.len
  have hst := insSize_take hxi
  have hsl := insSize_le l (i + 1)
  have e1' : IntKind.i64.wrap ((i : Int) + 1) = ((i + 1 : Nat) : Int) := by rw [wrap64] <;> omega
  have e2' : IntKind.i64.wrap (((s + insSize (l.take i) : Nat) : Int) + (x.l.length : Int)) = ((s + insSize (l.take (i + 1)) : Nat) : Int) := by rw [wrap64] <;> omega
  refine Wc_seq (Wc_block (Wc_seq (Wc_ops ?_)))
  refine Wo_op (iop_iaddr (b := bx) (len := l.length) (c := cx) (i := i) (by simp only [upd, dstUpd, reduceIte, Nat.reduceEqDiff, k27]; exact hva) (by simp only [upd, dstUpd, reduceIte, Nat.reduceEqDiff, k29]) hil) (Wo_op (iop_load (b := bx) (o := i * 6) (cs := x.cells) (by simp only [upd, dstUpd, reduceIte, Nat.reduceEqDiff]) hcx) (Wo_op rfl (Wo_op (iop_store (b := hp.next) (esz := 0) (cs := x.cells) (z := [(.int .i64 0), (.int .i64 0), (.int .i64 0), (.int .i64 0), (.int .i64 0), (.slice none 0 0)]) (by simp only [upd, dstUpd, reduceIte, Nat.reduceEqDiff]) (by simp only [upd, dstUpd, reduceIte, Nat.reduceEqDiff]) rfl (new_get' _ _) rfl) (Wo_nil ?_))))
  show Wc T _ _ _
  have hkA : Kept hp ((hp.new (.cells [(.int .i64 0), (.int .i64 0), (.int .i64 0), (.int .i64 0), (.int .i64 0), (.slice none 0 0)] true 0)).set hp.next (.cells x.cells true 0)) := ((Kept.refl hp).new _).set (Nat.le_refl _) _
  have hgA : ((hp.new (.cells [(.int .i64 0), (.int .i64 0), (.int .i64 0), (.int .i64 0), (.int .i64 0), (.slice none 0 0)] true 0)).set hp.next (.cells x.cells true 0)).get hp.next = some (.cells x.cells true 0) := set_get' _ _ _
  generalize (hp.new (.cells [(.int .i64 0), (.int .i64 0), (.int .i64 0), (.int .i64 0), (.int .i64 0), (.slice none 0 0)] true 0)).set hp.next (.cells x.cells true 0) = hpA at hkA hgA ⊢
  refine Wc_ops (Wo_run (fun call => by simp only [List.drop_succ_cons, List.drop_zero, iops_nil, iops_op, iops_grd, iK_some, iG_true, iG_false, gval_bool, beq_true, beq_false, Bool.not_true, Bool.not_false, iop, ev, upd, dstUpd, binV, binI, unV, ptr, Heap.cell, Heap.write, cellsOf, put, args0, partL, List.getD_cons_zero, List.getD_cons_succ, List.length_cons, List.length_nil, List.set_cons_zero, List.set_cons_succ, List.getElem?_cons_zero, List.getElem?_cons_succ, reduceIte, Nat.reduceEqDiff, Nat.reduceAdd, Nat.reduceMul, Nat.reduceLeDiff, Nat.zero_add, Nat.add_zero, Option.map_some, Int.reduceEq, Int.reduceLT, Int.reduceLE, Bool.false_eq_true, decide_true, decide_false, ge_iff_le, gt_iff_lt, set_get', k3, hgA, Ins.cells, hlv, e2']; rfl) ?_)
  show Wc T _ _ _
  refine Wc_ops (Wo_run (fun call => by simp only [List.drop_succ_cons, List.drop_zero, iops_nil, iops_op, iops_grd, iK_some, iG_true, iG_false, gval_bool, beq_true, beq_false, Bool.not_true, Bool.not_false, iop, ev, upd, dstUpd, binV, binI, unV, ptr, Heap.cell, Heap.write, cellsOf, put, args0, partL, List.getD_cons_zero, List.getD_cons_succ, List.length_cons, List.length_nil, List.set_cons_zero, List.set_cons_succ, List.getElem?_cons_zero, List.getElem?_cons_succ, reduceIte, Nat.reduceEqDiff, Nat.reduceAdd, Nat.reduceMul, Nat.reduceLeDiff, Nat.zero_add, Nat.add_zero, Option.map_some, Int.reduceEq, Int.reduceLT, Int.reduceLE, Bool.false_eq_true, decide_true, decide_false, ge_iff_le, gt_iff_lt, set_get', k29, e1']; rfl) ?_)
  refine ⟨⟨rfl, hk.trans hkA, by simp [upd, dstUpd, k27], by simp [upd, dstUpd, k28], fun t h1 h2 h3 => ?_, i + 1, by omega, by simp [upd, dstUpd], by simp [upd, dstUpd]⟩, ?_⟩
  · simp only [upd, dstUpd]
    repeat rw [if_neg (by omega)]
    exact hfr t h1 h2 h3
  · simp only [upd, dstUpd, Nat.reduceEqDiff, reduceIte, k29]; omega

theorem size20 {T : Tbl} (hT : T.fn 20 = some C20) (x : Cod) (h : Heap) (hx : x.Ok h) (hs : x.small) (hb : x.size < 4611686018427387904) : Wk T (.fn 20) [.agg x.cells.toArray] h (fun o h' => Kept h h' ∧ o = .ret (.int .i64 (x.size : Int))) := by
  refine Wk_fn hT (by simp [C20]) ?_
  simp only [C20]
  have hbx : iop (.box (.t 0)) (args0 [.agg x.cells.toArray]) h = some (ptr h.next 0, h.new (.cells x.cells true 0)) := by simp [iop, ev, args0, cellsOf]
  refine Wc_seq (Wc_ops (Wo_op hbx (Wo_run (fun call => by simp only [List.drop_succ_cons, List.drop_zero, iops_nil, iops_op, iops_grd, iK_some, iG_true, iG_false, gval_bool, beq_true, beq_false, Bool.not_true, Bool.not_false, iop, ev, upd, dstUpd, binV, binI, unV, ptr, Heap.cell, Heap.write, cellsOf, put, args0, partL, List.getD_cons_zero, List.getD_cons_succ, List.length_cons, List.length_nil, List.set_cons_zero, List.set_cons_succ, List.getElem?_cons_zero, List.getElem?_cons_succ, reduceIte, Nat.reduceEqDiff, Nat.reduceAdd, Nat.reduceMul, Nat.reduceLeDiff, Nat.zero_add, Nat.add_zero, Option.map_some, Int.reduceEq, Int.reduceLT, Int.reduceLE, Bool.false_eq_true, decide_true, decide_false, ge_iff_le, gt_iff_lt, set_get']; rfl) ?_)))
  show Wc T _ _ _
  have hg : (h.new (.cells x.cells true 0)).get h.next = some (.cells x.cells true 0) := new_get' _ _
  have hk : Kept h (h.new (.cells x.cells true 0)) := (Kept.refl h).new _
  generalize h.new (.cells x.cells true 0) = h1 at hg hk ⊢
  obtain ⟨pa, ca, hfx⟩ := hx.funcs.len
  refine Wc_seq (Wc_ops (Wo_run (fun call => by simp only [List.drop_succ_cons, List.drop_zero, iops_nil, iops_op, iops_grd, iK_some, iG_true, iG_false, gval_bool, beq_true, beq_false, Bool.not_true, Bool.not_false, iop, ev, upd, dstUpd, binV, binI, unV, ptr, Heap.cell, Heap.write, cellsOf, put, args0, partL, List.getD_cons_zero, List.getD_cons_succ, List.length_cons, List.length_nil, List.set_cons_zero, List.set_cons_succ, List.getElem?_cons_zero, List.getElem?_cons_succ, reduceIte, Nat.reduceEqDiff, Nat.reduceAdd, Nat.reduceMul, Nat.reduceLeDiff, Nat.zero_add, Nat.add_zero, Option.map_some, Int.reduceEq, Int.reduceLT, Int.reduceLE, Bool.false_eq_true, decide_true, decide_false, ge_iff_le, gt_iff_lt, set_get']; rfl) ?_))
  show Wc T _ _ _
  refine Wc_seq (Wc_seq (Wc_ops (Wo_run (fun call => by simp only [List.drop_succ_cons, List.drop_zero, iops_nil, iops_op, iops_grd, iK_some, iG_true, iG_false, gval_bool, beq_true, beq_false, Bool.not_true, Bool.not_false, iop, ev, upd, dstUpd, binV, binI, unV, ptr, Heap.cell, Heap.write, cellsOf, put, args0, partL, List.getD_cons_zero, List.getD_cons_succ, List.length_cons, List.length_nil, List.set_cons_zero, List.set_cons_succ, List.getElem?_cons_zero, List.getElem?_cons_succ, reduceIte, Nat.reduceEqDiff, Nat.reduceAdd, Nat.reduceMul, Nat.reduceLeDiff, Nat.zero_add, Nat.add_zero, Option.map_some, Int.reduceEq, Int.reduceLT, Int.reduceLE, Bool.false_eq_true, decide_true, decide_false, ge_iff_le, gt_iff_lt, set_get', hg, Cod.cells, hfx]; rfl) ?_)))
  show Wc T _ _ _
  refine Wc_block (Wc_loop (fun s => s.d = some [] ∧ Kept h1 s.h ∧ s.e 9 = x.fv ∧ s.e 10 = .int .i64 x.funcs.length ∧ ∃ i : Nat, i ≤ x.funcs.length ∧ s.e 11 = .int .i64 i ∧ s.e 3 = .int .i64 (fnsSize (x.funcs.take i) : Int))
    (fun s => match s.e 11 with | .int _ i => (x.funcs.length - i).toNat | _ => 0) ?_ ?_)
  · exact ⟨rfl, .refl _, by simp [upd, dstUpd, hfx], by simp [upd, dstUpd], 0, Nat.zero_le _, by simp [upd, dstUpd], by simp [upd, dstUpd, fnsSize]⟩
  rintro ⟨e, hp, d⟩ ⟨hd, hkp, g9, g10, i, hi, g11, g3⟩
  simp only at hd hkp g9 g10 g11 g3
  subst hd
  rw [C20L1]
  refine Wc_seq (Wc_ops (Wo_run (fun call => by simp only [List.drop_succ_cons, List.drop_zero, iops_nil, iops_op, iops_grd, iK_some, iG_true, iG_false, gval_bool, beq_true, beq_false, Bool.not_true, Bool.not_false, iop, ev, upd, dstUpd, binV, binI, unV, ptr, Heap.cell, Heap.write, cellsOf, put, args0, partL, List.getD_cons_zero, List.getD_cons_succ, List.length_cons, List.length_nil, List.set_cons_zero, List.set_cons_succ, List.getElem?_cons_zero, List.getElem?_cons_succ, reduceIte, Nat.reduceEqDiff, Nat.reduceAdd, Nat.reduceMul, Nat.reduceLeDiff, Nat.zero_add, Nat.add_zero, Option.map_some, Int.reduceEq, Int.reduceLT, Int.reduceLE, Bool.false_eq_true, decide_true, decide_false, ge_iff_le, gt_iff_lt, set_get', g10, g11]; rfl) ?_))
  show Wc T _ _ _
  refine Wc_seq (Wc_cond (decide ((i : Int) < x.funcs.length)) (by simp [ev, upd]) (fun hlt => Wc_skip ?_) (fun hge => Wc_exit ?_))
  case refine_2 =>
    show Wc T _ _ _
    have : i = x.funcs.length := by simp at hge; omega
    subst this
    rw [List.take_length] at g3
    refine Wc_seq (Wc_ops (Wo_run (fun call => by simp only [List.drop_succ_cons, List.drop_zero, iops_nil, iops_op, iops_grd, iK_some, iG_true, iG_false, gval_bool, beq_true, beq_false, Bool.not_true, Bool.not_false, iop, ev, upd, dstUpd, binV, binI, unV, ptr, Heap.cell, Heap.write, cellsOf, put, args0, partL, List.getD_cons_zero, List.getD_cons_succ, List.length_cons, List.length_nil, List.set_cons_zero, List.set_cons_succ, List.getElem?_cons_zero, List.getElem?_cons_succ, reduceIte, Nat.reduceEqDiff, Nat.reduceAdd, Nat.reduceMul, Nat.reduceLeDiff, Nat.zero_add, Nat.add_zero, Option.map_some, Int.reduceEq, Int.reduceLT, Int.reduceLE, Bool.false_eq_true, decide_true, decide_false, ge_iff_le, gt_iff_lt, set_get', g3]; rfl) ?_))
    exact Wc_ret ⟨.inr rfl, rfl, [.int .i64 x.size], by simp [resAll, resV, upd, dstUpd, Cod.size], hk.trans hkp, rfl⟩
  show Wc T _ _ _
  have hil : i < x.funcs.length := by simpa using hlt
  obtain ⟨f, hxi⟩ : ∃ f, x.funcs[i]? = some f := ⟨_, List.getElem?_eq_getElem hil⟩
  obtain ⟨bx, cx, hva, hbx', _, hcx, hxin⟩ := ((hx.keep (hk.trans hkp)).funcs).load fnCells_len hxi
  obtain ⟨qa, ra, hfc⟩ := hxin.code.len
  have hst := fnsSize_take hxi
  have hsl := fnsSize_le x.funcs (i + 1)
  have hsm := (hs.2 f (List.mem_of_getElem? hxi)).1
  have hs1 := hs.1
  unfold Idl.small at hsm hs1
  unfold Cod.size at hb
  unfold fnSize at hst
  have e1' : IntKind.i64.wrap ((i : Int) + 1) = ((i + 1 : Nat) : Int) := by rw [wrap64] <;> omega
  have w1 : IntKind.i64.wrap (1 + (f.code.length : Int)) = ((1 + f.code.length : Nat) : Int) := by rw [wrap64] <;> omega
  have w2 : IntKind.i64.wrap ((f.name.size : Int).tdiv 10) = ((f.name.size / 10 : Nat) : Int) := by
    have : (f.name.size : Int).tdiv 10 = ((f.name.size / 10 : Nat) : Int) := by rw [Int.tdiv_eq_ediv_of_nonneg (by omega)]; rfl
    have hnm := hxin.name
    unfold maxLen at hnm
    rw [this, wrap64] <;> omega
  have w3 : IntKind.i64.wrap (((1 + f.code.length : Nat) : Int) + ((f.name.size / 10 : Nat) : Int)) = ((1 + f.code.length + f.name.size / 10 : Nat) : Int) := by rw [wrap64] <;> omega
  have w4 : IntKind.i64.wrap ((fnsSize (x.funcs.take i) : Int) + ((1 + f.code.length + f.name.size / 10 : Nat) : Int)) = ((fnsSize (x.funcs.take i) + (1 + f.code.length + f.name.size / 10) : Nat) : Int) := by rw [wrap64] <;> omega
  refine Wc_seq (Wc_block (Wc_seq (Wc_ops ?_)))
  refine Wo_op (iop_iaddr (b := bx) (len := x.funcs.length) (c := cx) (i := i) (by simp only [upd, dstUpd, reduceIte, Nat.reduceEqDiff, g9]; exact hva) (by simp only [upd, dstUpd, reduceIte, Nat.reduceEqDiff, g11]) hil) (Wo_op (iop_load (b := bx) (o := i * 4) (cs := f.cells) (by simp only [upd, dstUpd, reduceIte, Nat.reduceEqDiff]) hcx) (Wo_op rfl (Wo_op (iop_store (b := hp.next) (esz := 0) (cs := f.cells) (z := [(.string ⟨#[]⟩), (.int .i64 0), (.int .i64 0), (.slice none 0 0)]) (by simp only [upd, dstUpd, reduceIte, Nat.reduceEqDiff]) (by simp only [upd, dstUpd, reduceIte, Nat.reduceEqDiff]) rfl (new_get' _ _) rfl) (Wo_nil ?_))))
  show Wc T _ _ _
  have hkA : Kept hp ((hp.new (.cells [(.string ⟨#[]⟩), (.int .i64 0), (.int .i64 0), (.slice none 0 0)] true 0)).set hp.next (.cells f.cells true 0)) := ((Kept.refl hp).new _).set (Nat.le_refl _) _
  have hgA : ((hp.new (.cells [(.string ⟨#[]⟩), (.int .i64 0), (.int .i64 0), (.slice none 0 0)] true 0)).set hp.next (.cells f.cells true 0)).get hp.next = some (.cells f.cells true 0) := set_get' _ _ _
  generalize (hp.new (.cells [(.string ⟨#[]⟩), (.int .i64 0), (.int .i64 0), (.slice none 0 0)] true 0)).set hp.next (.cells f.cells true 0) = hpA at hkA hgA ⊢
  refine Wc_seq (Wc_ops (Wo_run (fun call => by simp only [List.drop_succ_cons, List.drop_zero, iops_nil, iops_op, iops_grd, iK_some, iG_true, iG_false, gval_bool, beq_true, beq_false, Bool.not_true, Bool.not_false, iop, ev, upd, dstUpd, binV, binI, unV, ptr, Heap.cell, Heap.write, cellsOf, put, args0, partL, List.getD_cons_zero, List.getD_cons_succ, List.length_cons, List.length_nil, List.set_cons_zero, List.set_cons_succ, List.getElem?_cons_zero, List.getElem?_cons_succ, reduceIte, Nat.reduceEqDiff, Nat.reduceAdd, Nat.reduceMul, Nat.reduceLeDiff, Nat.zero_add, Nat.add_zero, Option.map_some, Int.reduceEq, Int.reduceLT, Int.reduceLE, Bool.false_eq_true, decide_true, decide_false, ge_iff_le, gt_iff_lt, set_get', g3, hgA, Fn.cells, hfc, w1, w2, w3, w4]; rfl) ?_))
  show Wc T _ _ _
  refine Wc_seq (Wc_ops (Wo_run (fun call => by simp only [List.drop_succ_cons, List.drop_zero, iops_nil, iops_op, iops_grd, iK_some, iG_true, iG_false, gval_bool, beq_true, beq_false, Bool.not_true, Bool.not_false, iop, ev, upd, dstUpd, binV, binI, unV, ptr, Heap.cell, Heap.write, cellsOf, put, args0, partL, List.getD_cons_zero, List.getD_cons_succ, List.length_cons, List.length_nil, List.set_cons_zero, List.set_cons_succ, List.getElem?_cons_zero, List.getElem?_cons_succ, reduceIte, Nat.reduceEqDiff, Nat.reduceAdd, Nat.reduceMul, Nat.reduceLeDiff, Nat.zero_add, Nat.add_zero, Option.map_some, Int.reduceEq, Int.reduceLT, Int.reduceLE, Bool.false_eq_true, decide_true, decide_false, ge_iff_le, gt_iff_lt, set_get', hgA, Fn.cells, hfc]; rfl) ?_))
  show Wc T _ _ _
  refine Wc_block (size_ins (hxin.code) hkA (s := fnsSize (x.funcs.take i) + (1 + f.code.length + f.name.size / 10)) (by omega) hsm (by simp [upd, dstUpd, hfc]) (by simp [upd, dstUpd]) (by simp [upd, dstUpd]) (by simp [upd, dstUpd]) ?_)
  intro e' hq hkq k3 hfr
  show Wc T _ _ _
  have f11 : e' 11 = .int .i64 i := by rw [hfr 11 (by omega) (by omega) (by omega)]; simp only [upd, dstUpd, Nat.reduceEqDiff, reduceIte]; exact g11
  refine Wc_ops (Wo_run (fun call => by simp only [List.drop_succ_cons, List.drop_zero, iops_nil, iops_op, iops_grd, iK_some, iG_true, iG_false, gval_bool, beq_true, beq_false, Bool.not_true, Bool.not_false, iop, ev, upd, dstUpd, binV, binI, unV, ptr, Heap.cell, Heap.write, cellsOf, put, args0, partL, List.getD_cons_zero, List.getD_cons_succ, List.length_cons, List.length_nil, List.set_cons_zero, List.set_cons_succ, List.getElem?_cons_zero, List.getElem?_cons_succ, reduceIte, Nat.reduceEqDiff, Nat.reduceAdd, Nat.reduceMul, Nat.reduceLeDiff, Nat.zero_add, Nat.add_zero, Option.map_some, Int.reduceEq, Int.reduceLT, Int.reduceLE, Bool.false_eq_true, decide_true, decide_false, ge_iff_le, gt_iff_lt, set_get', f11, e1']; rfl) ?_)
  refine ⟨⟨rfl, (hkp.trans hkA).trans hkq, ?_, ?_, i + 1, by omega, ?_, ?_⟩, ?_⟩
  · simp only [upd, dstUpd, Nat.reduceEqDiff, reduceIte]; rw [hfr 9 (by omega) (by omega) (by omega)]; simp only [upd, dstUpd, Nat.reduceEqDiff, reduceIte]; exact g9
  · simp only [upd, dstUpd, Nat.reduceEqDiff, reduceIte]; rw [hfr 10 (by omega) (by omega) (by omega)]; simp only [upd, dstUpd, Nat.reduceEqDiff, reduceIte]; exact g10
  · simp only [upd, dstUpd, Nat.reduceEqDiff, reduceIte]
  · simp only [upd, dstUpd, Nat.reduceEqDiff, reduceIte, k3]
    rw [hst]
    congr 1; omega
  · simp only [upd, dstUpd, Nat.reduceEqDiff, reduceIte, g11]; omega

theorem few8 {T : Tbl} (hT : T.fn 8 = some C8) (h20 : T.fn 20 = some C20) (x : Cod) (h : Heap) (hx : x.Ok h) (hs : x.small) (hb : x.size < 4611686018427387904) : Wk T (.fn 8) [.agg x.cells.toArray] h (fun o h' => Kept h h' ∧ o = .ret (.bool (decide (x.size ≤ 2000)))) := by
  refine Wk_fn hT (by simp [C8]) ?_
  simp only [C8]
  have hbx : iop (.box (.t 0)) (args0 [.agg x.cells.toArray]) h = some (ptr h.next 0, h.new (.cells x.cells true 0)) := by simp [iop, ev, args0, cellsOf]
  refine Wc_seq (Wc_ops (Wo_op hbx (Wo_run (fun call => by simp only [List.drop_succ_cons, List.drop_zero, iops_nil, iops_op, iops_grd, iK_some, iG_true, iG_false, gval_bool, beq_true, beq_false, Bool.not_true, Bool.not_false, iop, ev, upd, dstUpd, binV, binI, unV, ptr, Heap.cell, Heap.write, cellsOf, put, args0, partL, List.getD_cons_zero, List.getD_cons_succ, List.length_cons, List.length_nil, List.set_cons_zero, List.set_cons_succ, List.getElem?_cons_zero, List.getElem?_cons_succ, reduceIte, Nat.reduceEqDiff, Nat.reduceAdd, Nat.reduceMul, Nat.reduceLeDiff, Nat.zero_add, Nat.add_zero, Option.map_some, Int.reduceEq, Int.reduceLT, Int.reduceLE, Bool.false_eq_true, decide_true, decide_false, ge_iff_le, gt_iff_lt, set_get']; rfl) ?_)))
  show Wc T _ _ _
  have hg : (h.new (.cells x.cells true 0)).get h.next = some (.cells x.cells true 0) := new_get' _ _
  have hk : Kept h (h.new (.cells x.cells true 0)) := (Kept.refl h).new _
  generalize h.new (.cells x.cells true 0) = h1 at hg hk ⊢
  refine Wc_seq (Wc_ops (Wo_op (iop_load (b := h.next) (o := 0) (cs := x.cells) (by simp only [upd, dstUpd, reduceIte, Nat.reduceEqDiff, ptr]) (cells_all hg rfl)) (Wo_call ?_)))
  show Wk T (.fn 20) [.agg x.cells.toArray] h1 _
  refine (size20 h20 x h1 (hx.keep hk) hs hb).mono fun o h2 ⟨hk2, ho2⟩ => ?_
  subst ho2
  show Wo T _ _ _
  have hd : decide ((x.size : Int) ≤ 2000) = decide (x.size ≤ 2000) := by rw [decide_eq_decide]; omega
  refine (Wo_run (fun call => by simp only [List.drop_succ_cons, List.drop_zero, iops_nil, iops_op, iops_grd, iK_some, iG_true, iG_false, gval_bool, beq_true, beq_false, Bool.not_true, Bool.not_false, iop, ev, upd, dstUpd, binV, binI, unV, ptr, Heap.cell, Heap.write, cellsOf, put, args0, partL, List.getD_cons_zero, List.getD_cons_succ, List.length_cons, List.length_nil, List.set_cons_zero, List.set_cons_succ, List.getElem?_cons_zero, List.getElem?_cons_succ, reduceIte, Nat.reduceEqDiff, Nat.reduceAdd, Nat.reduceMul, Nat.reduceLeDiff, Nat.zero_add, Nat.add_zero, Option.map_some, Int.reduceEq, Int.reduceLT, Int.reduceLE, Bool.false_eq_true, decide_true, decide_false, ge_iff_le, gt_iff_lt, set_get', hd]; rfl) ?_)
  exact Wc_ret ⟨.inr rfl, rfl, [.bool (decide (x.size ≤ 2000))], by simp [resAll, resV, upd, dstUpd], hk.trans hk2, rfl⟩

theorem T1_6 : T1.fn 6 = some C6 := by
  have h : cfn Try.prog Try.f6 = some C6 := by kernel_rfl
  simp only [T1, T0, Tb0, setPrim, Try.func6, Option.bind_some, h]; rfl
theorem T1_8 : T1.fn 8 = some C8 := by
  have h : cfn Try.prog Try.f8 = some C8 := by kernel_rfl
  simp only [T1, T0, Tb0, setPrim, Try.func8, Option.bind_some, h]; rfl
theorem T1_18 : T1.fn 18 = some C18 := by
  have h : cfn Try.prog Try.f18 = some C18 := by kernel_rfl
  simp only [T1, T0, Tb0, setPrim, Try.func18, Option.bind_some, h]; rfl
theorem T1_19 : T1.fn 19 = some C19 := by
  have h : cfn Try.prog Try.f19 = some C19 := by kernel_rfl
  simp only [T1, T0, Tb0, setPrim, Try.func19, Option.bind_some, h]; rfl
theorem T1_20 : T1.fn 20 = some C20 := by
  have h : cfn Try.prog Try.f20 = some C20 := by kernel_rfl
  simp only [T1, T0, Tb0, setPrim, Try.func20, Option.bind_some, h]; rfl
theorem T1_32 : T1.fn 32 = some C32 := by
  have h : cfn Try.prog Try.f32 = some C32 := by kernel_rfl
  simp only [T1, T0, Tb0, setPrim, Try.func32, Option.bind_some, h]; rfl
theorem T1_33 : T1.fn 33 = some C33 := by
  have h : cfn Try.prog Try.f33 = some C33 := by kernel_rfl
  simp only [T1, T0, Tb0, setPrim, Try.func33, Option.bind_some, h]; rfl
theorem T1_34 : T1.fn 34 = some C34 := by
  have h : cfn Try.prog Try.f34 = some C34 := by kernel_rfl
  simp only [T1, T0, Tb0, setPrim, Try.func34, Option.bind_some, h]; rfl
theorem T1_35 : T1.fn 35 = some C35 := by
  have h : cfn Try.prog Try.f35 = some C35 := by kernel_rfl
  simp only [T1, T0, Tb0, setPrim, Try.func35, Option.bind_some, h]; rfl
theorem T1_36 : T1.fn 36 = some C36 := by
  have h : cfn Try.prog Try.f36 = some C36 := by kernel_rfl
  simp only [T1, T0, Tb0, setPrim, Try.func36, Option.bind_some, h]; rfl
theorem T1_37 : T1.fn 37 = some C37 := by
  have h : cfn Try.prog Try.f37 = some C37 := by kernel_rfl
  simp only [T1, T0, Tb0, setPrim, Try.func37, Option.bind_some, h]; rfl

theorem law6 {x y : Cod} {h : Heap} (hx : x.Ok h) (hy : y.Ok h) (hsx : x.small) (hsy : y.small) (hbx : x.size < 4611686018427387904) (hby : y.size < 4611686018427387904) : Wk T1 (.fn 6) [.agg x.cells.toArray, .agg y.cells.toArray] h (fun o h' => o = .ret (.bool true)) := by
  refine Wk_fn T1_6 (by simp [C6]) ?_
  simp only [C6]
  have hb : iop (.box (.t 0)) (args0 [.agg x.cells.toArray, .agg y.cells.toArray]) h = some (ptr h.next 0, h.new (.cells x.cells true 0)) := by simp [iop, ev, args0, cellsOf]
  have hb2 : iop (.box (.t 1)) (dstUpd (args0 [.agg x.cells.toArray, .agg y.cells.toArray]) (some 2) (ptr h.next 0)) (h.new (.cells x.cells true 0)) = some (ptr (h.next + 1) 0, (h.new (.cells x.cells true 0)).new (.cells y.cells true 0)) := by simp [iop, ev, args0, cellsOf, dstUpd, upd, new_next]
  refine Wc_seq (Wc_ops (Wo_op hb (Wo_op hb2 (Wo_run (fun call => by simp only [List.drop_succ_cons, List.drop_zero, iops_nil, iops_op, iops_grd, iK_some, iG_true, iG_false, gval_bool, beq_true, beq_false, Bool.not_true, Bool.not_false, iop, ev, upd, dstUpd, binV, binI, unV, ptr, Heap.cell, Heap.write, cellsOf, put, args0, partL, List.getD_cons_zero, List.getD_cons_succ, List.length_cons, List.length_nil, List.set_cons_zero, List.set_cons_succ, List.getElem?_cons_zero, List.getElem?_cons_succ, reduceIte, Nat.reduceEqDiff, Nat.reduceAdd, Nat.reduceMul, Nat.reduceLeDiff, Nat.zero_add, Nat.add_zero, Option.map_some, Int.reduceEq, Int.reduceLT, Int.reduceLE, Bool.false_eq_true, decide_true, decide_false, ge_iff_le, gt_iff_lt, set_get']; rfl) ?_))))
  show Wc _ _ _ _
  have hg3 : ((h.new (.cells x.cells true 0)).new (.cells y.cells true 0)).get (h.next + 1) = some (.cells y.cells true 0) := new_get' _ _
  have hg2 : ((h.new (.cells x.cells true 0)).new (.cells y.cells true 0)).get h.next = some (.cells x.cells true 0) := by rw [new_get_ne' _ _ (by rw [new_next]; omega), new_get']
  have hk : Kept h ((h.new (.cells x.cells true 0)).new (.cells y.cells true 0)) := ((Kept.refl h).new _).new _
  have hn1 : ((h.new (.cells x.cells true 0)).new (.cells y.cells true 0)).next = h.next + 2 := rfl
  generalize (h.new (.cells x.cells true 0)).new (.cells y.cells true 0) = h1 at hg2 hg3 hk hn1 ⊢
  have hx1 := hx.keep hk
  have hy1 := hy.keep hk
  have out : ∀ (e' : Env) (hp' : Heap), e' 4 = .bool true → ((Ex.ret = .normal ∨ Ex.ret = .ret) ∧ some ([] : List Dfr) = some [] ∧ ∃ vs, resAll e' hp' [.tmp 4] = some vs ∧ Out.ret (tup vs) = .ret (.bool true)) := by
    intro e' hp' h4
    exact ⟨.inr rfl, rfl, [.bool true], by simp only [resAll, resV, h4], rfl⟩
  have lx : ∀ {hq : Heap}, Kept h1 hq → hq.cells h.next 0 3 = some x.cells := fun hkq => cells_all (by rw [hkq.get _ (by omega)]; exact hg2) rfl
  have ly : ∀ {hq : Heap}, Kept h1 hq → hq.cells (h.next + 1) 0 3 = some y.cells := fun hkq => cells_all (by rw [hkq.get _ (by omega)]; exact hg3) rfl
  refine Wc_seq (Wc_seq (Wc_ops (Wo_call (wake7 ?_))))
  show Wo _ _ _ _
  refine (Wo_run (fun call => by simp only [List.drop_succ_cons, List.drop_zero, iops_nil, iops_op, iops_grd, iK_some, iG_true, iG_false, gval_bool, beq_true, beq_false, Bool.not_true, Bool.not_false, iop, ev, upd, dstUpd, binV, binI, unV, ptr, Heap.cell, Heap.write, cellsOf, put, args0, partL, List.getD_cons_zero, List.getD_cons_succ, List.length_cons, List.length_nil, List.set_cons_zero, List.set_cons_succ, List.getElem?_cons_zero, List.getElem?_cons_succ, reduceIte, Nat.reduceEqDiff, Nat.reduceAdd, Nat.reduceMul, Nat.reduceLeDiff, Nat.zero_add, Nat.add_zero, Option.map_some, Int.reduceEq, Int.reduceLT, Int.reduceLE, Bool.false_eq_true, decide_true, decide_false, ge_iff_le, gt_iff_lt, set_get']; rfl) ?_)
  show Wc _ _ _ _
  refine Wc_cond false (by simp [ev, upd]) (fun h => by cases h) (fun _ => Wc_skip ?_)
  show Wc _ _ _ _
  refine Wc_seq (Wc_seq (Wc_ops (Wo_op (iop_load (b := h.next) (o := 0) (cs := x.cells) (by simp only [upd, dstUpd, reduceIte, Nat.reduceEqDiff, ptr]) (lx (.refl _))) (Wo_call ?_))))
  show Wk _ (.fn 8) [.agg x.cells.toArray] h1 _
  refine (few8 T1_8 T1_20 x h1 hx1 hsx hbx).mono fun o h2 ⟨hk2, ho2⟩ => ?_
  subst ho2
  show Wo _ _ _ _
  by_cases hfx : x.size ≤ 2000
  case neg =>
    refine (Wo_run (fun call => by simp only [List.drop_succ_cons, List.drop_zero, iops_nil, iops_op, iops_grd, iK_some, iG_true, iG_false, gval_bool, beq_true, beq_false, Bool.not_true, Bool.not_false, iop, ev, upd, dstUpd, binV, binI, unV, ptr, Heap.cell, Heap.write, cellsOf, put, args0, partL, List.getD_cons_zero, List.getD_cons_succ, List.length_cons, List.length_nil, List.set_cons_zero, List.set_cons_succ, List.getElem?_cons_zero, List.getElem?_cons_succ, reduceIte, Nat.reduceEqDiff, Nat.reduceAdd, Nat.reduceMul, Nat.reduceLeDiff, Nat.zero_add, Nat.add_zero, Option.map_some, Int.reduceEq, Int.reduceLT, Int.reduceLE, Bool.false_eq_true, decide_true, decide_false, ge_iff_le, gt_iff_lt, set_get', hfx]; rfl) ?_)
    show Wc _ _ _ _
    refine Wc_cond true (by simp [ev, upd]) (fun _ => ?_) (fun h => by cases h)
    refine Wc_seq (Wc_ops (Wo_run (fun call => by simp only [List.drop_succ_cons, List.drop_zero, iops_nil, iops_op, iops_grd, iK_some, iG_true, iG_false, gval_bool, beq_true, beq_false, Bool.not_true, Bool.not_false, iop, ev, upd, dstUpd, binV, binI, unV, ptr, Heap.cell, Heap.write, cellsOf, put, args0, partL, List.getD_cons_zero, List.getD_cons_succ, List.length_cons, List.length_nil, List.set_cons_zero, List.set_cons_succ, List.getElem?_cons_zero, List.getElem?_cons_succ, reduceIte, Nat.reduceEqDiff, Nat.reduceAdd, Nat.reduceMul, Nat.reduceLeDiff, Nat.zero_add, Nat.add_zero, Option.map_some, Int.reduceEq, Int.reduceLT, Int.reduceLE, Bool.false_eq_true, decide_true, decide_false, ge_iff_le, gt_iff_lt, set_get']; rfl) ?_))
    exact Wc_ret (out _ _ (by simp [upd, dstUpd]))
  refine (Wo_pre 2 (fun call => by simp only [List.take_succ_cons, List.take_zero, List.drop_succ_cons, List.drop_zero, iops_nil, iops_op, iops_grd, iK_some, iG_true, iG_false, gval_bool, beq_true, beq_false, Bool.not_true, Bool.not_false, iop, ev, upd, dstUpd, binV, binI, unV, ptr, Heap.cell, Heap.write, cellsOf, put, args0, partL, List.getD_cons_zero, List.getD_cons_succ, List.length_cons, List.length_nil, List.set_cons_zero, List.set_cons_succ, List.getElem?_cons_zero, List.getElem?_cons_succ, reduceIte, Nat.reduceEqDiff, Nat.reduceAdd, Nat.reduceMul, Nat.reduceLeDiff, Nat.zero_add, Nat.add_zero, Option.map_some, Int.reduceEq, Int.reduceLT, Int.reduceLE, Bool.false_eq_true, decide_true, decide_false, ge_iff_le, gt_iff_lt, set_get', hfx]; rfl) ?_)
  refine Wo_take (by simp only [dstUpd, upd, reduceIte, Nat.reduceEqDiff, gval_bool]; rfl) (Wo_op (iop_load (b := h.next + 1) (o := 0) (cs := y.cells) (by simp only [upd, dstUpd, reduceIte, Nat.reduceEqDiff, ptr]) (ly hk2)) ?_)
  refine Wo_take (by simp only [dstUpd, upd, reduceIte, Nat.reduceEqDiff, gval_bool]; rfl) (Wo_call ?_)
  show Wk _ (.fn 8) [.agg y.cells.toArray] h2 _
  refine (few8 T1_8 T1_20 y h2 (hy1.keep hk2) hsy hby).mono fun o h3 ⟨hk3, ho3⟩ => ?_
  subst ho3
  show Wo _ _ _ _
  by_cases hfy : y.size ≤ 2000
  case neg =>
    refine (Wo_run (fun call => by simp only [List.drop_succ_cons, List.drop_zero, iops_nil, iops_op, iops_grd, iK_some, iG_true, iG_false, gval_bool, beq_true, beq_false, Bool.not_true, Bool.not_false, iop, ev, upd, dstUpd, binV, binI, unV, ptr, Heap.cell, Heap.write, cellsOf, put, args0, partL, List.getD_cons_zero, List.getD_cons_succ, List.length_cons, List.length_nil, List.set_cons_zero, List.set_cons_succ, List.getElem?_cons_zero, List.getElem?_cons_succ, reduceIte, Nat.reduceEqDiff, Nat.reduceAdd, Nat.reduceMul, Nat.reduceLeDiff, Nat.zero_add, Nat.add_zero, Option.map_some, Int.reduceEq, Int.reduceLT, Int.reduceLE, Bool.false_eq_true, decide_true, decide_false, ge_iff_le, gt_iff_lt, set_get', hfy]; rfl) ?_)
    show Wc _ _ _ _
    refine Wc_cond true (by simp [ev, upd]) (fun _ => ?_) (fun h => by cases h)
    refine Wc_seq (Wc_ops (Wo_run (fun call => by simp only [List.drop_succ_cons, List.drop_zero, iops_nil, iops_op, iops_grd, iK_some, iG_true, iG_false, gval_bool, beq_true, beq_false, Bool.not_true, Bool.not_false, iop, ev, upd, dstUpd, binV, binI, unV, ptr, Heap.cell, Heap.write, cellsOf, put, args0, partL, List.getD_cons_zero, List.getD_cons_succ, List.length_cons, List.length_nil, List.set_cons_zero, List.set_cons_succ, List.getElem?_cons_zero, List.getElem?_cons_succ, reduceIte, Nat.reduceEqDiff, Nat.reduceAdd, Nat.reduceMul, Nat.reduceLeDiff, Nat.zero_add, Nat.add_zero, Option.map_some, Int.reduceEq, Int.reduceLT, Int.reduceLE, Bool.false_eq_true, decide_true, decide_false, ge_iff_le, gt_iff_lt, set_get']; rfl) ?_))
    exact Wc_ret (out _ _ (by simp [upd, dstUpd]))
  refine (Wo_run (fun call => by simp only [List.drop_succ_cons, List.drop_zero, iops_nil, iops_op, iops_grd, iK_some, iG_true, iG_false, gval_bool, beq_true, beq_false, Bool.not_true, Bool.not_false, iop, ev, upd, dstUpd, binV, binI, unV, ptr, Heap.cell, Heap.write, cellsOf, put, args0, partL, List.getD_cons_zero, List.getD_cons_succ, List.length_cons, List.length_nil, List.set_cons_zero, List.set_cons_succ, List.getElem?_cons_zero, List.getElem?_cons_succ, reduceIte, Nat.reduceEqDiff, Nat.reduceAdd, Nat.reduceMul, Nat.reduceLeDiff, Nat.zero_add, Nat.add_zero, Option.map_some, Int.reduceEq, Int.reduceLT, Int.reduceLE, Bool.false_eq_true, decide_true, decide_false, ge_iff_le, gt_iff_lt, set_get', hfy]; rfl) ?_)
  show Wc _ _ _ _
  refine Wc_cond false (by simp [ev, upd]) (fun h => by cases h) (fun _ => Wc_skip ?_)
  show Wc _ _ _ _
  have hk13 : Kept h1 h3 := hk2.trans hk3
  have hn3 : h.next + 1 < h3.next := by have := hk13.next; omega
  have s18 : ∀ {hq : Heap} (u v : Cod), u.Ok hq → v.Ok hq → u.small → Wk T1 (.fn 18) [.agg u.cells.toArray, .agg v.cells.toArray] hq (fun o h' => Kept hq h' ∧ o = .ret (.bool (decide (u.key = v.key)))) := fun u v hu hv hs => same18 T1_18 T1_32 T1_33 T1_34 T1_35 T1_36 u v _ hu hv hs
  have comm : decide (y.key = x.key) = decide (x.key = y.key) := by rw [decide_eq_decide]; exact ⟨Eq.symm, Eq.symm⟩
  have bx' : ∀ {e : Env}, e 2 = ptr h.next 0 → Below h3.next (locOp (.load (some 3) (.t 2)) e) := fun h2 => by simp only [locOp, ev, h2, ptr, Below]; omega
  have by' : ∀ {e : Env}, e 3 = ptr (h.next + 1) 0 → Below h3.next (locOp (.load (some 3) (.t 3)) e) := fun h2 => by simp only [locOp, ev, h2, ptr, Below]; omega
  refine Wc_seq (Wc_drawK ?_)
  refine WdK_R rfl (iop_load (b := h.next) (o := 0) (cs := x.cells) (by simp only [upd, dstUpd, reduceIte, Nat.reduceEqDiff, ptr]) (lx hk13)) (bx' (by simp only [upd, dstUpd, reduceIte, Nat.reduceEqDiff, ptr])) ?_
  refine WdK_R rfl (iop_load (b := h.next + 1) (o := 0) (cs := y.cells) (by simp only [upd, dstUpd, reduceIte, Nat.reduceEqDiff, ptr]) (ly hk13)) (by' (by simp only [upd, dstUpd, reduceIte, Nat.reduceEqDiff, ptr])) ?_
  refine WdK_call ?_
  show Wk _ (.fn 18) [.agg x.cells.toArray, .agg y.cells.toArray] h3 _
  refine (s18 x y (hx1.keep hk13) (hy1.keep hk13) hsx).mono fun o h4 ⟨hk4, ho4⟩ => ?_
  subst ho4
  refine ⟨hk4, ?_⟩
  have hk14 := hk13.trans hk4
  refine WdK_R rfl (iop_load (b := h.next) (o := 0) (cs := x.cells) (by simp only [upd, dstUpd, reduceIte, Nat.reduceEqDiff, ptr]) (lx hk14)) (bx' (by simp only [upd, dstUpd, reduceIte, Nat.reduceEqDiff, ptr])) ?_
  refine WdK_R rfl (iop_load (b := h.next + 1) (o := 0) (cs := y.cells) (by simp only [upd, dstUpd, reduceIte, Nat.reduceEqDiff, ptr]) (ly hk14)) (by' (by simp only [upd, dstUpd, reduceIte, Nat.reduceEqDiff, ptr])) ?_
  refine WdK_call ?_
  show Wk _ (.fn 19) [.agg x.cells.toArray, .agg y.cells.toArray] h4 _
  refine (same19 T1_19 T1_37 x y h4 (hx1.keep hk14) (hy1.keep hk14) hsx).mono fun o h5 ⟨hk5, ho5⟩ => ?_
  subst ho5
  refine ⟨hk5, ?_⟩
  have hk15 := hk14.trans hk5
  refine WdK_P (v := .bool true) rfl (by simp [iop, ev, dstUpd, upd]) ?_
  refine WdK_P rfl rfl ?_
  refine WdK_take (by simp only [dstUpd, upd, reduceIte, Nat.reduceEqDiff, gval_bool]; rfl) (WdK_R rfl (iop_load (b := h.next) (o := 0) (cs := x.cells) (by simp only [upd, dstUpd, reduceIte, Nat.reduceEqDiff, ptr]) (lx hk15)) (bx' (by simp only [upd, dstUpd, reduceIte, Nat.reduceEqDiff, ptr])) ?_)
  refine WdK_take (by simp only [dstUpd, upd, reduceIte, Nat.reduceEqDiff, gval_bool]; rfl) (WdK_R rfl (iop_load (b := h.next) (o := 0) (cs := x.cells) (by simp only [upd, dstUpd, reduceIte, Nat.reduceEqDiff, ptr]) (lx hk15)) (bx' (by simp only [upd, dstUpd, reduceIte, Nat.reduceEqDiff, ptr])) ?_)
  refine WdK_take (by simp only [dstUpd, upd, reduceIte, Nat.reduceEqDiff, gval_bool]; rfl) (WdK_call ?_)
  show Wk _ (.fn 18) [.agg x.cells.toArray, .agg x.cells.toArray] h5 _
  refine (s18 x x (hx1.keep hk15) (hx1.keep hk15) hsx).mono fun o h6 ⟨hk6, ho6⟩ => ?_
  subst ho6
  refine ⟨hk6, ?_⟩
  have hk16 := hk15.trans hk6
  refine WdK_P (v := .bool true) rfl (by simp [iop, ev, dstUpd, upd]) ?_
  refine WdK_P rfl rfl ?_
  refine WdK_take (by simp only [dstUpd, upd, reduceIte, Nat.reduceEqDiff, gval_bool]; rfl) (WdK_R rfl (iop_load (b := h.next) (o := 0) (cs := x.cells) (by simp only [upd, dstUpd, reduceIte, Nat.reduceEqDiff, ptr]) (lx hk16)) (bx' (by simp only [upd, dstUpd, reduceIte, Nat.reduceEqDiff, ptr])) ?_)
  refine WdK_take (by simp only [dstUpd, upd, reduceIte, Nat.reduceEqDiff, gval_bool]; rfl) (WdK_R rfl (iop_load (b := h.next + 1) (o := 0) (cs := y.cells) (by simp only [upd, dstUpd, reduceIte, Nat.reduceEqDiff, ptr]) (ly hk16)) (by' (by simp only [upd, dstUpd, reduceIte, Nat.reduceEqDiff, ptr])) ?_)
  refine WdK_take (by simp only [dstUpd, upd, reduceIte, Nat.reduceEqDiff, gval_bool]; rfl) (WdK_call ?_)
  show Wk _ (.fn 18) [.agg x.cells.toArray, .agg y.cells.toArray] h6 _
  refine (s18 x y (hx1.keep hk16) (hy1.keep hk16) hsx).mono fun o h7 ⟨hk7, ho7⟩ => ?_
  subst ho7
  refine ⟨hk7, ?_⟩
  have hk17 := hk16.trans hk7
  refine WdK_take (by simp only [dstUpd, upd, reduceIte, Nat.reduceEqDiff, gval_bool]; rfl) (WdK_R rfl (iop_load (b := h.next + 1) (o := 0) (cs := y.cells) (by simp only [upd, dstUpd, reduceIte, Nat.reduceEqDiff, ptr]) (ly hk17)) (by' (by simp only [upd, dstUpd, reduceIte, Nat.reduceEqDiff, ptr])) ?_)
  refine WdK_take (by simp only [dstUpd, upd, reduceIte, Nat.reduceEqDiff, gval_bool]; rfl) (WdK_R rfl (iop_load (b := h.next) (o := 0) (cs := x.cells) (by simp only [upd, dstUpd, reduceIte, Nat.reduceEqDiff, ptr]) (lx hk17)) (bx' (by simp only [upd, dstUpd, reduceIte, Nat.reduceEqDiff, ptr])) ?_)
  refine WdK_take (by simp only [dstUpd, upd, reduceIte, Nat.reduceEqDiff, gval_bool]; rfl) (WdK_call ?_)
  show Wk _ (.fn 18) [.agg y.cells.toArray, .agg x.cells.toArray] h7 _
  refine (s18 y x (hy1.keep hk17) (hx1.keep hk17) hsy).mono fun o h8 ⟨hk8, ho8⟩ => ?_
  subst ho8
  refine ⟨hk8, ?_⟩
  refine WdK_take (by simp only [dstUpd, upd, reduceIte, Nat.reduceEqDiff, gval_bool]; rfl) (WdK_P (v := .bool true) rfl (by simp [iop, ev, dstUpd, upd, comm]) ?_)
  refine WdK_P (v := .bool true) rfl (by simp [iop, ev, dstUpd, upd]) ?_
  refine WdK_P rfl rfl ?_
  refine WdK_nil ?_
  show Wc _ _ _ _
  exact Wc_ret (out _ _ (by simp [upd, dstUpd, ev]))

end Go.Idl
end

section
/- Functions and code as they come in. -/
namespace Go.Idl
set_option linter.unusedVariables false
set_option linter.unusedSimpArgs false

/-- A row of things that come in. -/
theorem rows_of_lays {α H : Type} {cells : α → List Value} {inner : Heap → α → Prop} {td : TD} {h : Heap} {wt : α → Nat} (hne : ∀ x : α, cells x ≠ [])
    (hone : ∀ {d : DataW H} {vs : List Value}, Lays h td d vs → ∃ x : α, vs = cells x ∧ inner h x ∧ ∀ f : DataW H → Nat, Meas f → wt x ≤ f d)
    {d : DataW H} {vs : List Value} (hl : Lays h (.sl td) d vs) : ∃ l v, vs = [v] ∧ rowsAt cells inner h v l ∧ l.length ≤ maxLen ∧ ∀ f : DataW H → Nat, Meas f → (l.map wt).sum ≤ f d := by
  rw [Lays] at hl
  rcases hl with ⟨_, rfl⟩ | ⟨ds, spare, b, rfl, hb, hm, rfl, hcs⟩
  · exact ⟨[], _, rfl, ⟨.inl ⟨rfl, rfl⟩, by simp⟩, by simp, by simp⟩
  · rcases hcs with ⟨rfl, _⟩ | ⟨cs, hg, he⟩
    · exact ⟨[], _, rfl, ⟨.inr ⟨b, _, rfl, hb, .inl rfl⟩, by simp⟩, by simp, by simp⟩
    · have key : ∀ (ds : List (DataW H)) (cs : List Value), LaysEach (Lays h td) ds cs → ∃ l : List α, cs = l.flatMap cells ∧ l.length = ds.length ∧ (∀ x ∈ l, inner h x) ∧ ∀ f : DataW H → Nat, Meas f → (l.map wt).sum ≤ (ds.map f).sum := by
        intro ds
        induction ds with
        | nil => intro cs hc; exact ⟨[], hc, rfl, by simp, by simp⟩
        | cons d ds ih =>
          intro cs hc
          obtain ⟨a, b, rfl, h1, h2⟩ := hc
          obtain ⟨l, rfl, h3, h4, h5⟩ := ih b h2
          obtain ⟨x, rfl, hx, hw⟩ := hone h1
          refine ⟨x :: l, by simp, by simp [h3], fun y hy => ?_, fun f hf => ?_⟩
          · rcases List.mem_cons.1 hy with rfl | hy
            · exact hx
            · exact h4 y hy
          · have := h5 f hf
            have := hw f hf
            simp only [List.map_cons, List.sum_cons]; omega
      obtain ⟨l, rfl, h1, h2, h3⟩ := key ds cs he
      exact ⟨l, _, rfl, ⟨.inr ⟨b, _, by rw [h1], hb, .inr ⟨_, _, hg⟩⟩, h2⟩, by omega, fun f hf => Nat.le_trans (h3 f hf) (hf.sl _ _)⟩

def fnTD : TD := .st (.cons .str (.cons (.int .i64) (.cons (.int .i64) (.cons (.sl insTD) .nil))))
def codTD : TD := .st (.cons (.sl fnTD) (.cons (.int .i64) (.cons (.int .i64) .nil)))

def insW (x : Ins) : Nat := 1 + x.l.length
def fnW (f : Fn) : Nat := 1 + f.name.size + (f.code.map insW).sum
def codW (c : Cod) : Nat := (c.funcs.map fnW).sum

theorem fn_of_lays {H : Type} {h : Heap} {d : DataW H} {vs : List Value} (hl : Lays h fnTD d vs) : ∃ x : Fn, vs = x.cells ∧ x.Ok h ∧ ∀ f : DataW H → Nat, Meas f → fnW x ≤ f d := by
  unfold fnTD at hl
  rw [Lays] at hl
  obtain ⟨ds, rfl, hl⟩ := hl
  simp only [LaysL] at hl
  obtain ⟨d1, r1, a1, b1, rfl, rfl, h1, d2, r2, a2, b2, rfl, rfl, h2, d3, r3, a3, b3, rfl, rfl, h3, d4, r4, a4, b4, rfl, rfl, h4, rfl, rfl⟩ := hl
  simp only [Lays] at h1 h2 h3
  obtain ⟨s, hs, rfl, rfl⟩ := h1
  obtain ⟨n2, rfl, w2, rfl⟩ := h2
  obtain ⟨n3, rfl, w3, rfl⟩ := h3
  obtain ⟨l, v, rfl, hr, hm, hw⟩ := rows_of_lays (cells := Ins.cells) (inner := insIn) (wt := insW) (fun x => by simp [Ins.cells]) (fun hl => let ⟨x, h1, h2, h3⟩ := ins_of_lays hl; ⟨x, h1, h2, h3⟩) h4
  refine ⟨⟨s, n2, n3, l, v⟩, by simp [Fn.cells], ⟨hr, hm, hs, wf64 w2, wf64 w3⟩, fun f hf => ?_⟩
  have a1 := hw f hf
  have a2 := hf.str s.data.toList
  have a3 := hf.agg [.lit (.string s.data.toList), .lit (.int .i64 n2), .lit (.int .i64 n3), d4]
  have a4 : s.data.toList.length = s.size := by rw [Array.length_toList]; rfl
  simp only [List.map_cons, List.map_nil, List.sum_cons, List.sum_nil] at a3
  show 1 + s.size + (l.map insW).sum ≤ _
  omega

theorem cod_of_lays {H : Type} {h : Heap} {d : DataW H} {vs : List Value} (hl : Lays h codTD d vs) : ∃ x : Cod, vs = x.cells ∧ x.Ok h ∧ ∀ f : DataW H → Nat, Meas f → codW x ≤ f d := by
  unfold codTD at hl
  rw [Lays] at hl
  obtain ⟨ds, rfl, hl⟩ := hl
  simp only [LaysL] at hl
  obtain ⟨d1, r1, a1, b1, rfl, rfl, h1, d2, r2, a2, b2, rfl, rfl, h2, d3, r3, a3, b3, rfl, rfl, h3, rfl, rfl⟩ := hl
  simp only [Lays] at h2 h3
  obtain ⟨n2, rfl, w2, rfl⟩ := h2
  obtain ⟨n3, rfl, w3, rfl⟩ := h3
  obtain ⟨l, v, rfl, hr, hm, hw⟩ := rows_of_lays (cells := Fn.cells) (inner := fnIn) (wt := fnW) (fun x => by simp [Fn.cells]) (fun hl => let ⟨x, h1, h2, h3⟩ := fn_of_lays hl; ⟨x, h1, h2, h3⟩) h1
  refine ⟨⟨l, v, n2, n3⟩, by simp [Cod.cells], ⟨hr, hm, wf64 w2, wf64 w3⟩, fun f hf => ?_⟩
  have a1 := hw f hf
  have a3 := hf.agg [d1, .lit (.int .i64 n2), .lit (.int .i64 n3)]
  simp only [List.map_cons, List.map_nil, List.sum_cons, List.sum_nil] at a3
  show (l.map fnW).sum ≤ _
  omega

theorem insW_sum (l : List Ins) : (l.map insW).sum = l.length + insSize l := by
  induction l with
  | nil => rfl
  | cons x l ih => simp only [insSize, List.map_cons, List.sum_cons, insW, List.length_cons] at ih ⊢; omega
theorem mem_le_sum : ∀ {l : List Nat} {a : Nat}, a ∈ l → a ≤ l.sum
  | b :: l, a, h => by
    simp only [List.sum_cons]
    rcases List.mem_cons.1 h with rfl | h
    · omega
    · have := mem_le_sum h; omega
theorem fnW_size (f : Fn) : fnSize f ≤ fnW f ∧ f.code.length ≤ fnW f ∧ ∀ x ∈ f.code, x.l.length ≤ fnW f := by
  have h1 := insW_sum f.code
  refine ⟨by unfold fnSize fnW; omega, by unfold fnW; omega, fun x hx => ?_⟩
  have : x.l.length ≤ insSize f.code := mem_le_sum (List.mem_map.2 ⟨x, hx, rfl⟩)
  unfold fnW; omega
theorem codW_size (c : Cod) : c.size ≤ codW c ∧ c.funcs.length ≤ codW c ∧ ∀ f ∈ c.funcs, fnW f ≤ codW c := by
  have key : ∀ l : List Fn, fnsSize l ≤ (l.map fnW).sum ∧ l.length ≤ (l.map fnW).sum ∧ ∀ f ∈ l, fnW f ≤ (l.map fnW).sum := by
    intro l
    induction l with
    | nil => exact ⟨by simp [fnsSize], by simp, by simp⟩
    | cons f l ih =>
      obtain ⟨a, b, c⟩ := ih
      have := fnW_size f
      have h1 : 1 ≤ fnW f := by unfold fnW; omega
      refine ⟨by simp only [fnsSize, List.map_cons, List.sum_cons] at a ⊢; omega, by simp only [List.map_cons, List.sum_cons, List.length_cons]; omega, fun g hg => ?_⟩
      simp only [List.map_cons, List.sum_cons]
      rcases List.mem_cons.1 hg with rfl | hg
      · omega
      · have := c g hg; omega
  exact key c.funcs
theorem cod_small {c : Cod} (h : codW c < 4611686018427387904) : c.small := by
  obtain ⟨a, b, d⟩ := codW_size c
  refine ⟨by unfold Idl.small; omega, fun f hf => ?_⟩
  have h1 := d f hf
  obtain ⟨_, h3, h4⟩ := fnW_size f
  exact ⟨by unfold Idl.small; omega, fun x hx => by have := h4 x hx; unfold Idl.small; omega⟩

end Go.Idl
end

section
/- The checker's must; letters of a text. -/
namespace Go.Idl
set_option linter.unusedVariables false
set_option linter.unusedSimpArgs false
set_option maxRecDepth 100000

/-- The checker's cells. -/
def mCells (c : Cod) (n at' : Nat) (mb : Nat) : List Value := [c.fv, .int .i64 c.main, .int .i64 c.merges, .int .i64 n, .int .i64 at', .map (some mb)]
def wrongV (n at' : Nat) : Value := .iface 47 (.agg #[.int .i64 n, .int .i64 at'])

/-- It throws, or not. -/
def mustO (n at' : Nat) (b : Bool) : Out := if b then .ret (.tuple #[]) else .pan (wrongV n at')

theorem must38 {T : Tbl} (hT : T.fn 38 = some C38) {h : Heap} {c : Cod} {n at' bm mb : Nat} (b : Bool) (hg : h.get bm = some (.cells (mCells c n at' mb) true 0)) : Wk T (.fn 38) [ptr bm 0, .bool b] h (fun o h' => h' = h ∧ o = mustO n at' b) := by
  refine Wk_fn2 hT (by simp [C38]) ?_
  simp only [C38]
  refine Wc_seq (Wc_ops (Wo_run (fun call => by simp only [List.drop_succ_cons, List.drop_zero, iops_nil, iops_op, iops_grd, iK_some, iG_true, iG_false, gval_bool, beq_true, beq_false, Bool.not_true, Bool.not_false, iop, ev, upd, dstUpd, binV, binI, unV, ptr, Heap.cell, Heap.write, cellsOf, put, args0, partL, List.getD_cons_zero, List.getD_cons_succ, List.length_cons, List.length_nil, List.set_cons_zero, List.set_cons_succ, List.getElem?_cons_zero, List.getElem?_cons_succ, reduceIte, Nat.reduceEqDiff, Nat.reduceAdd, Nat.reduceMul, Nat.reduceLeDiff, Nat.zero_add, Nat.add_zero, Option.map_some, Int.reduceEq, Int.reduceLT, Int.reduceLE, Bool.false_eq_true, decide_true, decide_false, ge_iff_le, gt_iff_lt, set_get']; rfl) ?_))
  show Wc T _ _ _
  cases b with
  | true =>
    refine Wc_cond false (by simp [ev, upd]) (fun h => by cases h) (fun _ => Wc_skip ?_)
    exact ⟨rfl, [], rfl, rfl, rfl⟩
  | false =>
    refine Wc_cond true (by simp [ev, upd]) (fun _ => ?_) (fun h => by cases h)
    refine Wc_draw_panic 10 rfl (by decide) (fun call => by simp only [List.take_succ_cons, List.take_zero, iops_nil, iops_op, iK_some, iop, ev, upd, dstUpd, ptr, Heap.cell, args0, Nat.reduceEqDiff, reduceIte, Nat.zero_add, Option.map_some, hg, mCells, List.getElem?_cons_zero, List.getElem?_cons_succ, List.getD_cons_zero, evps, List.map_cons, List.map_nil, fillL, cellsOf, List.length_cons, List.length_nil, put, Nat.reduceAdd, Nat.reduceLeDiff, and_self, List.set_cons_zero, List.set_cons_succ]; rfl) rfl ?_
    exact ⟨rfl, rfl, rfl⟩

/-- A call of must at the end of a row. -/
theorem Wo_must {T : Tbl} (hT : T.fn 38 = some C38) {a b : Opd} {dst : Option Nat} {l : List Step} {e : Env} {hp : Heap} {d : Option (List Dfr)} {Q : Option Value → St → Prop} {c : Cod} {n at' bm mb : Nat} (p : Bool) (hg : hp.get bm = some (.cells (mCells c n at' mb) true 0)) (ha : ev e a = ptr bm 0) (hb : ev e b = .bool p)
    (h1 : p = true → Wo T l ⟨dstUpd e dst (.tuple #[]), hp, d⟩ Q) (h2 : p = false → Q (some (wrongV n at')) ⟨e, hp, d⟩) : Wo T (⟨dst, .call 38 [a, b], none⟩ :: l) ⟨e, hp, d⟩ Q := by
  refine Wo_call ?_
  simp only [List.map_cons, List.map_nil, ha, hb]
  refine (must38 hT p hg).mono fun o h' ⟨e1, e2⟩ => ?_
  subst e1 e2
  cases p with
  | true => exact h1 rfl
  | false => exact h2 rfl

theorem strB_append (a b : List UInt8) : (⟨a.toArray⟩ : ByteArray) ++ (⟨b.toArray⟩ : ByteArray) = ⟨(a ++ b).toArray⟩ := by
  apply ByteArray.ext
  simp [ByteArray.data_append]

theorem hasRune45 {T : Tbl} (hT : T.fn 45 = some C45) (l : List UInt8) (hl : ∀ c ∈ l, c.toNat < 128) (c : UInt8) (h : Heap) : Wk T (.fn 45) [.string ⟨l.toArray⟩, .int .i32 c.toNat] h (fun o h' => Kept h h' ∧ o = .ret (.bool (l.contains c))) := by
  refine Wk_fn hT (by simp [C45]) ?_
  simp only [C45]
  refine Wc_seq (Wc_ops (Wo_run (fun call => by simp only [List.drop_succ_cons, List.drop_zero, iops_nil, iops_op, iops_grd, iK_some, iG_true, iG_false, gval_bool, beq_true, beq_false, Bool.not_true, Bool.not_false, iop, ev, upd, dstUpd, binV, binI, unV, ptr, Heap.cell, Heap.write, cellsOf, put, args0, partL, List.getD_cons_zero, List.getD_cons_succ, List.length_cons, List.length_nil, List.set_cons_zero, List.set_cons_succ, List.getElem?_cons_zero, List.getElem?_cons_succ, reduceIte, Nat.reduceEqDiff, Nat.reduceAdd, Nat.reduceMul, Nat.reduceLeDiff, Nat.zero_add, Nat.add_zero, Option.map_some, Int.reduceEq, Int.reduceLT, Int.reduceLE, Bool.false_eq_true, decide_true, decide_false, ge_iff_le, gt_iff_lt, set_get']; rfl) ?_))
  show Wc T _ _ _
  refine Wc_seq (Wc_seq (Wc_ops (Wo_run (fun call => by simp only [List.drop_succ_cons, List.drop_zero, iops_nil, iops_op, iops_grd, iK_some, iG_true, iG_false, gval_bool, beq_true, beq_false, Bool.not_true, Bool.not_false, iop, ev, upd, dstUpd, binV, binI, unV, ptr, Heap.cell, Heap.write, cellsOf, put, args0, partL, List.getD_cons_zero, List.getD_cons_succ, List.length_cons, List.length_nil, List.set_cons_zero, List.set_cons_succ, List.getElem?_cons_zero, List.getElem?_cons_succ, reduceIte, Nat.reduceEqDiff, Nat.reduceAdd, Nat.reduceMul, Nat.reduceLeDiff, Nat.zero_add, Nat.add_zero, Option.map_some, Int.reduceEq, Int.reduceLT, Int.reduceLE, Bool.false_eq_true, decide_true, decide_false, ge_iff_le, gt_iff_lt, set_get']; rfl) ?_)))
  show Wc T _ _ _
  have hg2 : (h.new (.siter ⟨l.toArray⟩ 0)).get h.next = some (.siter ⟨l.toArray⟩ 0) := new_get' _ _
  have hk2 : Kept h (h.new (.siter ⟨l.toArray⟩ 0)) := (Kept.refl h).new _
  generalize h.new (.siter ⟨l.toArray⟩ 0) = h2 at hg2 hk2 ⊢
  have hsz : (⟨l.toArray⟩ : ByteArray).size = l.length := by simp [ByteArray.size]
  refine Wc_block (Wc_loop (fun s => s.d = some [] ∧ Kept h s.h ∧ s.e 8 = ptr h.next 0 ∧ s.e 1 = .int .i32 c.toNat ∧ ∃ (k : Nat), k ≤ l.length ∧ s.h.get h.next = some (.siter ⟨l.toArray⟩ k) ∧ c ∉ l.take k)
    (fun s => match s.h.get h.next with | some (.siter _ k) => l.length - k | _ => 0) ?_ ?_)
  · exact ⟨rfl, hk2, by simp [upd, dstUpd, ptr], by simp [upd, dstUpd, args0], 0, Nat.zero_le _, hg2, by simp⟩
  rintro ⟨e, hp, d⟩ ⟨hd, hkp, g8, g1, k, hkl, gs, hn⟩
  simp only at hd hkp g8 g1 gs
  subst hd
  rw [C45L0]
  by_cases hend : k < l.length
  case neg =>
    have hkk : k = l.length := by omega
    have hlt : ¬ k < (⟨l.toArray⟩ : ByteArray).size := by rw [hsz]; exact hend
    refine Wc_seq (Wc_ops (Wo_run (fun call => by simp only [List.drop_succ_cons, List.drop_zero, iops_nil, iops_op, iops_grd, iK_some, iG_true, iG_false, gval_bool, beq_true, beq_false, Bool.not_true, Bool.not_false, iop, ev, upd, dstUpd, binV, binI, unV, ptr, Heap.cell, Heap.write, cellsOf, put, args0, partL, List.getD_cons_zero, List.getD_cons_succ, List.length_cons, List.length_nil, List.set_cons_zero, List.set_cons_succ, List.getElem?_cons_zero, List.getElem?_cons_succ, reduceIte, Nat.reduceEqDiff, Nat.reduceAdd, Nat.reduceMul, Nat.reduceLeDiff, Nat.zero_add, Nat.add_zero, Option.map_some, Int.reduceEq, Int.reduceLT, Int.reduceLE, Bool.false_eq_true, decide_true, decide_false, ge_iff_le, gt_iff_lt, set_get', g8, gs, hlt]; rfl) ?_))
    show Wc T _ _ _
    refine Wc_seq (Wc_cond false (by simp [ev, upd]) (fun h => by cases h) (fun _ => Wc_exit ?_))
    show Wc T _ _ _
    refine Wc_seq (Wc_ops (Wo_run (fun call => by simp only [List.drop_succ_cons, List.drop_zero, iops_nil, iops_op, iops_grd, iK_some, iG_true, iG_false, gval_bool, beq_true, beq_false, Bool.not_true, Bool.not_false, iop, ev, upd, dstUpd, binV, binI, unV, ptr, Heap.cell, Heap.write, cellsOf, put, args0, partL, List.getD_cons_zero, List.getD_cons_succ, List.length_cons, List.length_nil, List.set_cons_zero, List.set_cons_succ, List.getElem?_cons_zero, List.getElem?_cons_succ, reduceIte, Nat.reduceEqDiff, Nat.reduceAdd, Nat.reduceMul, Nat.reduceLeDiff, Nat.zero_add, Nat.add_zero, Option.map_some, Int.reduceEq, Int.reduceLT, Int.reduceLE, Bool.false_eq_true, decide_true, decide_false, ge_iff_le, gt_iff_lt, set_get']; rfl) ?_))
    refine Wc_ret ⟨.inr rfl, rfl, [.bool false], by simp [resAll, resV, upd, dstUpd], hkp, ?_⟩
    rw [hkk, List.take_length] at hn
    simp [tup, hn]
  obtain ⟨x, hx⟩ : ∃ x, l[k]? = some x := ⟨_, List.getElem?_eq_getElem hend⟩
  have hxm := List.mem_of_getElem? hx
  have hdec := decodeL hx (hl x hxm)
  have hlt : k < (⟨l.toArray⟩ : ByteArray).size := by rw [hsz]; exact hend
  refine Wc_seq (Wc_ops (Wo_run (fun call => by simp only [List.drop_succ_cons, List.drop_zero, iops_nil, iops_op, iops_grd, iK_some, iG_true, iG_false, gval_bool, beq_true, beq_false, Bool.not_true, Bool.not_false, iop, ev, upd, dstUpd, binV, binI, unV, ptr, Heap.cell, Heap.write, cellsOf, put, args0, partL, List.getD_cons_zero, List.getD_cons_succ, List.length_cons, List.length_nil, List.set_cons_zero, List.set_cons_succ, List.getElem?_cons_zero, List.getElem?_cons_succ, reduceIte, Nat.reduceEqDiff, Nat.reduceAdd, Nat.reduceMul, Nat.reduceLeDiff, Nat.zero_add, Nat.add_zero, Option.map_some, Int.reduceEq, Int.reduceLT, Int.reduceLE, Bool.false_eq_true, decide_true, decide_false, ge_iff_le, gt_iff_lt, set_get', g8, gs, hlt, hdec]; rfl) ?_))
  show Wc T _ _ _
  refine Wc_seq (Wc_cond true (by simp [ev, upd]) (fun _ => Wc_skip ?_) (fun h => by cases h))
  show Wc T _ _ _
  refine Wc_block (Wc_seq (Wc_ops (Wo_run (fun call => by simp only [List.drop_succ_cons, List.drop_zero, iops_nil, iops_op, iops_grd, iK_some, iG_true, iG_false, gval_bool, beq_true, beq_false, Bool.not_true, Bool.not_false, iop, ev, upd, dstUpd, binV, binI, unV, ptr, Heap.cell, Heap.write, cellsOf, put, args0, partL, List.getD_cons_zero, List.getD_cons_succ, List.length_cons, List.length_nil, List.set_cons_zero, List.set_cons_succ, List.getElem?_cons_zero, List.getElem?_cons_succ, reduceIte, Nat.reduceEqDiff, Nat.reduceAdd, Nat.reduceMul, Nat.reduceLeDiff, Nat.zero_add, Nat.add_zero, Option.map_some, Int.reduceEq, Int.reduceLT, Int.reduceLE, Bool.false_eq_true, decide_true, decide_false, ge_iff_le, gt_iff_lt, set_get']; rfl) ?_)))
  show Wc T _ _ _
  have hk3 : Kept h (hp.set h.next (.siter ⟨l.toArray⟩ (k + 1))) := hkp.set (Nat.le_refl _) _
  by_cases hxc : x = c
  · subst hxc
    refine Wc_seq (Wc_ops (Wo_run (fun call => by simp only [List.drop_succ_cons, List.drop_zero, iops_nil, iops_op, iops_grd, iK_some, iG_true, iG_false, gval_bool, beq_true, beq_false, Bool.not_true, Bool.not_false, iop, ev, upd, dstUpd, binV, binI, unV, ptr, Heap.cell, Heap.write, cellsOf, put, args0, partL, List.getD_cons_zero, List.getD_cons_succ, List.length_cons, List.length_nil, List.set_cons_zero, List.set_cons_succ, List.getElem?_cons_zero, List.getElem?_cons_succ, reduceIte, Nat.reduceEqDiff, Nat.reduceAdd, Nat.reduceMul, Nat.reduceLeDiff, Nat.zero_add, Nat.add_zero, Option.map_some, Int.reduceEq, Int.reduceLT, Int.reduceLE, Bool.false_eq_true, decide_true, decide_false, ge_iff_le, gt_iff_lt, set_get', g1, beq_self_eq_true]; rfl) ?_))
    show Wc T _ _ _
    refine Wc_cond true (by simp [ev, upd]) (fun _ => ?_) (fun h => by cases h)
    refine Wc_seq (Wc_ops (Wo_run (fun call => by simp only [List.drop_succ_cons, List.drop_zero, iops_nil, iops_op, iops_grd, iK_some, iG_true, iG_false, gval_bool, beq_true, beq_false, Bool.not_true, Bool.not_false, iop, ev, upd, dstUpd, binV, binI, unV, ptr, Heap.cell, Heap.write, cellsOf, put, args0, partL, List.getD_cons_zero, List.getD_cons_succ, List.length_cons, List.length_nil, List.set_cons_zero, List.set_cons_succ, List.getElem?_cons_zero, List.getElem?_cons_succ, reduceIte, Nat.reduceEqDiff, Nat.reduceAdd, Nat.reduceMul, Nat.reduceLeDiff, Nat.zero_add, Nat.add_zero, Option.map_some, Int.reduceEq, Int.reduceLT, Int.reduceLE, Bool.false_eq_true, decide_true, decide_false, ge_iff_le, gt_iff_lt, set_get']; rfl) ?_))
    refine Wc_ret ⟨.inr rfl, rfl, [.bool true], by simp [resAll, resV, upd, dstUpd], hk3, ?_⟩
    simp [tup, hxm]
  · have hne : ((x.toNat : Int) == (c.toNat : Int)) = false := by
      simp only [beq_eq_false_iff_ne, ne_eq]
      intro e
      exact hxc (UInt8.toNat_inj.1 (by omega))
    refine Wc_seq (Wc_ops (Wo_run (fun call => by simp only [List.drop_succ_cons, List.drop_zero, iops_nil, iops_op, iops_grd, iK_some, iG_true, iG_false, gval_bool, beq_true, beq_false, Bool.not_true, Bool.not_false, iop, ev, upd, dstUpd, binV, binI, unV, ptr, Heap.cell, Heap.write, cellsOf, put, args0, partL, List.getD_cons_zero, List.getD_cons_succ, List.length_cons, List.length_nil, List.set_cons_zero, List.set_cons_succ, List.getElem?_cons_zero, List.getElem?_cons_succ, reduceIte, Nat.reduceEqDiff, Nat.reduceAdd, Nat.reduceMul, Nat.reduceLeDiff, Nat.zero_add, Nat.add_zero, Option.map_some, Int.reduceEq, Int.reduceLT, Int.reduceLE, Bool.false_eq_true, decide_true, decide_false, ge_iff_le, gt_iff_lt, set_get', g1, hne]; rfl) ?_))
    show Wc T _ _ _
    refine Wc_cond false (by simp [ev, upd]) (fun h => by cases h) (fun _ => Wc_skip ?_)
    refine ⟨⟨rfl, hk3, by simp [upd, dstUpd, g8], by simp [upd, dstUpd, g1], k + 1, by omega, set_get' _ _ _, ?_⟩, ?_⟩
    · rw [List.take_add_one, hx]
      simp only [Option.toList, List.mem_append, List.mem_singleton, not_or]
      exact ⟨hn, fun e => hxc e.symm⟩
    · simp only [set_get', gs]; omega

theorem contains46 {T : Tbl} (h46 : T.fn 46 = some C46) (h59 : T.fn 59 = some C59) (h66 : T.fn 66 = some C66) (h68 : T.fn 68 = none) (hp : T.prim 68 = some idxP) (l : List UInt8) (hl : l.length ≤ 1000) (c : UInt8) (h : Heap) :
    Wk T (.fn 46) [.string ⟨l.toArray⟩, .string ⟨#[c]⟩] h (fun o h' => Kept h h' ∧ o = .ret (.bool (l.contains c))) := by
  have h3 : Wk T (.fn 66) [.string ⟨l.toArray⟩, .string ⟨#[c]⟩] h (fun o h' => Kept h h' ∧ ∃ n, o = .ret (.int .i64 n) ∧ decide (0 ≤ n) = l.contains c) := by
    refine Wk_fn h66 (by simp [C66]) ?_
    simp only [C66]
    refine Wc_seq (Wc_ops (Wo_run (fun call => by simp only [List.drop_succ_cons, List.drop_zero, iops_nil, iops_op, iops_grd, iK_some, iG_true, iG_false, gval_bool, beq_true, beq_false, Bool.not_true, Bool.not_false, iop, ev, upd, dstUpd, binV, binI, unV, ptr, Heap.cell, Heap.write, cellsOf, put, args0, partL, List.getD_cons_zero, List.getD_cons_succ, List.length_cons, List.length_nil, List.set_cons_zero, List.set_cons_succ, List.getElem?_cons_zero, List.getElem?_cons_succ, reduceIte, Nat.reduceEqDiff, Nat.reduceAdd, Nat.reduceMul, Nat.reduceLeDiff, Nat.zero_add, Nat.add_zero, Option.map_some, Int.reduceEq, Int.reduceLT, Int.reduceLE, Bool.false_eq_true, decide_true, decide_false, ge_iff_le, gt_iff_lt, set_get']; rfl) ?_))
    show Wc T _ _ _
    have hs1 : (⟨#[c]⟩ : ByteArray).size = 1 := rfl
    refine Wc_seq (Wc_ops (Wo_run (fun call => by simp only [List.drop_succ_cons, List.drop_zero, iops_nil, iops_op, iops_grd, iK_some, iG_true, iG_false, gval_bool, beq_true, beq_false, Bool.not_true, Bool.not_false, iop, ev, upd, dstUpd, binV, binI, unV, ptr, Heap.cell, Heap.write, cellsOf, put, args0, partL, List.getD_cons_zero, List.getD_cons_succ, List.length_cons, List.length_nil, List.set_cons_zero, List.set_cons_succ, List.getElem?_cons_zero, List.getElem?_cons_succ, reduceIte, Nat.reduceEqDiff, Nat.reduceAdd, Nat.reduceMul, Nat.reduceLeDiff, Nat.zero_add, Nat.add_zero, Option.map_some, Int.reduceEq, Int.reduceLT, Int.reduceLE, Bool.false_eq_true, decide_true, decide_false, ge_iff_le, gt_iff_lt, set_get', hs1]; rfl) ?_))
    show Wc T _ _ _
    by_cases heq : (⟨#[c]⟩ : ByteArray) = ⟨l.toArray⟩
    · have hlc : l = [c] := by
        have := congrArg (fun b : ByteArray => b.data.toList) heq
        simpa using this.symm
      have hd : decide ((⟨#[c]⟩ : ByteArray) = ⟨l.toArray⟩) = true := by simpa using heq
      refine Wc_seq (Wc_block (Wc_seq (Wc_ops (Wo_run (fun call => by simp only [List.drop_succ_cons, List.drop_zero, iops_nil, iops_op, iops_grd, iK_some, iG_true, iG_false, gval_bool, beq_true, beq_false, Bool.not_true, Bool.not_false, iop, ev, upd, dstUpd, binV, binI, unV, ptr, Heap.cell, Heap.write, cellsOf, put, args0, partL, List.getD_cons_zero, List.getD_cons_succ, List.length_cons, List.length_nil, List.set_cons_zero, List.set_cons_succ, List.getElem?_cons_zero, List.getElem?_cons_succ, reduceIte, Nat.reduceEqDiff, Nat.reduceAdd, Nat.reduceMul, Nat.reduceLeDiff, Nat.zero_add, Nat.add_zero, Option.map_some, Int.reduceEq, Int.reduceLT, Int.reduceLE, Bool.false_eq_true, decide_true, decide_false, ge_iff_le, gt_iff_lt, set_get', hd, hs1, Int.natCast_one, Int.reduceBEq]; rfl) ?_))))
      show Wc T _ _ _
      refine Wc_cond true (by simp [ev, upd]) (fun _ => ?_) (fun h => by cases h)
      refine Wc_seq (Wc_ops (Wo_run (fun call => by simp only [List.drop_succ_cons, List.drop_zero, iops_nil, iops_op, iops_grd, iK_some, iG_true, iG_false, gval_bool, beq_true, beq_false, Bool.not_true, Bool.not_false, iop, ev, upd, dstUpd, binV, binI, unV, ptr, Heap.cell, Heap.write, cellsOf, put, args0, partL, List.getD_cons_zero, List.getD_cons_succ, List.length_cons, List.length_nil, List.set_cons_zero, List.set_cons_succ, List.getElem?_cons_zero, List.getElem?_cons_succ, reduceIte, Nat.reduceEqDiff, Nat.reduceAdd, Nat.reduceMul, Nat.reduceLeDiff, Nat.zero_add, Nat.add_zero, Option.map_some, Int.reduceEq, Int.reduceLT, Int.reduceLE, Bool.false_eq_true, decide_true, decide_false, ge_iff_le, gt_iff_lt, set_get']; rfl) ?_))
      exact Wc_ret ⟨.inr rfl, rfl, [.int .i64 0], by simp [resAll, resV, upd, dstUpd], .refl _, 0, rfl, by simp [hlc]⟩
    have hd : decide ((⟨#[c]⟩ : ByteArray) = ⟨l.toArray⟩) = false := by simpa using heq
    refine Wc_seq (Wc_block (Wc_seq (Wc_ops (Wo_run (fun call => by simp only [List.drop_succ_cons, List.drop_zero, iops_nil, iops_op, iops_grd, iK_some, iG_true, iG_false, gval_bool, beq_true, beq_false, Bool.not_true, Bool.not_false, iop, ev, upd, dstUpd, binV, binI, unV, ptr, Heap.cell, Heap.write, cellsOf, put, args0, partL, List.getD_cons_zero, List.getD_cons_succ, List.length_cons, List.length_nil, List.set_cons_zero, List.set_cons_succ, List.getElem?_cons_zero, List.getElem?_cons_succ, reduceIte, Nat.reduceEqDiff, Nat.reduceAdd, Nat.reduceMul, Nat.reduceLeDiff, Nat.zero_add, Nat.add_zero, Option.map_some, Int.reduceEq, Int.reduceLT, Int.reduceLE, Bool.false_eq_true, decide_true, decide_false, ge_iff_le, gt_iff_lt, set_get', hd, hs1, Int.natCast_one, Int.reduceBEq]; rfl) ?_))))
    show Wc T _ _ _
    refine Wc_cond false (by simp [ev, upd]) (fun h => by cases h) (fun _ => ?_)
    refine Wc_seq (Wc_ops (Wo_run (fun call => by simp only [List.drop_succ_cons, List.drop_zero, iops_nil, iops_op, iops_grd, iK_some, iG_true, iG_false, gval_bool, beq_true, beq_false, Bool.not_true, Bool.not_false, iop, ev, upd, dstUpd, binV, binI, unV, ptr, Heap.cell, Heap.write, cellsOf, put, args0, partL, List.getD_cons_zero, List.getD_cons_succ, List.length_cons, List.length_nil, List.set_cons_zero, List.set_cons_succ, List.getElem?_cons_zero, List.getElem?_cons_succ, reduceIte, Nat.reduceEqDiff, Nat.reduceAdd, Nat.reduceMul, Nat.reduceLeDiff, Nat.zero_add, Nat.add_zero, Option.map_some, Int.reduceEq, Int.reduceLT, Int.reduceLE, Bool.false_eq_true, decide_true, decide_false, ge_iff_le, gt_iff_lt, set_get', Int.natCast_one, Int.reduceBEq]; rfl) ?_))
    show Wc T _ _ _
    refine Wc_cond true (by simp [ev, upd]) (fun _ => ?_) (fun h => by cases h)
    have hc0 : (⟨#[c]⟩ : ByteArray).data.toList[0]? = some c := rfl
    have hi : idxV (⟨#[c]⟩ : ByteArray).size (.int .i64 0) = some 0 := rfl
    refine Wc_seq (Wc_ops (Wo_pre 3 (fun call => by simp only [List.take_succ_cons, List.take_zero, List.drop_succ_cons, List.drop_zero, iops_nil, iops_op, iops_grd, iK_some, iG_true, iG_false, gval_bool, beq_true, beq_false, Bool.not_true, Bool.not_false, iop, ev, upd, dstUpd, binV, binI, unV, ptr, Heap.cell, Heap.write, cellsOf, put, args0, partL, List.getD_cons_zero, List.getD_cons_succ, List.length_cons, List.length_nil, List.set_cons_zero, List.set_cons_succ, List.getElem?_cons_zero, List.getElem?_cons_succ, reduceIte, Nat.reduceEqDiff, Nat.reduceAdd, Nat.reduceMul, Nat.reduceLeDiff, Nat.zero_add, Nat.add_zero, Option.map_some, Int.reduceEq, Int.reduceLT, Int.reduceLE, Bool.false_eq_true, decide_true, decide_false, ge_iff_le, gt_iff_lt, set_get', hi, hc0]; rfl) ?_))
    refine Wo_call ?_
    show Wk T (.fn 68) [.string ⟨l.toArray⟩, .int .u8 c.toNat] h _
    refine Wk_prim (p := idxP) (v := .int .i64 (Lib.indexByte l c)) h68 hp (by simp [idxP]) ?_
    show Wo T _ _ _
    refine (Wo_run (fun call => by simp only [List.drop_succ_cons, List.drop_zero, iops_nil, iops_op, iops_grd, iK_some, iG_true, iG_false, gval_bool, beq_true, beq_false, Bool.not_true, Bool.not_false, iop, ev, upd, dstUpd, binV, binI, unV, ptr, Heap.cell, Heap.write, cellsOf, put, args0, partL, List.getD_cons_zero, List.getD_cons_succ, List.length_cons, List.length_nil, List.set_cons_zero, List.set_cons_succ, List.getElem?_cons_zero, List.getElem?_cons_succ, reduceIte, Nat.reduceEqDiff, Nat.reduceAdd, Nat.reduceMul, Nat.reduceLeDiff, Nat.zero_add, Nat.add_zero, Option.map_some, Int.reduceEq, Int.reduceLT, Int.reduceLE, Bool.false_eq_true, decide_true, decide_false, ge_iff_le, gt_iff_lt, set_get']; rfl) ?_)
    refine Wc_ret ⟨.inr rfl, rfl, [.int .i64 (Lib.indexByte l c)], by simp [resAll, resV, upd, dstUpd], .refl _, _, rfl, ?_⟩
    rw [Lib.contains_iff_indexByte]
  refine Wk_fn h46 (by simp [C46]) ?_
  simp only [C46]
  refine Wc_seq (Wc_ops (Wo_run (fun call => by simp only [List.drop_succ_cons, List.drop_zero, iops_nil, iops_op, iops_grd, iK_some, iG_true, iG_false, gval_bool, beq_true, beq_false, Bool.not_true, Bool.not_false, iop, ev, upd, dstUpd, binV, binI, unV, ptr, Heap.cell, Heap.write, cellsOf, put, args0, partL, List.getD_cons_zero, List.getD_cons_succ, List.length_cons, List.length_nil, List.set_cons_zero, List.set_cons_succ, List.getElem?_cons_zero, List.getElem?_cons_succ, reduceIte, Nat.reduceEqDiff, Nat.reduceAdd, Nat.reduceMul, Nat.reduceLeDiff, Nat.zero_add, Nat.add_zero, Option.map_some, Int.reduceEq, Int.reduceLT, Int.reduceLE, Bool.false_eq_true, decide_true, decide_false, ge_iff_le, gt_iff_lt, set_get']; rfl) ?_))
  show Wc T _ _ _
  refine Wc_seq (Wc_ops (Wo_pre 2 (fun call => by simp only [List.take_succ_cons, List.take_zero, List.drop_succ_cons, List.drop_zero, iops_nil, iops_op, iops_grd, iK_some, iG_true, iG_false, gval_bool, beq_true, beq_false, Bool.not_true, Bool.not_false, iop, ev, upd, dstUpd, binV, binI, unV, ptr, Heap.cell, Heap.write, cellsOf, put, args0, partL, List.getD_cons_zero, List.getD_cons_succ, List.length_cons, List.length_nil, List.set_cons_zero, List.set_cons_succ, List.getElem?_cons_zero, List.getElem?_cons_succ, reduceIte, Nat.reduceEqDiff, Nat.reduceAdd, Nat.reduceMul, Nat.reduceLeDiff, Nat.zero_add, Nat.add_zero, Option.map_some, Int.reduceEq, Int.reduceLT, Int.reduceLE, Bool.false_eq_true, decide_true, decide_false, ge_iff_le, gt_iff_lt, set_get']; rfl) ?_))
  refine Wo_call ?_
  show Wk T (.fn 59) [.string ⟨l.toArray⟩, .string ⟨#[c]⟩] h _
  refine Wk.mono (K := fun o h' => Kept h h' ∧ ∃ n, o = .ret (.int .i64 n) ∧ decide (0 ≤ n) = l.contains c) ?_ fun o h' ⟨hk, n, ho, hn⟩ => ?_
  · refine Wk_fn h59 (by simp [C59]) ?_
    simp only [C59]
    refine Wc_seq (Wc_ops (Wo_run (fun call => by simp only [List.drop_succ_cons, List.drop_zero, iops_nil, iops_op, iops_grd, iK_some, iG_true, iG_false, gval_bool, beq_true, beq_false, Bool.not_true, Bool.not_false, iop, ev, upd, dstUpd, binV, binI, unV, ptr, Heap.cell, Heap.write, cellsOf, put, args0, partL, List.getD_cons_zero, List.getD_cons_succ, List.length_cons, List.length_nil, List.set_cons_zero, List.set_cons_succ, List.getElem?_cons_zero, List.getElem?_cons_succ, reduceIte, Nat.reduceEqDiff, Nat.reduceAdd, Nat.reduceMul, Nat.reduceLeDiff, Nat.zero_add, Nat.add_zero, Option.map_some, Int.reduceEq, Int.reduceLT, Int.reduceLE, Bool.false_eq_true, decide_true, decide_false, ge_iff_le, gt_iff_lt, set_get']; rfl) ?_))
    show Wc T _ _ _
    refine Wc_seq (Wc_ops (Wo_pre 2 (fun call => by simp only [List.take_succ_cons, List.take_zero, List.drop_succ_cons, List.drop_zero, iops_nil, iops_op, iops_grd, iK_some, iG_true, iG_false, gval_bool, beq_true, beq_false, Bool.not_true, Bool.not_false, iop, ev, upd, dstUpd, binV, binI, unV, ptr, Heap.cell, Heap.write, cellsOf, put, args0, partL, List.getD_cons_zero, List.getD_cons_succ, List.length_cons, List.length_nil, List.set_cons_zero, List.set_cons_succ, List.getElem?_cons_zero, List.getElem?_cons_succ, reduceIte, Nat.reduceEqDiff, Nat.reduceAdd, Nat.reduceMul, Nat.reduceLeDiff, Nat.zero_add, Nat.add_zero, Option.map_some, Int.reduceEq, Int.reduceLT, Int.reduceLE, Bool.false_eq_true, decide_true, decide_false, ge_iff_le, gt_iff_lt, set_get']; rfl) ?_))
    refine Wo_call ?_
    show Wk T (.fn 66) [.string ⟨l.toArray⟩, .string ⟨#[c]⟩] h _
    refine h3.mono fun o h' ⟨hk, n, ho, hn⟩ => ?_
    subst ho
    show Wo T _ _ _
    refine (Wo_run (fun call => by simp only [List.drop_succ_cons, List.drop_zero, iops_nil, iops_op, iops_grd, iK_some, iG_true, iG_false, gval_bool, beq_true, beq_false, Bool.not_true, Bool.not_false, iop, ev, upd, dstUpd, binV, binI, unV, ptr, Heap.cell, Heap.write, cellsOf, put, args0, partL, List.getD_cons_zero, List.getD_cons_succ, List.length_cons, List.length_nil, List.set_cons_zero, List.set_cons_succ, List.getElem?_cons_zero, List.getElem?_cons_succ, reduceIte, Nat.reduceEqDiff, Nat.reduceAdd, Nat.reduceMul, Nat.reduceLeDiff, Nat.zero_add, Nat.add_zero, Option.map_some, Int.reduceEq, Int.reduceLT, Int.reduceLE, Bool.false_eq_true, decide_true, decide_false, ge_iff_le, gt_iff_lt, set_get']; rfl) ?_)
    exact Wc_ret ⟨.inr rfl, rfl, [.int .i64 n], by simp [resAll, resV, upd, dstUpd], hk, n, rfl, hn⟩
  · subst ho
    show Wo T _ _ _
    refine (Wo_run (fun call => by simp only [List.drop_succ_cons, List.drop_zero, iops_nil, iops_op, iops_grd, iK_some, iG_true, iG_false, gval_bool, beq_true, beq_false, Bool.not_true, Bool.not_false, iop, ev, upd, dstUpd, binV, binI, unV, ptr, Heap.cell, Heap.write, cellsOf, put, args0, partL, List.getD_cons_zero, List.getD_cons_succ, List.length_cons, List.length_nil, List.set_cons_zero, List.set_cons_succ, List.getElem?_cons_zero, List.getElem?_cons_succ, reduceIte, Nat.reduceEqDiff, Nat.reduceAdd, Nat.reduceMul, Nat.reduceLeDiff, Nat.zero_add, Nat.add_zero, Option.map_some, Int.reduceEq, Int.reduceLT, Int.reduceLE, Bool.false_eq_true, decide_true, decide_false, ge_iff_le, gt_iff_lt, set_get', hn]; rfl) ?_)
    exact Wc_ret ⟨.inr rfl, rfl, [.bool (l.contains c)], by simp [resAll, resV, upd, dstUpd], hk, rfl⟩

end Go.Idl
end

section
/- The checker's numbers. -/
namespace Go.Idl
set_option linter.unusedVariables false
set_option linter.unusedSimpArgs false
set_option maxRecDepth 100000

def seenES (l : List Int) : List (Value × Value) := l.map fun k => (.int .i64 k, .int .i64 1)

theorem findK_seen (k : Int) : ∀ l : List Int, findK [.int .i64 k] (seenES l) = if k ∈ l then some (.int .i64 1) else none
  | [] => rfl
  | a :: l => by
    have ih := findK_seen k l
    simp only [seenES, List.map_cons, findK, cellsV, seqL, seq1, Bool.and_true, beq_iff_eq] at ih ⊢
    by_cases h : k = a
    · simp [h]
    · simp [h, ih]
theorem setK_seen (k : Int) : ∀ l : List Int, k ∉ l → setK [.int .i64 k] (.int .i64 k) (.int .i64 1) (seenES l) = seenES (l ++ [k])
  | [], _ => rfl
  | a :: l, h => by
    simp only [List.mem_cons, not_or] at h
    have ih := setK_seen k l h.2
    simp only [seenES, List.map_cons, List.cons_append, setK, cellsV, seqL, seq1, Bool.and_true, beq_iff_eq, if_neg h.1] at ih ⊢
    rw [ih]

def isOp (x : Ins) (l : List Int) : Bool := l.contains x.op
/-- Whether an instruction's numbers are right. -/
def numB (c : Cod) (f : Fn) (x : Ins) (at' : Nat) : Bool :=
  if x.op = 4 then decide (1 ≤ x.k ∧ x.k ≤ 12)
  else if x.op = 5 then decide (13 ≤ x.k ∧ x.k ≤ 15)
  else if x.op = 8 ∨ x.op = 9 ∨ x.op = 13 then decide (0 ≤ x.k ∧ x.k ≤ 1000 ∧ 0 ≤ x.c ∧ x.c ≤ 1000)
  else if x.op = 21 ∨ x.op = 22 then decide (0 ≤ x.k ∧ x.k < f.code.length ∧ x.k ≠ at')
  else if x.op = 23 then decide (0 ≤ x.k ∧ x.k < c.funcs.length) && ((c.funcs[x.k.toNat]?).map fun g => decide ((x.l.length : Int) = g.params)).getD false
  else if x.op = 27 then decide (0 ≤ x.k ∧ x.k < c.merges ∧ x.l.length ≤ 4)
  else true
def newB (x : Ins) (seen : List Int) : Bool := !(decide (x.op = 27) && seen.contains x.k)
def seenNow (x : Ins) (seen : List Int) : List Int := if x.op = 27 then seen ++ [x.k] else seen

/-- The checker in the heap. -/
structure Mach (h : Heap) (c : Cod) (n at' bm mb : Nat) (seen : List Int) : Prop where
  m : h.get bm = some (.cells (mCells c n at' mb) true 0)
  mp : h.get mb = some (.map (.one (.int .i64)) (seenES seen))
  ne : bm ≠ mb
  bm : bm < h.next
  mb : mb < h.next

theorem num47 {T : Tbl} (hT : T.fn 47 = some C47) (h38 : T.fn 38 = some C38) {h : Heap} {c : Cod} {f : Fn} {x : Ins} {n at' bm mb : Nat} {seen : List Int} (hM : Mach h c n at' bm mb seen) (hc : c.Ok h) (hf : f.Ok h) (hx : x.Ok h) :
    Wk T (.fn 47) [ptr bm 0, .agg f.cells.toArray, .agg x.cells.toArray] h (fun o h' => KeptBut mb h h' ∧ o = mustO n at' (numB c f x at' && newB x seen) ∧ ((numB c f x at' && newB x seen) = true → h'.get mb = some (.map (.one (.int .i64)) (seenES (seenNow x seen))))) := by
  refine Wk_fn2 hT (by simp [C47]) ?_
  have hb : iop (.box (.t 1)) (args0 [ptr bm 0, .agg f.cells.toArray, .agg x.cells.toArray]) h = some (ptr h.next 0, h.new (.cells f.cells true 0)) := by simp [iop, ev, args0, cellsOf]
  have hb2 : iop (.box (.t 2)) (dstUpd (args0 [ptr bm 0, .agg f.cells.toArray, .agg x.cells.toArray]) (some 4) (ptr h.next 0)) (h.new (.cells f.cells true 0)) = some (ptr (h.next + 1) 0, (h.new (.cells f.cells true 0)).new (.cells x.cells true 0)) := by simp [iop, ev, args0, cellsOf, dstUpd, upd, new_next]
  simp only [C47]
  refine Wc_seq (Wc_ops (Wo_op hb (Wo_op hb2 (Wo_nil ?_))))
  show Wc T _ _ _
  have g5 : ((h.new (.cells f.cells true 0)).new (.cells x.cells true 0)).get (h.next + 1) = some (.cells x.cells true 0) := new_get' _ _
  have g4 : ((h.new (.cells f.cells true 0)).new (.cells x.cells true 0)).get h.next = some (.cells f.cells true 0) := by rw [new_get_ne' _ _ (by rw [new_next]; omega), new_get']
  have hk : Kept h ((h.new (.cells f.cells true 0)).new (.cells x.cells true 0)) := ((Kept.refl h).new _).new _
  generalize (h.new (.cells f.cells true 0)).new (.cells x.cells true 0) = h1 at g4 g5 hk ⊢
  have gm : h1.get bm = some (.cells (mCells c n at' mb) true 0) := by rw [hk.get _ hM.bm]; exact hM.m
  have gp : h1.get mb = some (.map (.one (.int .i64)) (seenES seen)) := by rw [hk.get _ hM.mb]; exact hM.mp
  obtain ⟨pl, cl, hlv⟩ := hx.ints.len
  obtain ⟨pc, cc, hcv⟩ := hf.code.len
  obtain ⟨pf, cf, hfv⟩ := hc.funcs.len
  have badE : ∀ (e' : Env), (numB c f x at' && newB x seen) = false → Fin2 C47 (fun o h' => KeptBut mb h h' ∧ o = mustO n at' (numB c f x at' && newB x seen) ∧ ((numB c f x at' && newB x seen) = true → h'.get mb = some (.map (.one (.int .i64)) (seenES (seenNow x seen))))) (.pan (wrongV n at')) ⟨e', h1, some []⟩ := by
    intro e' hB
    refine ⟨rfl, hk.but mb, by rw [hB]; rfl, fun h => by rw [hB] at h; cases h⟩
  have goodE : ∀ (e' : Env), x.op ≠ 27 → numB c f x at' = true → Fin2 C47 (fun o h' => KeptBut mb h h' ∧ o = mustO n at' (numB c f x at' && newB x seen) ∧ ((numB c f x at' && newB x seen) = true → h'.get mb = some (.map (.one (.int .i64)) (seenES (seenNow x seen))))) .normal ⟨e', h1, some []⟩ := by
    intro e' ho hB
    have hN : newB x seen = true := by simp [newB, ho]
    refine ⟨rfl, [], rfl, hk.but mb, by rw [hB, hN]; rfl, fun _ => ?_⟩
    rw [gp, seenNow, if_neg ho]
  refine Wc_seq (Wc_ops (Wo_run (fun call => by simp only [List.drop_succ_cons, List.drop_zero, iops_nil, iops_op, iops_grd, iK_some, iG_true, iG_false, gval_bool, beq_true, beq_false, Bool.not_true, Bool.not_false, iop, ev, upd, dstUpd, binV, binI, unV, ptr, Heap.cell, Heap.write, cellsOf, put, args0, partL, List.getD_cons_zero, List.getD_cons_succ, List.length_cons, List.length_nil, List.set_cons_zero, List.set_cons_succ, List.getElem?_cons_zero, List.getElem?_cons_succ, reduceIte, Nat.reduceEqDiff, Nat.reduceAdd, Nat.reduceMul, Nat.reduceLeDiff, Nat.zero_add, Nat.add_zero, Option.map_some, Int.reduceEq, Int.reduceLT, Int.reduceLE, Bool.false_eq_true, decide_true, decide_false, ge_iff_le, gt_iff_lt, set_get', g5, Ins.cells]; rfl) ?_))
  show Wc T _ _ _
  by_cases o4 : x.op = 4
  · have d4 : (x.op == 4) = true := by simpa using o4
    refine Wc_block (Wc_seq (Wc_ops (Wo_run (fun call => by simp only [List.drop_succ_cons, List.drop_zero, iops_nil, iops_op, iops_grd, iK_some, iG_true, iG_false, gval_bool, beq_true, beq_false, Bool.not_true, Bool.not_false, iop, ev, upd, dstUpd, binV, binI, unV, ptr, Heap.cell, Heap.write, cellsOf, put, args0, partL, List.getD_cons_zero, List.getD_cons_succ, List.length_cons, List.length_nil, List.set_cons_zero, List.set_cons_succ, List.getElem?_cons_zero, List.getElem?_cons_succ, reduceIte, Nat.reduceEqDiff, Nat.reduceAdd, Nat.reduceMul, Nat.reduceLeDiff, Nat.zero_add, Nat.add_zero, Option.map_some, Int.reduceEq, Int.reduceLT, Int.reduceLE, Bool.false_eq_true, decide_true, decide_false, ge_iff_le, gt_iff_lt, set_get', d4]; rfl) ?_)))
    show Wc T _ _ _
    refine Wc_cond true (by simp [ev, upd]) (fun _ => ?_) (fun h => by cases h)
    by_cases q0 : 1 ≤ x.k
    case neg =>
      refine Wc_ops (Wo_pre 9 (fun call => by simp only [List.take_succ_cons, List.take_zero, List.drop_succ_cons, List.drop_zero, iops_nil, iops_op, iops_grd, iK_some, iG_true, iG_false, gval_bool, beq_true, beq_false, Bool.not_true, Bool.not_false, iop, ev, upd, dstUpd, binV, binI, unV, ptr, Heap.cell, Heap.write, cellsOf, put, args0, partL, List.getD_cons_zero, List.getD_cons_succ, List.length_cons, List.length_nil, List.set_cons_zero, List.set_cons_succ, List.getElem?_cons_zero, List.getElem?_cons_succ, reduceIte, Nat.reduceEqDiff, Nat.reduceAdd, Nat.reduceMul, Nat.reduceLeDiff, Nat.zero_add, Nat.add_zero, Option.map_some, Int.reduceEq, Int.reduceLT, Int.reduceLE, Bool.false_eq_true, decide_true, decide_false, ge_iff_le, gt_iff_lt, set_get', g4, g5, gm, Fn.cells, Ins.cells, mCells, hlv, hcv, hfv, q0]; rfl) ?_)
      refine Wo_must h38 false gm rfl rfl (fun h => by cases h) (fun _ => ?_)
      exact badE _ (by rw [show numB c f x at' = false from by simp only [numB, if_pos o4, decide_eq_true_eq, decide_eq_false_iff_not]; omega]; rfl)
    by_cases q1 : x.k ≤ 12
    case neg =>
      refine Wc_ops (Wo_pre 9 (fun call => by simp only [List.take_succ_cons, List.take_zero, List.drop_succ_cons, List.drop_zero, iops_nil, iops_op, iops_grd, iK_some, iG_true, iG_false, gval_bool, beq_true, beq_false, Bool.not_true, Bool.not_false, iop, ev, upd, dstUpd, binV, binI, unV, ptr, Heap.cell, Heap.write, cellsOf, put, args0, partL, List.getD_cons_zero, List.getD_cons_succ, List.length_cons, List.length_nil, List.set_cons_zero, List.set_cons_succ, List.getElem?_cons_zero, List.getElem?_cons_succ, reduceIte, Nat.reduceEqDiff, Nat.reduceAdd, Nat.reduceMul, Nat.reduceLeDiff, Nat.zero_add, Nat.add_zero, Option.map_some, Int.reduceEq, Int.reduceLT, Int.reduceLE, Bool.false_eq_true, decide_true, decide_false, ge_iff_le, gt_iff_lt, set_get', g4, g5, gm, Fn.cells, Ins.cells, mCells, hlv, hcv, hfv, q1, q0]; rfl) ?_)
      refine Wo_must h38 false gm rfl rfl (fun h => by cases h) (fun _ => ?_)
      exact badE _ (by rw [show numB c f x at' = false from by simp only [numB, if_pos o4, decide_eq_true_eq, decide_eq_false_iff_not]; omega]; rfl)
    refine Wc_ops (Wo_pre 9 (fun call => by simp only [List.take_succ_cons, List.take_zero, List.drop_succ_cons, List.drop_zero, iops_nil, iops_op, iops_grd, iK_some, iG_true, iG_false, gval_bool, beq_true, beq_false, Bool.not_true, Bool.not_false, iop, ev, upd, dstUpd, binV, binI, unV, ptr, Heap.cell, Heap.write, cellsOf, put, args0, partL, List.getD_cons_zero, List.getD_cons_succ, List.length_cons, List.length_nil, List.set_cons_zero, List.set_cons_succ, List.getElem?_cons_zero, List.getElem?_cons_succ, reduceIte, Nat.reduceEqDiff, Nat.reduceAdd, Nat.reduceMul, Nat.reduceLeDiff, Nat.zero_add, Nat.add_zero, Option.map_some, Int.reduceEq, Int.reduceLT, Int.reduceLE, Bool.false_eq_true, decide_true, decide_false, ge_iff_le, gt_iff_lt, set_get', g4, g5, gm, Fn.cells, Ins.cells, mCells, hlv, hcv, hfv, q0, q1]; rfl) ?_)
    refine Wo_must h38 true gm rfl rfl (fun _ => Wo_nil ?_) (fun h => by cases h)
    exact goodE _ (by omega) (by simp only [numB, if_pos o4, decide_eq_true_eq, decide_eq_false_iff_not]; omega)
  have d4 : (x.op == 4) = false := by simpa using o4
  refine Wc_block (Wc_seq (Wc_ops (Wo_run (fun call => by simp only [List.drop_succ_cons, List.drop_zero, iops_nil, iops_op, iops_grd, iK_some, iG_true, iG_false, gval_bool, beq_true, beq_false, Bool.not_true, Bool.not_false, iop, ev, upd, dstUpd, binV, binI, unV, ptr, Heap.cell, Heap.write, cellsOf, put, args0, partL, List.getD_cons_zero, List.getD_cons_succ, List.length_cons, List.length_nil, List.set_cons_zero, List.set_cons_succ, List.getElem?_cons_zero, List.getElem?_cons_succ, reduceIte, Nat.reduceEqDiff, Nat.reduceAdd, Nat.reduceMul, Nat.reduceLeDiff, Nat.zero_add, Nat.add_zero, Option.map_some, Int.reduceEq, Int.reduceLT, Int.reduceLE, Bool.false_eq_true, decide_true, decide_false, ge_iff_le, gt_iff_lt, set_get', d4]; rfl) ?_)))
  show Wc T _ _ _
  refine Wc_cond false (by simp [ev, upd]) (fun h => by cases h) (fun _ => ?_)
  by_cases o5 : x.op = 5
  · have d5 : (x.op == 5) = true := by simpa using o5
    refine Wc_seq (Wc_ops (Wo_run (fun call => by simp only [List.drop_succ_cons, List.drop_zero, iops_nil, iops_op, iops_grd, iK_some, iG_true, iG_false, gval_bool, beq_true, beq_false, Bool.not_true, Bool.not_false, iop, ev, upd, dstUpd, binV, binI, unV, ptr, Heap.cell, Heap.write, cellsOf, put, args0, partL, List.getD_cons_zero, List.getD_cons_succ, List.length_cons, List.length_nil, List.set_cons_zero, List.set_cons_succ, List.getElem?_cons_zero, List.getElem?_cons_succ, reduceIte, Nat.reduceEqDiff, Nat.reduceAdd, Nat.reduceMul, Nat.reduceLeDiff, Nat.zero_add, Nat.add_zero, Option.map_some, Int.reduceEq, Int.reduceLT, Int.reduceLE, Bool.false_eq_true, decide_true, decide_false, ge_iff_le, gt_iff_lt, set_get', d5]; rfl) ?_))
    show Wc T _ _ _
    refine Wc_cond true (by simp [ev, upd]) (fun _ => ?_) (fun h => by cases h)
    by_cases q0 : 13 ≤ x.k
    case neg =>
      refine Wc_ops (Wo_pre 9 (fun call => by simp only [List.take_succ_cons, List.take_zero, List.drop_succ_cons, List.drop_zero, iops_nil, iops_op, iops_grd, iK_some, iG_true, iG_false, gval_bool, beq_true, beq_false, Bool.not_true, Bool.not_false, iop, ev, upd, dstUpd, binV, binI, unV, ptr, Heap.cell, Heap.write, cellsOf, put, args0, partL, List.getD_cons_zero, List.getD_cons_succ, List.length_cons, List.length_nil, List.set_cons_zero, List.set_cons_succ, List.getElem?_cons_zero, List.getElem?_cons_succ, reduceIte, Nat.reduceEqDiff, Nat.reduceAdd, Nat.reduceMul, Nat.reduceLeDiff, Nat.zero_add, Nat.add_zero, Option.map_some, Int.reduceEq, Int.reduceLT, Int.reduceLE, Bool.false_eq_true, decide_true, decide_false, ge_iff_le, gt_iff_lt, set_get', g4, g5, gm, Fn.cells, Ins.cells, mCells, hlv, hcv, hfv, q0]; rfl) ?_)
      refine Wo_must h38 false gm rfl rfl (fun h => by cases h) (fun _ => ?_)
      exact badE _ (by rw [show numB c f x at' = false from by simp only [numB, if_neg o4, if_pos o5, decide_eq_true_eq, decide_eq_false_iff_not]; omega]; rfl)
    by_cases q1 : x.k ≤ 15
    case neg =>
      refine Wc_ops (Wo_pre 9 (fun call => by simp only [List.take_succ_cons, List.take_zero, List.drop_succ_cons, List.drop_zero, iops_nil, iops_op, iops_grd, iK_some, iG_true, iG_false, gval_bool, beq_true, beq_false, Bool.not_true, Bool.not_false, iop, ev, upd, dstUpd, binV, binI, unV, ptr, Heap.cell, Heap.write, cellsOf, put, args0, partL, List.getD_cons_zero, List.getD_cons_succ, List.length_cons, List.length_nil, List.set_cons_zero, List.set_cons_succ, List.getElem?_cons_zero, List.getElem?_cons_succ, reduceIte, Nat.reduceEqDiff, Nat.reduceAdd, Nat.reduceMul, Nat.reduceLeDiff, Nat.zero_add, Nat.add_zero, Option.map_some, Int.reduceEq, Int.reduceLT, Int.reduceLE, Bool.false_eq_true, decide_true, decide_false, ge_iff_le, gt_iff_lt, set_get', g4, g5, gm, Fn.cells, Ins.cells, mCells, hlv, hcv, hfv, q1, q0]; rfl) ?_)
      refine Wo_must h38 false gm rfl rfl (fun h => by cases h) (fun _ => ?_)
      exact badE _ (by rw [show numB c f x at' = false from by simp only [numB, if_neg o4, if_pos o5, decide_eq_true_eq, decide_eq_false_iff_not]; omega]; rfl)
    refine Wc_ops (Wo_pre 9 (fun call => by simp only [List.take_succ_cons, List.take_zero, List.drop_succ_cons, List.drop_zero, iops_nil, iops_op, iops_grd, iK_some, iG_true, iG_false, gval_bool, beq_true, beq_false, Bool.not_true, Bool.not_false, iop, ev, upd, dstUpd, binV, binI, unV, ptr, Heap.cell, Heap.write, cellsOf, put, args0, partL, List.getD_cons_zero, List.getD_cons_succ, List.length_cons, List.length_nil, List.set_cons_zero, List.set_cons_succ, List.getElem?_cons_zero, List.getElem?_cons_succ, reduceIte, Nat.reduceEqDiff, Nat.reduceAdd, Nat.reduceMul, Nat.reduceLeDiff, Nat.zero_add, Nat.add_zero, Option.map_some, Int.reduceEq, Int.reduceLT, Int.reduceLE, Bool.false_eq_true, decide_true, decide_false, ge_iff_le, gt_iff_lt, set_get', g4, g5, gm, Fn.cells, Ins.cells, mCells, hlv, hcv, hfv, q0, q1]; rfl) ?_)
    refine Wo_must h38 true gm rfl rfl (fun _ => Wo_nil ?_) (fun h => by cases h)
    exact goodE _ (by omega) (by simp only [numB, if_neg o4, if_pos o5, decide_eq_true_eq, decide_eq_false_iff_not]; omega)
  have d5 : (x.op == 5) = false := by simpa using o5
  refine Wc_seq (Wc_ops (Wo_run (fun call => by simp only [List.drop_succ_cons, List.drop_zero, iops_nil, iops_op, iops_grd, iK_some, iG_true, iG_false, gval_bool, beq_true, beq_false, Bool.not_true, Bool.not_false, iop, ev, upd, dstUpd, binV, binI, unV, ptr, Heap.cell, Heap.write, cellsOf, put, args0, partL, List.getD_cons_zero, List.getD_cons_succ, List.length_cons, List.length_nil, List.set_cons_zero, List.set_cons_succ, List.getElem?_cons_zero, List.getElem?_cons_succ, reduceIte, Nat.reduceEqDiff, Nat.reduceAdd, Nat.reduceMul, Nat.reduceLeDiff, Nat.zero_add, Nat.add_zero, Option.map_some, Int.reduceEq, Int.reduceLT, Int.reduceLE, Bool.false_eq_true, decide_true, decide_false, ge_iff_le, gt_iff_lt, set_get', d5]; rfl) ?_))
  show Wc T _ _ _
  refine Wc_cond false (by simp [ev, upd]) (fun h => by cases h) (fun _ => ?_)
  -- 8, 9, 13
  have three : ∀ (e : Env) (Q : Ex → St → Prop), e 7 = .int .i64 x.op → (∀ e' : Env, (∀ t, t < 32 → e' t = e t) → e' 32 = .bool (decide (x.op = 8 ∨ x.op = 9 ∨ x.op = 13)) → Q .normal ⟨e', h1, some []⟩) →
      Wc T (.seq (.ops [⟨(some 33), .op (.bin .eql (.t 7) (.c (.int .i64 8))), none⟩, ⟨(some 32), .op (.mov (.t 33)), none⟩]) (.cond (.t 32) .skip (.seq (.ops [⟨(some 34), .op (.bin .eql (.t 7) (.c (.int .i64 9))), none⟩, ⟨(some 32), .op (.mov (.t 34)), none⟩]) (.cond (.t 32) .skip (.ops [⟨(some 35), .op (.bin .eql (.t 7) (.c (.int .i64 13))), none⟩, ⟨(some 32), .op (.mov (.t 35)), none⟩]))))) ⟨e, h1, some []⟩ Q := by
    intro e Q k7 hQ
    have fr : ∀ (e' : Env) (b : Bool), (∀ t, t < 32 → e' t = e t) → e' 32 = .bool b → b = decide (x.op = 8 ∨ x.op = 9 ∨ x.op = 13) → Q .normal ⟨e', h1, some []⟩ := fun e' b h1 h2 h3 => hQ e' h1 (by rw [h2, h3])
    by_cases o8 : x.op = 8
    · have d8 : (x.op == 8) = true := by simpa using o8
      refine Wc_seq (Wc_ops (Wo_run (fun call => by simp only [List.drop_succ_cons, List.drop_zero, iops_nil, iops_op, iops_grd, iK_some, iG_true, iG_false, gval_bool, beq_true, beq_false, Bool.not_true, Bool.not_false, iop, ev, upd, dstUpd, binV, binI, unV, ptr, Heap.cell, Heap.write, cellsOf, put, args0, partL, List.getD_cons_zero, List.getD_cons_succ, List.length_cons, List.length_nil, List.set_cons_zero, List.set_cons_succ, List.getElem?_cons_zero, List.getElem?_cons_succ, reduceIte, Nat.reduceEqDiff, Nat.reduceAdd, Nat.reduceMul, Nat.reduceLeDiff, Nat.zero_add, Nat.add_zero, Option.map_some, Int.reduceEq, Int.reduceLT, Int.reduceLE, Bool.false_eq_true, decide_true, decide_false, ge_iff_le, gt_iff_lt, set_get', k7, d8]; rfl) ?_))
      show Wc T _ _ _
      refine Wc_cond true (by simp [ev, upd]) (fun _ => Wc_skip ?_) (fun h => by cases h)
      exact fr _ true (fun t ht => by simp only [upd]; repeat rw [if_neg (by omega)]) (by simp [upd]) (by simp [o8])
    have d8 : (x.op == 8) = false := by simpa using o8
    refine Wc_seq (Wc_ops (Wo_run (fun call => by simp only [List.drop_succ_cons, List.drop_zero, iops_nil, iops_op, iops_grd, iK_some, iG_true, iG_false, gval_bool, beq_true, beq_false, Bool.not_true, Bool.not_false, iop, ev, upd, dstUpd, binV, binI, unV, ptr, Heap.cell, Heap.write, cellsOf, put, args0, partL, List.getD_cons_zero, List.getD_cons_succ, List.length_cons, List.length_nil, List.set_cons_zero, List.set_cons_succ, List.getElem?_cons_zero, List.getElem?_cons_succ, reduceIte, Nat.reduceEqDiff, Nat.reduceAdd, Nat.reduceMul, Nat.reduceLeDiff, Nat.zero_add, Nat.add_zero, Option.map_some, Int.reduceEq, Int.reduceLT, Int.reduceLE, Bool.false_eq_true, decide_true, decide_false, ge_iff_le, gt_iff_lt, set_get', k7, d8]; rfl) ?_))
    show Wc T _ _ _
    refine Wc_cond false (by simp [ev, upd]) (fun h => by cases h) (fun _ => ?_)
    by_cases o9 : x.op = 9
    · have d9 : (x.op == 9) = true := by simpa using o9
      refine Wc_seq (Wc_ops (Wo_run (fun call => by simp only [List.drop_succ_cons, List.drop_zero, iops_nil, iops_op, iops_grd, iK_some, iG_true, iG_false, gval_bool, beq_true, beq_false, Bool.not_true, Bool.not_false, iop, ev, upd, dstUpd, binV, binI, unV, ptr, Heap.cell, Heap.write, cellsOf, put, args0, partL, List.getD_cons_zero, List.getD_cons_succ, List.length_cons, List.length_nil, List.set_cons_zero, List.set_cons_succ, List.getElem?_cons_zero, List.getElem?_cons_succ, reduceIte, Nat.reduceEqDiff, Nat.reduceAdd, Nat.reduceMul, Nat.reduceLeDiff, Nat.zero_add, Nat.add_zero, Option.map_some, Int.reduceEq, Int.reduceLT, Int.reduceLE, Bool.false_eq_true, decide_true, decide_false, ge_iff_le, gt_iff_lt, set_get', k7, d9]; rfl) ?_))
      show Wc T _ _ _
      refine Wc_cond true (by simp [ev, upd]) (fun _ => Wc_skip ?_) (fun h => by cases h)
      exact fr _ true (fun t ht => by simp only [upd]; repeat rw [if_neg (by omega)]) (by simp [upd]) (by simp [o9])
    have d9 : (x.op == 9) = false := by simpa using o9
    refine Wc_seq (Wc_ops (Wo_run (fun call => by simp only [List.drop_succ_cons, List.drop_zero, iops_nil, iops_op, iops_grd, iK_some, iG_true, iG_false, gval_bool, beq_true, beq_false, Bool.not_true, Bool.not_false, iop, ev, upd, dstUpd, binV, binI, unV, ptr, Heap.cell, Heap.write, cellsOf, put, args0, partL, List.getD_cons_zero, List.getD_cons_succ, List.length_cons, List.length_nil, List.set_cons_zero, List.set_cons_succ, List.getElem?_cons_zero, List.getElem?_cons_succ, reduceIte, Nat.reduceEqDiff, Nat.reduceAdd, Nat.reduceMul, Nat.reduceLeDiff, Nat.zero_add, Nat.add_zero, Option.map_some, Int.reduceEq, Int.reduceLT, Int.reduceLE, Bool.false_eq_true, decide_true, decide_false, ge_iff_le, gt_iff_lt, set_get', k7, d9]; rfl) ?_))
    show Wc T _ _ _
    refine Wc_cond false (by simp [ev, upd]) (fun h => by cases h) (fun _ => ?_)
    refine Wc_ops (Wo_run (fun call => by simp only [List.drop_succ_cons, List.drop_zero, iops_nil, iops_op, iops_grd, iK_some, iG_true, iG_false, gval_bool, beq_true, beq_false, Bool.not_true, Bool.not_false, iop, ev, upd, dstUpd, binV, binI, unV, ptr, Heap.cell, Heap.write, cellsOf, put, args0, partL, List.getD_cons_zero, List.getD_cons_succ, List.length_cons, List.length_nil, List.set_cons_zero, List.set_cons_succ, List.getElem?_cons_zero, List.getElem?_cons_succ, reduceIte, Nat.reduceEqDiff, Nat.reduceAdd, Nat.reduceMul, Nat.reduceLeDiff, Nat.zero_add, Nat.add_zero, Option.map_some, Int.reduceEq, Int.reduceLT, Int.reduceLE, Bool.false_eq_true, decide_true, decide_false, ge_iff_le, gt_iff_lt, set_get', k7]; rfl) ?_)
    exact fr _ (x.op == 13) (fun t ht => by simp only [upd]; repeat rw [if_neg (by omega)]) (by simp [upd]) (by
      by_cases o13 : x.op = 13
      · simp [o13]
      · simp [o8, o9, o13])
  refine Wc_seq (three _ _ (by simp [upd, dstUpd]) fun e3 f3 k32 => ?_)
  show Wc T _ _ _
  have j4 : e3 4 = ptr h.next 0 := by rw [f3 4 (by omega)]; simp [upd, dstUpd, ptr]
  have j5 : e3 5 = ptr (h.next + 1) 0 := by rw [f3 5 (by omega)]; simp [upd, dstUpd, ptr]
  have j0 : e3 0 = ptr bm 0 := by rw [f3 0 (by omega)]; simp [upd, dstUpd, args0, ptr]
  have j7 : e3 7 = .int .i64 x.op := by rw [f3 7 (by omega)]; simp [upd, dstUpd]
  clear three f3
  refine Wc_cond (decide (x.op = 8 ∨ x.op = 9 ∨ x.op = 13)) (by simp [ev, k32]) (fun hd => ?_) (fun hd => ?_)
  · have o3 : x.op = 8 ∨ x.op = 9 ∨ x.op = 13 := by simpa using hd
    by_cases q0 : 0 ≤ x.k
    case neg =>
      refine Wc_ops (Wo_pre 19 (fun call => by simp only [List.take_succ_cons, List.take_zero, List.drop_succ_cons, List.drop_zero, iops_nil, iops_op, iops_grd, iK_some, iG_true, iG_false, gval_bool, beq_true, beq_false, Bool.not_true, Bool.not_false, iop, ev, upd, dstUpd, binV, binI, unV, ptr, Heap.cell, Heap.write, cellsOf, put, args0, partL, List.getD_cons_zero, List.getD_cons_succ, List.length_cons, List.length_nil, List.set_cons_zero, List.set_cons_succ, List.getElem?_cons_zero, List.getElem?_cons_succ, reduceIte, Nat.reduceEqDiff, Nat.reduceAdd, Nat.reduceMul, Nat.reduceLeDiff, Nat.zero_add, Nat.add_zero, Option.map_some, Int.reduceEq, Int.reduceLT, Int.reduceLE, Bool.false_eq_true, decide_true, decide_false, ge_iff_le, gt_iff_lt, set_get', j0, j4, j5, g4, g5, gm, Fn.cells, Ins.cells, mCells, hlv, hcv, hfv, q0]; rfl) ?_)
      refine Wo_must h38 false gm (by simp only [upd, dstUpd, reduceIte, Nat.reduceEqDiff, ev, j0, ptr]) (by simp only [upd, dstUpd, reduceIte, Nat.reduceEqDiff, ev]) (fun h => by cases h) (fun _ => ?_)
      exact badE _ (by rw [show numB c f x at' = false from by simp only [numB, if_neg o4, if_neg o5, if_pos o3, decide_eq_true_eq, decide_eq_false_iff_not]; omega]; rfl)
    by_cases q1 : x.k ≤ 1000
    case neg =>
      refine Wc_ops (Wo_pre 19 (fun call => by simp only [List.take_succ_cons, List.take_zero, List.drop_succ_cons, List.drop_zero, iops_nil, iops_op, iops_grd, iK_some, iG_true, iG_false, gval_bool, beq_true, beq_false, Bool.not_true, Bool.not_false, iop, ev, upd, dstUpd, binV, binI, unV, ptr, Heap.cell, Heap.write, cellsOf, put, args0, partL, List.getD_cons_zero, List.getD_cons_succ, List.length_cons, List.length_nil, List.set_cons_zero, List.set_cons_succ, List.getElem?_cons_zero, List.getElem?_cons_succ, reduceIte, Nat.reduceEqDiff, Nat.reduceAdd, Nat.reduceMul, Nat.reduceLeDiff, Nat.zero_add, Nat.add_zero, Option.map_some, Int.reduceEq, Int.reduceLT, Int.reduceLE, Bool.false_eq_true, decide_true, decide_false, ge_iff_le, gt_iff_lt, set_get', j0, j4, j5, g4, g5, gm, Fn.cells, Ins.cells, mCells, hlv, hcv, hfv, q1, q0]; rfl) ?_)
      refine Wo_must h38 false gm (by simp only [upd, dstUpd, reduceIte, Nat.reduceEqDiff, ev, j0, ptr]) (by simp only [upd, dstUpd, reduceIte, Nat.reduceEqDiff, ev]) (fun h => by cases h) (fun _ => ?_)
      exact badE _ (by rw [show numB c f x at' = false from by simp only [numB, if_neg o4, if_neg o5, if_pos o3, decide_eq_true_eq, decide_eq_false_iff_not]; omega]; rfl)
    by_cases q2 : 0 ≤ x.c
    case neg =>
      refine Wc_ops (Wo_pre 19 (fun call => by simp only [List.take_succ_cons, List.take_zero, List.drop_succ_cons, List.drop_zero, iops_nil, iops_op, iops_grd, iK_some, iG_true, iG_false, gval_bool, beq_true, beq_false, Bool.not_true, Bool.not_false, iop, ev, upd, dstUpd, binV, binI, unV, ptr, Heap.cell, Heap.write, cellsOf, put, args0, partL, List.getD_cons_zero, List.getD_cons_succ, List.length_cons, List.length_nil, List.set_cons_zero, List.set_cons_succ, List.getElem?_cons_zero, List.getElem?_cons_succ, reduceIte, Nat.reduceEqDiff, Nat.reduceAdd, Nat.reduceMul, Nat.reduceLeDiff, Nat.zero_add, Nat.add_zero, Option.map_some, Int.reduceEq, Int.reduceLT, Int.reduceLE, Bool.false_eq_true, decide_true, decide_false, ge_iff_le, gt_iff_lt, set_get', j0, j4, j5, g4, g5, gm, Fn.cells, Ins.cells, mCells, hlv, hcv, hfv, q2, q0, q1]; rfl) ?_)
      refine Wo_must h38 false gm (by simp only [upd, dstUpd, reduceIte, Nat.reduceEqDiff, ev, j0, ptr]) (by simp only [upd, dstUpd, reduceIte, Nat.reduceEqDiff, ev]) (fun h => by cases h) (fun _ => ?_)
      exact badE _ (by rw [show numB c f x at' = false from by simp only [numB, if_neg o4, if_neg o5, if_pos o3, decide_eq_true_eq, decide_eq_false_iff_not]; omega]; rfl)
    by_cases q3 : x.c ≤ 1000
    case neg =>
      refine Wc_ops (Wo_pre 19 (fun call => by simp only [List.take_succ_cons, List.take_zero, List.drop_succ_cons, List.drop_zero, iops_nil, iops_op, iops_grd, iK_some, iG_true, iG_false, gval_bool, beq_true, beq_false, Bool.not_true, Bool.not_false, iop, ev, upd, dstUpd, binV, binI, unV, ptr, Heap.cell, Heap.write, cellsOf, put, args0, partL, List.getD_cons_zero, List.getD_cons_succ, List.length_cons, List.length_nil, List.set_cons_zero, List.set_cons_succ, List.getElem?_cons_zero, List.getElem?_cons_succ, reduceIte, Nat.reduceEqDiff, Nat.reduceAdd, Nat.reduceMul, Nat.reduceLeDiff, Nat.zero_add, Nat.add_zero, Option.map_some, Int.reduceEq, Int.reduceLT, Int.reduceLE, Bool.false_eq_true, decide_true, decide_false, ge_iff_le, gt_iff_lt, set_get', j0, j4, j5, g4, g5, gm, Fn.cells, Ins.cells, mCells, hlv, hcv, hfv, q3, q0, q1, q2]; rfl) ?_)
      refine Wo_must h38 false gm (by simp only [upd, dstUpd, reduceIte, Nat.reduceEqDiff, ev, j0, ptr]) (by simp only [upd, dstUpd, reduceIte, Nat.reduceEqDiff, ev]) (fun h => by cases h) (fun _ => ?_)
      exact badE _ (by rw [show numB c f x at' = false from by simp only [numB, if_neg o4, if_neg o5, if_pos o3, decide_eq_true_eq, decide_eq_false_iff_not]; omega]; rfl)
    refine Wc_ops (Wo_pre 19 (fun call => by simp only [List.take_succ_cons, List.take_zero, List.drop_succ_cons, List.drop_zero, iops_nil, iops_op, iops_grd, iK_some, iG_true, iG_false, gval_bool, beq_true, beq_false, Bool.not_true, Bool.not_false, iop, ev, upd, dstUpd, binV, binI, unV, ptr, Heap.cell, Heap.write, cellsOf, put, args0, partL, List.getD_cons_zero, List.getD_cons_succ, List.length_cons, List.length_nil, List.set_cons_zero, List.set_cons_succ, List.getElem?_cons_zero, List.getElem?_cons_succ, reduceIte, Nat.reduceEqDiff, Nat.reduceAdd, Nat.reduceMul, Nat.reduceLeDiff, Nat.zero_add, Nat.add_zero, Option.map_some, Int.reduceEq, Int.reduceLT, Int.reduceLE, Bool.false_eq_true, decide_true, decide_false, ge_iff_le, gt_iff_lt, set_get', j0, j4, j5, g4, g5, gm, Fn.cells, Ins.cells, mCells, hlv, hcv, hfv, q0, q1, q2, q3]; rfl) ?_)
    refine Wo_must h38 true gm (by simp only [upd, dstUpd, reduceIte, Nat.reduceEqDiff, ev, j0, ptr]) (by simp only [upd, dstUpd, reduceIte, Nat.reduceEqDiff, ev]) (fun _ => Wo_nil ?_) (fun h => by cases h)
    exact goodE _ (by omega) (by simp only [numB, if_neg o4, if_neg o5, if_pos o3, decide_eq_true_eq, decide_eq_false_iff_not]; omega)
  have o3 : ¬ (x.op = 8 ∨ x.op = 9 ∨ x.op = 13) := by simpa using hd
  have two : ∀ (Q : Ex → St → Prop), (∀ e' : Env, (∀ t, t < 56 → e' t = e3 t) → e' 56 = .bool (decide (x.op = 21 ∨ x.op = 22)) → Q .normal ⟨e', h1, some []⟩) →
      Wc T (.seq (.ops [⟨(some 57), .op (.bin .eql (.t 7) (.c (.int .i64 21))), none⟩, ⟨(some 56), .op (.mov (.t 57)), none⟩]) (.cond (.t 56) .skip (.ops [⟨(some 58), .op (.bin .eql (.t 7) (.c (.int .i64 22))), none⟩, ⟨(some 56), .op (.mov (.t 58)), none⟩]))) ⟨e3, h1, some []⟩ Q := by
    intro Q hQ
    by_cases o8 : x.op = 21
    · have d8 : (x.op == 21) = true := by simpa using o8
      refine Wc_seq (Wc_ops (Wo_run (fun call => by simp only [List.drop_succ_cons, List.drop_zero, iops_nil, iops_op, iops_grd, iK_some, iG_true, iG_false, gval_bool, beq_true, beq_false, Bool.not_true, Bool.not_false, iop, ev, upd, dstUpd, binV, binI, unV, ptr, Heap.cell, Heap.write, cellsOf, put, args0, partL, List.getD_cons_zero, List.getD_cons_succ, List.length_cons, List.length_nil, List.set_cons_zero, List.set_cons_succ, List.getElem?_cons_zero, List.getElem?_cons_succ, reduceIte, Nat.reduceEqDiff, Nat.reduceAdd, Nat.reduceMul, Nat.reduceLeDiff, Nat.zero_add, Nat.add_zero, Option.map_some, Int.reduceEq, Int.reduceLT, Int.reduceLE, Bool.false_eq_true, decide_true, decide_false, ge_iff_le, gt_iff_lt, set_get', j7, d8]; rfl) ?_))
      show Wc T _ _ _
      refine Wc_cond true (by simp [ev, upd]) (fun _ => Wc_skip ?_) (fun h => by cases h)
      exact hQ _ (fun t ht => by simp only [upd]; repeat rw [if_neg (by omega)]) (by simp [upd, o8])
    have d8 : (x.op == 21) = false := by simpa using o8
    refine Wc_seq (Wc_ops (Wo_run (fun call => by simp only [List.drop_succ_cons, List.drop_zero, iops_nil, iops_op, iops_grd, iK_some, iG_true, iG_false, gval_bool, beq_true, beq_false, Bool.not_true, Bool.not_false, iop, ev, upd, dstUpd, binV, binI, unV, ptr, Heap.cell, Heap.write, cellsOf, put, args0, partL, List.getD_cons_zero, List.getD_cons_succ, List.length_cons, List.length_nil, List.set_cons_zero, List.set_cons_succ, List.getElem?_cons_zero, List.getElem?_cons_succ, reduceIte, Nat.reduceEqDiff, Nat.reduceAdd, Nat.reduceMul, Nat.reduceLeDiff, Nat.zero_add, Nat.add_zero, Option.map_some, Int.reduceEq, Int.reduceLT, Int.reduceLE, Bool.false_eq_true, decide_true, decide_false, ge_iff_le, gt_iff_lt, set_get', j7, d8]; rfl) ?_))
    show Wc T _ _ _
    refine Wc_cond false (by simp [ev, upd]) (fun h => by cases h) (fun _ => ?_)
    refine Wc_ops (Wo_run (fun call => by simp only [List.drop_succ_cons, List.drop_zero, iops_nil, iops_op, iops_grd, iK_some, iG_true, iG_false, gval_bool, beq_true, beq_false, Bool.not_true, Bool.not_false, iop, ev, upd, dstUpd, binV, binI, unV, ptr, Heap.cell, Heap.write, cellsOf, put, args0, partL, List.getD_cons_zero, List.getD_cons_succ, List.length_cons, List.length_nil, List.set_cons_zero, List.set_cons_succ, List.getElem?_cons_zero, List.getElem?_cons_succ, reduceIte, Nat.reduceEqDiff, Nat.reduceAdd, Nat.reduceMul, Nat.reduceLeDiff, Nat.zero_add, Nat.add_zero, Option.map_some, Int.reduceEq, Int.reduceLT, Int.reduceLE, Bool.false_eq_true, decide_true, decide_false, ge_iff_le, gt_iff_lt, set_get', j7]; rfl) ?_)
    exact hQ _ (fun t ht => by simp only [upd]; repeat rw [if_neg (by omega)]) (by
      by_cases o13 : x.op = 22
      · simp [upd, o13]
      · simp [upd, o8, o13])
  refine Wc_seq (two _ fun e4 f4 k56 => ?_)
  show Wc T _ _ _
  have i4 : e4 4 = ptr h.next 0 := by rw [f4 4 (by omega)]; exact j4
  have i5 : e4 5 = ptr (h.next + 1) 0 := by rw [f4 5 (by omega)]; exact j5
  have i0 : e4 0 = ptr bm 0 := by rw [f4 0 (by omega)]; exact j0
  have i7 : e4 7 = .int .i64 x.op := by rw [f4 7 (by omega)]; exact j7
  clear two f4
  refine Wc_cond (decide (x.op = 21 ∨ x.op = 22)) (by simp [ev, k56]) (fun hd2 => ?_) (fun hd2 => ?_)
  · have o2 : x.op = 21 ∨ x.op = 22 := by simpa using hd2
    by_cases q0 : 0 ≤ x.k
    case neg =>
      have z0 : decide (0 ≤ x.k) = false := by simpa using q0
      refine Wc_draw_last 21 rfl (by decide) (fun call => by simp only [List.take_succ_cons, List.take_zero, iops_nil, iops_op, iops_grd, iK_some, iG_true, iG_false, gval_bool, beq_true, beq_false, Bool.not_true, Bool.not_false, iop, ev, upd, dstUpd, binV, binI, ptr, Heap.cell, args0, List.getD_cons_zero, List.getD_cons_succ, List.getElem?_cons_zero, List.getElem?_cons_succ, reduceIte, Nat.reduceEqDiff, Nat.reduceAdd, Nat.zero_add, Nat.add_zero, Option.map_some, Int.reduceEq, Bool.false_eq_true, decide_true, decide_false, ge_iff_le, gt_iff_lt, i0, i4, i5, g4, g5, gm, Fn.cells, Ins.cells, mCells, hlv, hcv, hfv, z0]; rfl) ?_
      show Wk T (.fn 38) [ptr bm 0, .bool false] h1 _
      refine (must38 h38 false gm).mono fun o h' ⟨u1, u2⟩ => ⟨u1, ?_⟩
      subst u1 u2
      exact badE _ (by rw [show numB c f x at' = false from by simp only [numB, if_neg o4, if_neg o5, if_neg o3, if_pos o2, decide_eq_true_eq, decide_eq_false_iff_not]; omega]; rfl)
    have p0 : decide (0 ≤ x.k) = true := by simpa using q0
    by_cases q1 : x.k < (f.code.length : Int)
    case neg =>
      have z1 : decide (x.k < (f.code.length : Int)) = false := by simpa using q1
      refine Wc_draw_last 21 rfl (by decide) (fun call => by simp only [List.take_succ_cons, List.take_zero, iops_nil, iops_op, iops_grd, iK_some, iG_true, iG_false, gval_bool, beq_true, beq_false, Bool.not_true, Bool.not_false, iop, ev, upd, dstUpd, binV, binI, ptr, Heap.cell, args0, List.getD_cons_zero, List.getD_cons_succ, List.getElem?_cons_zero, List.getElem?_cons_succ, reduceIte, Nat.reduceEqDiff, Nat.reduceAdd, Nat.zero_add, Nat.add_zero, Option.map_some, Int.reduceEq, Bool.false_eq_true, decide_true, decide_false, ge_iff_le, gt_iff_lt, i0, i4, i5, g4, g5, gm, Fn.cells, Ins.cells, mCells, hlv, hcv, hfv, z1, p0]; rfl) ?_
      show Wk T (.fn 38) [ptr bm 0, .bool false] h1 _
      refine (must38 h38 false gm).mono fun o h' ⟨u1, u2⟩ => ⟨u1, ?_⟩
      subst u1 u2
      exact badE _ (by rw [show numB c f x at' = false from by simp only [numB, if_neg o4, if_neg o5, if_neg o3, if_pos o2, decide_eq_true_eq, decide_eq_false_iff_not]; omega]; rfl)
    have p1 : decide (x.k < (f.code.length : Int)) = true := by simpa using q1
    by_cases q2 : x.k ≠ (at' : Int)
    case neg =>
      have z2 : (x.k != (at' : Int)) = false := by simpa using q2
      refine Wc_draw_last 21 rfl (by decide) (fun call => by simp only [List.take_succ_cons, List.take_zero, iops_nil, iops_op, iops_grd, iK_some, iG_true, iG_false, gval_bool, beq_true, beq_false, Bool.not_true, Bool.not_false, iop, ev, upd, dstUpd, binV, binI, ptr, Heap.cell, args0, List.getD_cons_zero, List.getD_cons_succ, List.getElem?_cons_zero, List.getElem?_cons_succ, reduceIte, Nat.reduceEqDiff, Nat.reduceAdd, Nat.zero_add, Nat.add_zero, Option.map_some, Int.reduceEq, Bool.false_eq_true, decide_true, decide_false, ge_iff_le, gt_iff_lt, i0, i4, i5, g4, g5, gm, Fn.cells, Ins.cells, mCells, hlv, hcv, hfv, z2, p0, p1]; rfl) ?_
      show Wk T (.fn 38) [ptr bm 0, .bool false] h1 _
      refine (must38 h38 false gm).mono fun o h' ⟨u1, u2⟩ => ⟨u1, ?_⟩
      subst u1 u2
      exact badE _ (by rw [show numB c f x at' = false from by simp only [numB, if_neg o4, if_neg o5, if_neg o3, if_pos o2, decide_eq_true_eq, decide_eq_false_iff_not]; omega]; rfl)
    have p2 : (x.k != (at' : Int)) = true := by simpa using q2
    refine Wc_draw_last 21 rfl (by decide) (fun call => by simp only [List.take_succ_cons, List.take_zero, iops_nil, iops_op, iops_grd, iK_some, iG_true, iG_false, gval_bool, beq_true, beq_false, Bool.not_true, Bool.not_false, iop, ev, upd, dstUpd, binV, binI, ptr, Heap.cell, args0, List.getD_cons_zero, List.getD_cons_succ, List.getElem?_cons_zero, List.getElem?_cons_succ, reduceIte, Nat.reduceEqDiff, Nat.reduceAdd, Nat.zero_add, Nat.add_zero, Option.map_some, Int.reduceEq, Bool.false_eq_true, decide_true, decide_false, ge_iff_le, gt_iff_lt, i0, i4, i5, g4, g5, gm, Fn.cells, Ins.cells, mCells, hlv, hcv, hfv, p0, p1, p2]; rfl) ?_
    show Wk T (.fn 38) [ptr bm 0, .bool true] h1 _
    refine (must38 h38 true gm).mono fun o h' ⟨u1, u2⟩ => ⟨u1, ?_⟩
    subst u1 u2
    exact goodE _ (by omega) (by simp only [numB, if_neg o4, if_neg o5, if_neg o3, if_pos o2, decide_eq_true_eq, decide_eq_false_iff_not]; omega)
  have o2 : ¬ (x.op = 21 ∨ x.op = 22) := by simpa using hd2
  by_cases o23 : x.op = 23
  · have d23 : (x.op == 23) = true := by simpa using o23
    refine Wc_seq (Wc_ops (Wo_run (fun call => by simp only [List.drop_succ_cons, List.drop_zero, iops_nil, iops_op, iops_grd, iK_some, iG_true, iG_false, gval_bool, beq_true, beq_false, Bool.not_true, Bool.not_false, iop, ev, upd, dstUpd, binV, binI, unV, ptr, Heap.cell, Heap.write, cellsOf, put, args0, partL, List.getD_cons_zero, List.getD_cons_succ, List.length_cons, List.length_nil, List.set_cons_zero, List.set_cons_succ, List.getElem?_cons_zero, List.getElem?_cons_succ, reduceIte, Nat.reduceEqDiff, Nat.reduceAdd, Nat.reduceMul, Nat.reduceLeDiff, Nat.zero_add, Nat.add_zero, Option.map_some, Int.reduceEq, Int.reduceLT, Int.reduceLE, Bool.false_eq_true, decide_true, decide_false, ge_iff_le, gt_iff_lt, set_get', i7, d23]; rfl) ?_))
    show Wc T _ _ _
    refine Wc_cond true (by simp [ev, upd]) (fun _ => ?_) (fun h => by cases h)
    have nb : numB c f x at' = (decide (0 ≤ x.k ∧ x.k < c.funcs.length) && ((c.funcs[x.k.toNat]?).map fun g => decide ((x.l.length : Int) = g.params)).getD false) := by simp only [numB, if_neg o4, if_neg o5, if_neg o3, if_neg o2, if_pos o23]
    by_cases q0 : 0 ≤ x.k
    case neg =>
      have z0 : decide (0 ≤ x.k) = false := by simpa using q0
      refine Wc_draw_last 32 rfl (by decide) (fun call => by simp only [List.take_succ_cons, List.take_zero, iops_nil, iops_op, iops_grd, iK_some, iG_true, iG_false, gval_bool, beq_true, beq_false, Bool.not_true, Bool.not_false, iop, ev, upd, dstUpd, binV, binI, ptr, Heap.cell, args0, List.getD_cons_zero, List.getD_cons_succ, List.getElem?_cons_zero, List.getElem?_cons_succ, reduceIte, Nat.reduceEqDiff, Nat.reduceAdd, Nat.zero_add, Nat.add_zero, Option.map_some, Int.reduceEq, Bool.false_eq_true, decide_true, decide_false, ge_iff_le, gt_iff_lt, i0, i4, i5, g4, g5, gm, Fn.cells, Ins.cells, mCells, hlv, hcv, hfv, z0]; rfl) ?_
      show Wk T (.fn 38) [ptr bm 0, .bool false] h1 _
      refine (must38 h38 false gm).mono fun o h' ⟨u1, u2⟩ => ⟨u1, ?_⟩
      subst u1 u2
      exact badE _ (by rw [nb, show decide (0 ≤ x.k ∧ x.k < (c.funcs.length : Int)) = false from by simp only [decide_eq_false_iff_not]; omega]; rfl)
    have p0 : decide (0 ≤ x.k) = true := by simpa using q0
    by_cases q1 : x.k < (c.funcs.length : Int)
    case neg =>
      have z1 : decide (x.k < (c.funcs.length : Int)) = false := by simpa using q1
      refine Wc_draw_last 32 rfl (by decide) (fun call => by simp only [List.take_succ_cons, List.take_zero, iops_nil, iops_op, iops_grd, iK_some, iG_true, iG_false, gval_bool, beq_true, beq_false, Bool.not_true, Bool.not_false, iop, ev, upd, dstUpd, binV, binI, ptr, Heap.cell, args0, List.getD_cons_zero, List.getD_cons_succ, List.getElem?_cons_zero, List.getElem?_cons_succ, reduceIte, Nat.reduceEqDiff, Nat.reduceAdd, Nat.zero_add, Nat.add_zero, Option.map_some, Int.reduceEq, Bool.false_eq_true, decide_true, decide_false, ge_iff_le, gt_iff_lt, i0, i4, i5, g4, g5, gm, Fn.cells, Ins.cells, mCells, hlv, hcv, hfv, z1, p0]; rfl) ?_
      show Wk T (.fn 38) [ptr bm 0, .bool false] h1 _
      refine (must38 h38 false gm).mono fun o h' ⟨u1, u2⟩ => ⟨u1, ?_⟩
      subst u1 u2
      exact badE _ (by rw [nb, show decide (0 ≤ x.k ∧ x.k < (c.funcs.length : Int)) = false from by simp only [decide_eq_false_iff_not]; omega]; rfl)
    have p1 : decide (x.k < (c.funcs.length : Int)) = true := by simpa using q1
    obtain ⟨g, hg⟩ : ∃ g, c.funcs[x.k.toNat]? = some g := ⟨_, List.getElem?_eq_getElem (by omega)⟩
    obtain ⟨bf, cf2, hfv2, hbf, ⟨of, zf, hgf⟩, _, hgin⟩ := ((hc.keep hk).funcs).load fnCells_len hg
    have hmax : (if (0 : Int) > x.k then (0 : Int) else x.k) = x.k := if_neg (by omega)
    have hidx : idxV c.funcs.length (.int .i64 x.k) = some x.k.toNat := by simp only [idxV]; rw [if_pos (by omega)]
    have hgq : (c.funcs.flatMap Fn.cells)[x.k.toNat * 4 + 1]? = some (.int .i64 g.params) := by
      have := flat_drop fnCells_len c.funcs x.k.toNat g hg
      have h2 : ((c.funcs.flatMap Fn.cells).drop (x.k.toNat * 4))[1]? = (((c.funcs.flatMap Fn.cells).drop (x.k.toNat * 4)).take 4)[1]? := by rw [List.getElem?_take_of_lt (by omega)]
      rw [this, List.getElem?_drop] at h2
      rw [h2]; rfl
    have hmm : ∀ (e : Env) (hq : Heap), e 108 = .int .i64 x.k → iop (.minmax true (.t 108) (.c (.int .i64 0))) e hq = some (.int .i64 x.k, hq) := by
      intro e hq he
      simp only [iop, ev, he, if_true, hmax]
    by_cases q2 : (x.l.length : Int) = g.params
    case neg =>
      have z2 : ((x.l.length : Int) == g.params) = false := by simpa using q2
      refine Wc_draw_last 32 rfl (by decide) (fun call => by simp only [List.take_succ_cons, List.take_zero, iops_nil, iops_op, iops_grd, iK_some, iG_true, iG_false, gval_bool, beq_true, beq_false, Bool.not_true, Bool.not_false, iop, ev, upd, dstUpd, binV, binI, ptr, Heap.cell, args0, List.getD_cons_zero, List.getD_cons_succ, List.getElem?_cons_zero, List.getElem?_cons_succ, reduceIte, Nat.reduceEqDiff, Nat.reduceAdd, Nat.zero_add, Nat.add_zero, Option.map_some, Int.reduceEq, Bool.false_eq_true, decide_true, decide_false, ge_iff_le, gt_iff_lt, i0, i4, i5, g4, g5, gm, Fn.cells, Ins.cells, mCells, hlv, hcv, p0, p1, hfv2, hmax, hidx, hgf, hgq, z2]; rfl) ?_
      show Wk T (.fn 38) [ptr bm 0, .bool false] h1 _
      refine (must38 h38 false gm).mono fun o h' ⟨u1, u2⟩ => ⟨u1, ?_⟩
      subst u1 u2
      exact badE _ (by rw [nb, hg]; simp [q2])
    have p2 : ((x.l.length : Int) == g.params) = true := by simpa using q2
    refine Wc_draw_last 32 rfl (by decide) (fun call => by simp only [List.take_succ_cons, List.take_zero, iops_nil, iops_op, iops_grd, iK_some, iG_true, iG_false, gval_bool, beq_true, beq_false, Bool.not_true, Bool.not_false, iop, ev, upd, dstUpd, binV, binI, ptr, Heap.cell, args0, List.getD_cons_zero, List.getD_cons_succ, List.getElem?_cons_zero, List.getElem?_cons_succ, reduceIte, Nat.reduceEqDiff, Nat.reduceAdd, Nat.zero_add, Nat.add_zero, Option.map_some, Int.reduceEq, Bool.false_eq_true, decide_true, decide_false, ge_iff_le, gt_iff_lt, i0, i4, i5, g4, g5, gm, Fn.cells, Ins.cells, mCells, hlv, hcv, p0, p1, hfv2, hmax, hidx, hgf, hgq, p2]; rfl) ?_
    show Wk T (.fn 38) [ptr bm 0, .bool true] h1 _
    refine (must38 h38 true gm).mono fun o h' ⟨u1, u2⟩ => ⟨u1, ?_⟩
    subst u1 u2
    exact goodE _ (by omega) (by rw [nb, hg]; simp [q2]; omega)
  have d23 : (x.op == 23) = false := by simpa using o23
  refine Wc_seq (Wc_ops (Wo_run (fun call => by simp only [List.drop_succ_cons, List.drop_zero, iops_nil, iops_op, iops_grd, iK_some, iG_true, iG_false, gval_bool, beq_true, beq_false, Bool.not_true, Bool.not_false, iop, ev, upd, dstUpd, binV, binI, unV, ptr, Heap.cell, Heap.write, cellsOf, put, args0, partL, List.getD_cons_zero, List.getD_cons_succ, List.length_cons, List.length_nil, List.set_cons_zero, List.set_cons_succ, List.getElem?_cons_zero, List.getElem?_cons_succ, reduceIte, Nat.reduceEqDiff, Nat.reduceAdd, Nat.reduceMul, Nat.reduceLeDiff, Nat.zero_add, Nat.add_zero, Option.map_some, Int.reduceEq, Int.reduceLT, Int.reduceLE, Bool.false_eq_true, decide_true, decide_false, ge_iff_le, gt_iff_lt, set_get', i7, d23]; rfl) ?_))
  show Wc T _ _ _
  refine Wc_cond false (by simp [ev, upd]) (fun h => by cases h) (fun _ => ?_)
  by_cases o27 : x.op = 27
  case neg =>
    have d27 : (x.op == 27) = false := by simpa using o27
    refine Wc_seq (Wc_ops (Wo_run (fun call => by simp only [List.drop_succ_cons, List.drop_zero, iops_nil, iops_op, iops_grd, iK_some, iG_true, iG_false, gval_bool, beq_true, beq_false, Bool.not_true, Bool.not_false, iop, ev, upd, dstUpd, binV, binI, unV, ptr, Heap.cell, Heap.write, cellsOf, put, args0, partL, List.getD_cons_zero, List.getD_cons_succ, List.length_cons, List.length_nil, List.set_cons_zero, List.set_cons_succ, List.getElem?_cons_zero, List.getElem?_cons_succ, reduceIte, Nat.reduceEqDiff, Nat.reduceAdd, Nat.reduceMul, Nat.reduceLeDiff, Nat.zero_add, Nat.add_zero, Option.map_some, Int.reduceEq, Int.reduceLT, Int.reduceLE, Bool.false_eq_true, decide_true, decide_false, ge_iff_le, gt_iff_lt, set_get', i7, d27]; rfl) ?_))
    show Wc T _ _ _
    refine Wc_cond false (by simp [ev, upd]) (fun h => by cases h) (fun _ => Wc_skip ?_)
    exact goodE _ o27 (by simp only [numB, if_neg o4, if_neg o5, if_neg o3, if_neg o2, if_neg o23, if_neg o27])
  have d27 : (x.op == 27) = true := by simpa using o27
  refine Wc_seq (Wc_ops (Wo_run (fun call => by simp only [List.drop_succ_cons, List.drop_zero, iops_nil, iops_op, iops_grd, iK_some, iG_true, iG_false, gval_bool, beq_true, beq_false, Bool.not_true, Bool.not_false, iop, ev, upd, dstUpd, binV, binI, unV, ptr, Heap.cell, Heap.write, cellsOf, put, args0, partL, List.getD_cons_zero, List.getD_cons_succ, List.length_cons, List.length_nil, List.set_cons_zero, List.set_cons_succ, List.getElem?_cons_zero, List.getElem?_cons_succ, reduceIte, Nat.reduceEqDiff, Nat.reduceAdd, Nat.reduceMul, Nat.reduceLeDiff, Nat.zero_add, Nat.add_zero, Option.map_some, Int.reduceEq, Int.reduceLT, Int.reduceLE, Bool.false_eq_true, decide_true, decide_false, ge_iff_le, gt_iff_lt, set_get', i7, d27]; rfl) ?_))
  show Wc T _ _ _
  refine Wc_cond true (by simp [ev, upd]) (fun _ => ?_) (fun h => by cases h)
  have nb : numB c f x at' = decide (0 ≤ x.k ∧ x.k < c.merges ∧ x.l.length ≤ 4) := by simp only [numB, if_neg o4, if_neg o5, if_neg o3, if_neg o2, if_neg o23, if_pos o27]
  have hkey : keyOf (.one (.int .i64)) (.int .i64 x.k) = some [.int .i64 x.k] := rfl
  have hfind := findK_seen x.k seen
  by_cases q0 : 0 ≤ x.k
  case neg =>
    have z0 : decide (0 ≤ x.k) = false := by simpa using q0
    refine Wc_seq (Wc_draw_last 30 rfl (by decide) (fun call => by simp only [List.take_succ_cons, List.take_zero, iops_nil, iops_op, iops_grd, iK_some, iG_true, iG_false, gval_bool, beq_true, beq_false, Bool.not_true, Bool.not_false, iop, ev, upd, dstUpd, binV, binI, ptr, Heap.cell, args0, List.getD_cons_zero, List.getD_cons_succ, List.getElem?_cons_zero, List.getElem?_cons_succ, reduceIte, Nat.reduceEqDiff, Nat.reduceAdd, Nat.zero_add, Nat.add_zero, Option.map_some, Int.reduceEq, Bool.false_eq_true, decide_true, decide_false, ge_iff_le, gt_iff_lt, i0, i4, i5, g4, g5, gm, Fn.cells, Ins.cells, mCells, hlv, hcv, hfv, z0]; rfl) ?_)
    show Wk T (.fn 38) [ptr bm 0, .bool false] h1 _
    refine (must38 h38 false gm).mono fun o h' ⟨u1, u2⟩ => ⟨u1, ?_⟩
    subst u1 u2
    exact badE _ (by rw [nb, show decide (0 ≤ x.k ∧ x.k < c.merges ∧ x.l.length ≤ 4) = false from by simp only [decide_eq_false_iff_not]; omega]; rfl)
  have p0 : decide (0 ≤ x.k) = true := by simpa using q0
  by_cases q1 : x.k < c.merges
  case neg =>
    have z1 : decide (x.k < c.merges) = false := by simpa using q1
    refine Wc_seq (Wc_draw_last 30 rfl (by decide) (fun call => by simp only [List.take_succ_cons, List.take_zero, iops_nil, iops_op, iops_grd, iK_some, iG_true, iG_false, gval_bool, beq_true, beq_false, Bool.not_true, Bool.not_false, iop, ev, upd, dstUpd, binV, binI, ptr, Heap.cell, args0, List.getD_cons_zero, List.getD_cons_succ, List.getElem?_cons_zero, List.getElem?_cons_succ, reduceIte, Nat.reduceEqDiff, Nat.reduceAdd, Nat.zero_add, Nat.add_zero, Option.map_some, Int.reduceEq, Bool.false_eq_true, decide_true, decide_false, ge_iff_le, gt_iff_lt, i0, i4, i5, g4, g5, gm, Fn.cells, Ins.cells, mCells, hlv, hcv, hfv, z1, p0]; rfl) ?_)
    show Wk T (.fn 38) [ptr bm 0, .bool false] h1 _
    refine (must38 h38 false gm).mono fun o h' ⟨u1, u2⟩ => ⟨u1, ?_⟩
    subst u1 u2
    exact badE _ (by rw [nb, show decide (0 ≤ x.k ∧ x.k < c.merges ∧ x.l.length ≤ 4) = false from by simp only [decide_eq_false_iff_not]; omega]; rfl)
  have p1 : decide (x.k < c.merges) = true := by simpa using q1
  by_cases q2 : (x.l.length : Int) ≤ 4
  case neg =>
    have z2 : decide ((x.l.length : Int) ≤ 4) = false := by simpa using q2
    refine Wc_seq (Wc_draw_last 30 rfl (by decide) (fun call => by simp only [List.take_succ_cons, List.take_zero, iops_nil, iops_op, iops_grd, iK_some, iG_true, iG_false, gval_bool, beq_true, beq_false, Bool.not_true, Bool.not_false, iop, ev, upd, dstUpd, binV, binI, ptr, Heap.cell, args0, List.getD_cons_zero, List.getD_cons_succ, List.getElem?_cons_zero, List.getElem?_cons_succ, reduceIte, Nat.reduceEqDiff, Nat.reduceAdd, Nat.zero_add, Nat.add_zero, Option.map_some, Int.reduceEq, Bool.false_eq_true, decide_true, decide_false, ge_iff_le, gt_iff_lt, i0, i4, i5, g4, g5, gm, Fn.cells, Ins.cells, mCells, hlv, hcv, hfv, z2, p0, p1]; rfl) ?_)
    show Wk T (.fn 38) [ptr bm 0, .bool false] h1 _
    refine (must38 h38 false gm).mono fun o h' ⟨u1, u2⟩ => ⟨u1, ?_⟩
    subst u1 u2
    exact badE _ (by rw [nb, show decide (0 ≤ x.k ∧ x.k < c.merges ∧ x.l.length ≤ 4) = false from by simp only [decide_eq_false_iff_not]; omega]; rfl)
  have p2 : decide ((x.l.length : Int) ≤ 4) = true := by simpa using q2
  have nbt : numB c f x at' = true := by rw [nb]; simp only [decide_eq_true_eq]; omega
  by_cases q3 : x.k ∈ seen
  · rw [if_pos q3] at hfind
    refine Wc_seq (Wc_draw_last 30 rfl (by decide) (fun call => by simp only [List.take_succ_cons, List.take_zero, iops_nil, iops_op, iops_grd, iK_some, iG_true, iG_false, gval_bool, beq_true, beq_false, Bool.not_true, Bool.not_false, iop, ev, upd, dstUpd, binV, binI, ptr, Heap.cell, args0, List.getD_cons_zero, List.getD_cons_succ, List.getElem?_cons_zero, List.getElem?_cons_succ, reduceIte, Nat.reduceEqDiff, Nat.reduceAdd, Nat.zero_add, Nat.add_zero, Option.map_some, Int.reduceEq, Bool.false_eq_true, decide_true, decide_false, ge_iff_le, gt_iff_lt, i0, i4, i5, g4, g5, gm, Fn.cells, Ins.cells, mCells, hlv, hcv, hfv, p0, p1, p2, gp, hkey, Int.reduceBEq, hfind]; rfl) ?_)
    show Wk T (.fn 38) [ptr bm 0, .bool false] h1 _
    refine (must38 h38 false gm).mono fun o h' ⟨u1, u2⟩ => ⟨u1, ?_⟩
    subst u1 u2
    exact badE _ (by rw [nbt, newB]; simp [o27, q3])
  · rw [if_neg q3] at hfind
    refine Wc_seq (Wc_draw_last 30 rfl (by decide) (fun call => by simp only [List.take_succ_cons, List.take_zero, iops_nil, iops_op, iops_grd, iK_some, iG_true, iG_false, gval_bool, beq_true, beq_false, Bool.not_true, Bool.not_false, iop, ev, upd, dstUpd, binV, binI, ptr, Heap.cell, args0, List.getD_cons_zero, List.getD_cons_succ, List.getElem?_cons_zero, List.getElem?_cons_succ, reduceIte, Nat.reduceEqDiff, Nat.reduceAdd, Nat.zero_add, Nat.add_zero, Option.map_some, Int.reduceEq, Bool.false_eq_true, decide_true, decide_false, ge_iff_le, gt_iff_lt, i0, i4, i5, g4, g5, gm, Fn.cells, Ins.cells, mCells, hlv, hcv, hfv, p0, p1, p2, gp, hkey, Int.reduceBEq, hfind]; rfl) ?_)
    show Wk T (.fn 38) [ptr bm 0, .bool true] h1 _
    refine (must38 h38 true gm).mono fun o h' ⟨u1, u2⟩ => ⟨u1, ?_⟩
    subst u1 u2
    show Wc T _ _ _
    have w1 : IntKind.i64.wrap (0 + 1) = 1 := by decide
    have hset := setK_seen x.k seen q3
    refine Wc_draw_still (by decide) (Wo_run (fun call => by simp only [iops_nil, iops_op, iK_some, iop, ev, upd, dstUpd, binV, binI, ptr, Heap.cell, reduceIte, Nat.reduceEqDiff, Nat.reduceAdd, Nat.zero_add, Option.map_some, i0, i4, i5, g4, g5, gm, Fn.cells, Ins.cells, mCells, gp, hkey, hfind, w1, hset, Bool.false_eq_true, List.getElem?_cons_zero, List.getElem?_cons_succ]; rfl) ⟨rfl, ?_⟩)
    have hN : newB x seen = true := by simp [newB, q3]
    refine ⟨rfl, [], rfl, ⟨hk.next, fun b hb hbm => ?_⟩, by rw [nbt, hN]; rfl, fun _ => ?_⟩
    · rw [set_get_ne' _ _ hbm]; exact hk.get b hb
    · rw [seenNow, if_pos o27]; exact set_get' _ _ _

end Go.Idl
end

section
/- The checker at an instruction. -/
namespace Go.Idl
set_option linter.unusedVariables false
set_option linter.unusedSimpArgs false
set_option maxRecDepth 100000

def nameOf (x : Ins) : List UInt8 := (rowAt x.op).1
def fieldsOf (x : Ins) : List UInt8 := (rowAt x.op).2.1
def wr (x : Ins) : List UInt8 := (rowAt x.op).2.2.2

theorem rows_ok2 : (rowsT.all fun r => decide (r.2.1.length ≤ 8) && decide (r.2.2.2.length ≤ 8) && (r.2.1.all fun c => decide (c.toNat < 128)) && r.2.2.2.all fun c => decide (c.toNat < 128)) = true := by decide
theorem row_ok2 (x : Ins) : (fieldsOf x).length ≤ 8 ∧ (wr x).length ≤ 8 ∧ (∀ c ∈ fieldsOf x, c.toNat < 128) ∧ ∀ c ∈ wr x, c.toNat < 128 := by
  unfold fieldsOf wr rowAt
  split
  · rename_i h
    have hl : rowsT.length = 29 := by decide
    have hlt : x.op.toNat < rowsT.length := by omega
    rw [List.getD_eq_getElem?_getD, List.getElem?_eq_getElem hlt, Option.getD_some]
    have := List.all_eq_true.1 rows_ok2 _ (List.getElem_mem hlt)
    simp only [Bool.and_eq_true, decide_eq_true_eq, List.all_eq_true] at this
    exact ⟨this.1.1.1, this.1.1.2, this.1.2, this.2⟩
  · exact ⟨by simp, by simp, by simp, by simp⟩

def inB (f : Fn) (n : Int) : Bool := decide (0 ≤ n ∧ n < f.regs)
def letB (f : Fn) (x : Ins) (c : UInt8) : Bool := ((fieldsOf x).contains c || fld x c.toNat == 0) && (!(rd x ++ wr x).contains c || inB f (fld x c.toNat))
def klB (x : Ins) : Bool := ((fieldsOf x).contains 75 || x.k == 0) && ((fieldsOf x).contains 76 || decide (x.l.length = 0))
def lastB (f : Fn) (x : Ins) (at' : Nat) : Bool := !decide ((at' : Int) = f.code.length - 1) || decide (x.op = 21 ∨ x.op = 24 ∨ x.op = 25)
def preB (f : Fn) (x : Ins) (at' : Nat) : Bool := !decide (nameOf x = []) && [65, 66, 67].all (letB f x) && klB x && x.l.all (inB f) && lastB f x at'
def insB (c : Cod) (f : Fn) (x : Ins) (at' : Nat) : Bool := preB f x at' && numB c f x at'

theorem wrap_sub1 {n : Nat} (h : n ≤ maxLen) : IntKind.i64.wrap ((n : Int) - 1) = (n : Int) - 1 := by
  unfold maxLen at h
  rw [wrap64] <;> omega

theorem ins39 {T : Tbl} (hT : T.fn 39 = some C39) (h38 : T.fn 38 = some C38) (h47 : T.fn 47 = some C47) (h26 : T.fn 26 = some C26) (h45 : T.fn 45 = some C45) (h46 : T.fn 46 = some C46) (h59 : T.fn 59 = some C59) (h66 : T.fn 66 = some C66) (h68 : T.fn 68 = none) (hp68 : T.prim 68 = some idxP)
    (h25 : ∀ {op : Int} {h : Heap} {K : Out → Heap → Prop}, K (.ret (.agg (rowL op).toArray)) h → Wk T (.fn 25) [.int .i64 op] h K)
    {h : Heap} {c : Cod} {f : Fn} {x : Ins} {n at' bm mb : Nat} {seen : List Int} (hM : Mach h c n at' bm mb seen) (hc : c.Ok h) (hf : f.Ok h) (hx : x.Ok h) :
    Wk T (.fn 39) [ptr bm 0, .agg f.cells.toArray, .agg x.cells.toArray] h (fun o h' => KeptBut mb h h' ∧ o = mustO n at' (insB c f x at' && newB x seen) ∧ ((insB c f x at' && newB x seen) = true → h'.get mb = some (.map (.one (.int .i64)) (seenES (seenNow x seen))))) := by
  refine Wk_fn2 hT (by simp [C39]) ?_
  have hb : iop (.box (.t 1)) (args0 [ptr bm 0, .agg f.cells.toArray, .agg x.cells.toArray]) h = some (ptr h.next 0, h.new (.cells f.cells true 0)) := by simp [iop, ev, args0, cellsOf]
  have hb2 : iop (.box (.t 2)) (dstUpd (args0 [ptr bm 0, .agg f.cells.toArray, .agg x.cells.toArray]) (some 4) (ptr h.next 0)) (h.new (.cells f.cells true 0)) = some (ptr (h.next + 1) 0, (h.new (.cells f.cells true 0)).new (.cells x.cells true 0)) := by simp [iop, ev, args0, cellsOf, dstUpd, upd, new_next]
  simp only [C39]
  refine Wc_seq (Wc_ops (Wo_op hb (Wo_op hb2 (Wo_nil ?_))))
  show Wc T _ _ _
  have g5' : ((h.new (.cells f.cells true 0)).new (.cells x.cells true 0)).get (h.next + 1) = some (.cells x.cells true 0) := new_get' _ _
  have g4' : ((h.new (.cells f.cells true 0)).new (.cells x.cells true 0)).get h.next = some (.cells f.cells true 0) := by rw [new_get_ne' _ _ (by rw [new_next]; omega), new_get']
  have hk1 : Kept h ((h.new (.cells f.cells true 0)).new (.cells x.cells true 0)) := ((Kept.refl h).new _).new _
  have hn1 : ((h.new (.cells f.cells true 0)).new (.cells x.cells true 0)).next = h.next + 2 := rfl
  generalize (h.new (.cells f.cells true 0)).new (.cells x.cells true 0) = h1 at g4' g5' hk1 hn1 ⊢
  refine Wc_seq (Wc_ops (Wo_pre 2 (fun call => by simp only [List.take_succ_cons, List.take_zero, List.drop_succ_cons, List.drop_zero, iops_nil, iops_op, iops_grd, iK_some, iG_true, iG_false, gval_bool, beq_true, beq_false, Bool.not_true, Bool.not_false, iop, ev, upd, dstUpd, binV, binI, unV, ptr, Heap.cell, Heap.write, cellsOf, put, args0, partL, List.getD_cons_zero, List.getD_cons_succ, List.length_cons, List.length_nil, List.set_cons_zero, List.set_cons_succ, List.getElem?_cons_zero, List.getElem?_cons_succ, reduceIte, Nat.reduceEqDiff, Nat.reduceAdd, Nat.reduceMul, Nat.reduceLeDiff, Nat.zero_add, Nat.add_zero, Option.map_some, Int.reduceEq, Int.reduceLT, Int.reduceLE, Bool.false_eq_true, decide_true, decide_false, ge_iff_le, gt_iff_lt, set_get', g5', Ins.cells]; rfl) ?_))
  refine Wo_call (h25 ?_)
  show Wo T _ _ _
  refine Wo_op rfl (Wo_op (iop_store (b := h1.next) (esz := 0) (cs := rowL x.op) (z := [(.string ⟨#[]⟩), (.string ⟨#[]⟩), (.string ⟨#[]⟩), (.string ⟨#[]⟩)]) (by simp only [upd, dstUpd, reduceIte, Nat.reduceEqDiff]) (by simp only [upd, dstUpd, reduceIte, Nat.reduceEqDiff]) rfl (new_get' _ _) rfl) (Wo_nil ?_))
  show Wc T _ _ _
  have hk2' : Kept h1 ((h1.new (.cells [(.string ⟨#[]⟩), (.string ⟨#[]⟩), (.string ⟨#[]⟩), (.string ⟨#[]⟩)] true 0)).set h1.next (.cells (rowL x.op) true 0)) := ((Kept.refl h1).new _).set (Nat.le_refl _) _
  have g6' : ((h1.new (.cells [(.string ⟨#[]⟩), (.string ⟨#[]⟩), (.string ⟨#[]⟩), (.string ⟨#[]⟩)] true 0)).set h1.next (.cells (rowL x.op) true 0)).get h1.next = some (.cells (rowL x.op) true 0) := set_get' _ _ _
  have hn2 : ((h1.new (.cells [(.string ⟨#[]⟩), (.string ⟨#[]⟩), (.string ⟨#[]⟩), (.string ⟨#[]⟩)] true 0)).set h1.next (.cells (rowL x.op) true 0)).next = h.next + 3 := by rw [set_next, new_next, hn1]
  generalize (h1.new (.cells [(.string ⟨#[]⟩), (.string ⟨#[]⟩), (.string ⟨#[]⟩), (.string ⟨#[]⟩)] true 0)).set h1.next (.cells (rowL x.op) true 0) = h2 at hk2' g6' hn2 ⊢
  have hk2 : Kept h h2 := hk1.trans hk2'
  rw [hn1] at g6'
  have g4 : ∀ {hq : Heap}, Kept h2 hq → hq.get h.next = some (.cells f.cells true 0) := fun k => by rw [k.get _ (by omega), hk2'.get _ (by omega)]; exact g4'
  have g5 : ∀ {hq : Heap}, Kept h2 hq → hq.get (h.next + 1) = some (.cells x.cells true 0) := fun k => by rw [k.get _ (by omega), hk2'.get _ (by omega)]; exact g5'
  have g6 : ∀ {hq : Heap}, Kept h2 hq → hq.get (h.next + 2) = some (.cells (rowL x.op) true 0) := fun k => by rw [k.get _ (by omega)]; exact g6'
  have gm : ∀ {hq : Heap}, Kept h2 hq → hq.get bm = some (.cells (mCells c n at' mb) true 0) := fun k => by rw [k.get _ (by have := hM.bm; omega), hk2.get _ hM.bm]; exact hM.m
  have gp : ∀ {hq : Heap}, Kept h2 hq → hq.get mb = some (.map (.one (.int .i64)) (seenES seen)) := fun k => by rw [k.get _ (by have := hM.mb; omega), hk2.get _ hM.mb]; exact hM.mp
  obtain ⟨pl, cl, hlv⟩ := hx.ints.len
  obtain ⟨pc, cc, hcv⟩ := hf.code.len
  obtain ⟨hr3, hasc⟩ := rd_ok x
  obtain ⟨hf8, hw8, hfa, hwa⟩ := row_ok2 x
  have badE : ∀ (e' : Env) (hq : Heap), Kept h2 hq → preB f x at' = false → Fin2 C39 (fun o h' => KeptBut mb h h' ∧ o = mustO n at' (insB c f x at' && newB x seen) ∧ ((insB c f x at' && newB x seen) = true → h'.get mb = some (.map (.one (.int .i64)) (seenES (seenNow x seen))))) (.pan (wrongV n at')) ⟨e', hq, some []⟩ := by
    intro e' hq hkq hB
    have hI : (insB c f x at' && newB x seen) = false := by simp [insB, hB]
    exact ⟨rfl, (hk2.trans hkq).but mb, by rw [hI]; rfl, fun h => by rw [hI] at h; cases h⟩
  have hr1 : rowL x.op = [.string ⟨(nameOf x).toArray⟩, .string ⟨(fieldsOf x).toArray⟩, .string ⟨(rd x).toArray⟩, .string ⟨(wr x).toArray⟩] := rfl
  -- the name
  by_cases hname : nameOf x = []
  · have hd : (!decide ((⟨(nameOf x).toArray⟩ : ByteArray) = ⟨#[]⟩)) = false := by rw [str_empty]; simp [hname]
    refine Wc_seq (Wc_ops (Wo_pre 4 (fun call => by simp only [List.take_succ_cons, List.take_zero, List.drop_succ_cons, List.drop_zero, iops_nil, iops_op, iops_grd, iK_some, iG_true, iG_false, gval_bool, beq_true, beq_false, Bool.not_true, Bool.not_false, iop, ev, upd, dstUpd, binV, binI, unV, ptr, Heap.cell, Heap.write, cellsOf, put, args0, partL, List.getD_cons_zero, List.getD_cons_succ, List.length_cons, List.length_nil, List.set_cons_zero, List.set_cons_succ, List.getElem?_cons_zero, List.getElem?_cons_succ, reduceIte, Nat.reduceEqDiff, Nat.reduceAdd, Nat.reduceMul, Nat.reduceLeDiff, Nat.zero_add, Nat.add_zero, Option.map_some, Int.reduceEq, Int.reduceLT, Int.reduceLE, Bool.false_eq_true, decide_true, decide_false, ge_iff_le, gt_iff_lt, set_get', hn1, g6 (.refl _), hr1, hd]; rfl) ?_))
    refine Wo_must h38 false (gm (.refl _)) (by simp only [upd, dstUpd, reduceIte, Nat.reduceEqDiff, ev, args0]; rfl) (by simp only [upd, dstUpd, reduceIte, Nat.reduceEqDiff, ev]) (fun h => by cases h) (fun _ => ?_)
    exact badE _ _ (.refl _) (by simp [preB, hname])
  have hd : (!decide ((⟨(nameOf x).toArray⟩ : ByteArray) = ⟨#[]⟩)) = true := by rw [str_empty]; simp [hname]
  refine Wc_seq (Wc_ops (Wo_pre 4 (fun call => by simp only [List.take_succ_cons, List.take_zero, List.drop_succ_cons, List.drop_zero, iops_nil, iops_op, iops_grd, iK_some, iG_true, iG_false, gval_bool, beq_true, beq_false, Bool.not_true, Bool.not_false, iop, ev, upd, dstUpd, binV, binI, unV, ptr, Heap.cell, Heap.write, cellsOf, put, args0, partL, List.getD_cons_zero, List.getD_cons_succ, List.length_cons, List.length_nil, List.set_cons_zero, List.set_cons_succ, List.getElem?_cons_zero, List.getElem?_cons_succ, reduceIte, Nat.reduceEqDiff, Nat.reduceAdd, Nat.reduceMul, Nat.reduceLeDiff, Nat.zero_add, Nat.add_zero, Option.map_some, Int.reduceEq, Int.reduceLT, Int.reduceLE, Bool.false_eq_true, decide_true, decide_false, ge_iff_le, gt_iff_lt, set_get', hn1, g6 (.refl _), hr1, hd]; rfl) ?_))
  refine Wo_must h38 true (gm (.refl _)) (by simp only [upd, dstUpd, reduceIte, Nat.reduceEqDiff, ev, args0]; rfl) (by simp only [upd, dstUpd, reduceIte, Nat.reduceEqDiff, ev]) (fun _ => Wo_nil ?_) (fun h => by cases h)
  show Wc T _ _ _
  -- the letters
  refine Wc_seq (Wc_seq (Wc_ops (Wo_run (fun call => by simp only [List.drop_succ_cons, List.drop_zero, iops_nil, iops_op, iops_grd, iK_some, iG_true, iG_false, gval_bool, beq_true, beq_false, Bool.not_true, Bool.not_false, iop, ev, upd, dstUpd, binV, binI, unV, ptr, Heap.cell, Heap.write, cellsOf, put, args0, partL, List.getD_cons_zero, List.getD_cons_succ, List.length_cons, List.length_nil, List.set_cons_zero, List.set_cons_succ, List.getElem?_cons_zero, List.getElem?_cons_succ, reduceIte, Nat.reduceEqDiff, Nat.reduceAdd, Nat.reduceMul, Nat.reduceLeDiff, Nat.zero_add, Nat.add_zero, Option.map_some, Int.reduceEq, Int.reduceLT, Int.reduceLE, Bool.false_eq_true, decide_true, decide_false, ge_iff_le, gt_iff_lt, set_get']; rfl) ?_)))
  show Wc T _ _ _
  have gs0 : (h2.new (.siter ⟨#[65, 66, 67]⟩ 0)).get h2.next = some (.siter ⟨#[65, 66, 67]⟩ 0) := new_get' _ _
  have hk3 : Kept h2 (h2.new (.siter ⟨#[65, 66, 67]⟩ 0)) := (Kept.refl h2).new _
  have hn3 : h2.next < (h2.new (.siter ⟨#[65, 66, 67]⟩ 0)).next := Nat.lt_succ_self _
  generalize h2.new (.siter ⟨#[65, 66, 67]⟩ 0) = h3 at gs0 hk3 hn3 ⊢
  refine Wc_block (Wc_loop (fun s => s.d = some [] ∧ Kept h2 s.h ∧ h2.next < s.h.next ∧ s.e 0 = ptr bm 0 ∧ s.e 4 = ptr h.next 0 ∧ s.e 5 = ptr (h.next + 1) 0 ∧ s.e 6 = ptr (h.next + 2) 0 ∧ s.e 20 = ptr h2.next 0 ∧
      ∃ k : Nat, k ≤ 3 ∧ s.h.get h2.next = some (.siter ⟨#[65, 66, 67]⟩ k) ∧ ∀ c ∈ ([65, 66, 67] : List UInt8).take k, letB f x c = true)
    (fun s => match s.h.get h2.next with | some (.siter _ k) => 3 - k | _ => 0) ?_ ?_)
  · exact ⟨rfl, hk3, hn3, by simp [upd, dstUpd, args0, ptr], by simp [upd, dstUpd, ptr], by simp [upd, dstUpd, ptr], by simp [upd, dstUpd, ptr, hn1], by simp [upd, dstUpd, ptr], 0, by omega, gs0, by simp⟩
  rintro ⟨e, hp, d⟩ ⟨hd', hkp, hnp, k0, k4, k5, k6, k20, k, hkl, gs, hall⟩
  simp only at hd' hkp hnp k0 k4 k5 k6 k20 gs
  subst hd'
  rw [C39L0]
  have hsz : (⟨#[65, 66, 67]⟩ : ByteArray).size = 3 := rfl
  by_cases hend : k < 3
  case neg =>
    have hkk : k = 3 := by omega
    subst hkk
    have hlt : ¬ 3 < (⟨#[65, 66, 67]⟩ : ByteArray).size := by rw [hsz]; omega
    refine Wc_seq (Wc_ops (Wo_run (fun call => by simp only [List.drop_succ_cons, List.drop_zero, iops_nil, iops_op, iops_grd, iK_some, iG_true, iG_false, gval_bool, beq_true, beq_false, Bool.not_true, Bool.not_false, iop, ev, upd, dstUpd, binV, binI, unV, ptr, Heap.cell, Heap.write, cellsOf, put, args0, partL, List.getD_cons_zero, List.getD_cons_succ, List.length_cons, List.length_nil, List.set_cons_zero, List.set_cons_succ, List.getElem?_cons_zero, List.getElem?_cons_succ, reduceIte, Nat.reduceEqDiff, Nat.reduceAdd, Nat.reduceMul, Nat.reduceLeDiff, Nat.zero_add, Nat.add_zero, Option.map_some, Int.reduceEq, Int.reduceLT, Int.reduceLE, Bool.false_eq_true, decide_true, decide_false, ge_iff_le, gt_iff_lt, set_get', k20, gs, hlt]; rfl) ?_))
    show Wc T _ _ _
    refine Wc_seq (Wc_cond false (by simp [ev, upd]) (fun h => by cases h) (fun _ => Wc_exit ?_))
    show Wc T _ _ _
    have hlets : [65, 66, 67].all (letB f x) = true := List.all_eq_true.2 fun c hc => hall c hc
    -- K and L
    have c46 : ∀ (z : UInt8) (hq : Heap), Wk T (.fn 46) [.string ⟨(fieldsOf x).toArray⟩, .string ⟨#[z]⟩] hq (fun o h' => Kept hq h' ∧ o = .ret (.bool ((fieldsOf x).contains z))) := fun z hq => contains46 h46 h59 h66 h68 hp68 (fieldsOf x) (by omega) z hq
    have tail : ∀ (e' : Env) (hq : Heap), Kept h2 hq → e' 0 = ptr bm 0 → e' 4 = ptr h.next 0 → e' 5 = ptr (h.next + 1) 0 → klB x = true → Wc T (.seq (.seq (.ops [⟨(some 75), .op (.faddr 5 (.t 5)), none⟩, ⟨(some 76), .op (.load none (.t 75)), none⟩, ⟨(some 77), .op (.len .sl (.t 76)), none⟩, ⟨(some 78), .op (.mov (.c (.int .i64 0))), none⟩]) (.block 2 (.loop C39L1)))
        (.seq (.seq (.draw [⟨(some 93), .op (.mov (.t 0)), none⟩, ⟨(some 94), .op (.nilck (.t 93)), none⟩, ⟨(some 95), .op (.faddr 4 (.t 94)), none⟩, ⟨(some 96), .op (.load none (.t 95)), none⟩, ⟨(some 97), .op (.faddr 3 (.t 4)), none⟩, ⟨(some 98), .op (.load none (.t 97)), none⟩, ⟨(some 99), .op (.len .sl (.t 98)), none⟩, ⟨(some 100), .op (.bin .sub (.t 99) (.c (.int .i64 1))), none⟩, ⟨(some 101), .op (.bin .eql (.t 96) (.t 100)), none⟩]
          [[], [0], [1, 0], [2, 1, 0], [], [4], [5, 4], [6, 5, 4], [7, 6, 5, 4, 3, 2, 1, 0]])
        (.cond (.t 101)
          (.ops [⟨(some 102), .op (.mov (.t 0)), none⟩, ⟨(some 103), .op (.faddr 0 (.t 5)), none⟩, ⟨(some 104), .op (.load none (.t 103)), none⟩, ⟨(some 105), .op (.bin .eql (.t 104) (.c (.int .i64 21))), none⟩, ⟨(some 106), .op (.mov (.t 105)), none⟩, ⟨(some 107), .op (.faddr 0 (.t 5)), (some (106, false))⟩, ⟨(some 108), .op (.load none (.t 107)), (some (106, false))⟩, ⟨(some 109), .op (.bin .eql (.t 108) (.c (.int .i64 24))), (some (106, false))⟩, ⟨(some 110), .op (.pick (.t 106) (.c (.bool true)) (.t 109)), none⟩, ⟨(some 111), .op (.mov (.t 110)), none⟩, ⟨(some 112), .op (.faddr 0 (.t 5)), (some (111, false))⟩, ⟨(some 113), .op (.load none (.t 112)), (some (111, false))⟩, ⟨(some 114), .op (.bin .eql (.t 113) (.c (.int .i64 25))), (some (111, false))⟩, ⟨(some 115), .op (.pick (.t 111) (.c (.bool true)) (.t 114)), none⟩, ⟨(some 116), .call 38 [(.t 102), (.t 115)], none⟩])
          .skip))
        (.ops [⟨(some 117), .op (.mov (.t 0)), none⟩, ⟨(some 118), .op (.load (some 4) (.t 4)), none⟩, ⟨(some 119), .op (.load (some 6) (.t 5)), none⟩, ⟨(some 120), .call 47 [(.t 117), (.t 118), (.t 119)], none⟩]))) ⟨e', hq, some []⟩
        (Fin2 C39 (fun o h' => KeptBut mb h h' ∧ o = mustO n at' (insB c f x at' && newB x seen) ∧ ((insB c f x at' && newB x seen) = true → h'.get mb = some (.map (.one (.int .i64)) (seenES (seenNow x seen)))))) := by
      intro e' hq hkq j0 j4 j5 hkl
      refine Wc_seq (Wc_seq (Wc_ops (Wo_run (fun call => by simp only [List.drop_succ_cons, List.drop_zero, iops_nil, iops_op, iops_grd, iK_some, iG_true, iG_false, gval_bool, beq_true, beq_false, Bool.not_true, Bool.not_false, iop, ev, upd, dstUpd, binV, binI, unV, ptr, Heap.cell, Heap.write, cellsOf, put, args0, partL, List.getD_cons_zero, List.getD_cons_succ, List.length_cons, List.length_nil, List.set_cons_zero, List.set_cons_succ, List.getElem?_cons_zero, List.getElem?_cons_succ, reduceIte, Nat.reduceEqDiff, Nat.reduceAdd, Nat.reduceMul, Nat.reduceLeDiff, Nat.zero_add, Nat.add_zero, Option.map_some, Int.reduceEq, Int.reduceLT, Int.reduceLE, Bool.false_eq_true, decide_true, decide_false, ge_iff_le, gt_iff_lt, set_get', j5, g5 hkq, Ins.cells, hlv]; rfl) ?_)))
      show Wc T _ _ _
      refine Wc_block (Wc_loop (fun s => s.d = some [] ∧ s.h = hq ∧ s.e 0 = ptr bm 0 ∧ s.e 4 = ptr h.next 0 ∧ s.e 5 = ptr (h.next + 1) 0 ∧ s.e 76 = x.lv ∧ s.e 77 = .int .i64 x.l.length ∧ ∃ i : Nat, i ≤ x.l.length ∧ s.e 78 = .int .i64 i ∧ ∀ m ∈ x.l.take i, inB f m = true)
        (fun s => match s.e 78 with | .int _ i => (x.l.length - i).toNat | _ => 0) ?_ ?_)
      · exact ⟨rfl, rfl, by simp [upd, j0], by simp [upd, j4], by simp [upd, j5], by simp [upd, hlv], by simp [upd], 0, Nat.zero_le _, by simp [upd], by simp⟩
      rintro ⟨e2, hq2, d2⟩ ⟨hd2, hh2, i0, i4, i5, i76, i77, i, hi, i78, hin⟩
      simp only at hd2 hh2 i0 i4 i5 i76 i77 i78
      subst hd2 hh2
      rw [C39L1]
      refine Wc_seq (Wc_ops (Wo_run (fun call => by simp only [List.drop_succ_cons, List.drop_zero, iops_nil, iops_op, iops_grd, iK_some, iG_true, iG_false, gval_bool, beq_true, beq_false, Bool.not_true, Bool.not_false, iop, ev, upd, dstUpd, binV, binI, unV, ptr, Heap.cell, Heap.write, cellsOf, put, args0, partL, List.getD_cons_zero, List.getD_cons_succ, List.length_cons, List.length_nil, List.set_cons_zero, List.set_cons_succ, List.getElem?_cons_zero, List.getElem?_cons_succ, reduceIte, Nat.reduceEqDiff, Nat.reduceAdd, Nat.reduceMul, Nat.reduceLeDiff, Nat.zero_add, Nat.add_zero, Option.map_some, Int.reduceEq, Int.reduceLT, Int.reduceLE, Bool.false_eq_true, decide_true, decide_false, ge_iff_le, gt_iff_lt, set_get', i77, i78]; rfl) ?_))
      show Wc T _ _ _
      refine Wc_seq (Wc_cond (decide ((i : Int) < x.l.length)) (by simp [ev, upd]) (fun hlt => Wc_skip ?_) (fun hge => Wc_exit ?_))
      · show Wc T _ _ _
        have hil : i < x.l.length := by simpa using hlt
        obtain ⟨m, hmi⟩ : ∃ m, x.l[i]? = some m := ⟨_, List.getElem?_eq_getElem hil⟩
        obtain ⟨bx, cx, hva, hbx, ⟨o1, z1, hgx⟩, hcx⟩ := (((hx.keep hk2).keep hkq).ints).load hmi
        rw [Nat.zero_add, Nat.mul_one] at hcx
        have e1' : IntKind.i64.wrap ((i : Int) + 1) = ((i + 1 : Nat) : Int) := by
          have := hx.len
          unfold maxLen at this
          rw [wrap64] <;> omega
        refine Wc_seq (Wc_block (Wc_seq (Wc_ops (Wo_run (fun call => by simp only [List.drop_succ_cons, List.drop_zero, iops_nil, iops_op, iops_grd, iK_some, iG_true, iG_false, gval_bool, beq_true, beq_false, Bool.not_true, Bool.not_false, iop, ev, upd, dstUpd, binV, binI, unV, ptr, Heap.cell, Heap.write, cellsOf, put, args0, partL, List.getD_cons_zero, List.getD_cons_succ, List.length_cons, List.length_nil, List.set_cons_zero, List.set_cons_succ, List.getElem?_cons_zero, List.getElem?_cons_succ, reduceIte, Nat.reduceEqDiff, Nat.reduceAdd, Nat.reduceMul, Nat.reduceLeDiff, Nat.zero_add, Nat.add_zero, Option.map_some, Int.reduceEq, Int.reduceLT, Int.reduceLE, Bool.false_eq_true, decide_true, decide_false, ge_iff_le, gt_iff_lt, set_get', i76, i78, hva, idx_ok hil, hgx, hcx, Nat.mul_one]; rfl) ?_))))
        show Wc T _ _ _
        have badL : ∀ (e' : Env), inB f m = false → Fin2 C39 (fun o h' => KeptBut mb h h' ∧ o = mustO n at' (insB c f x at' && newB x seen) ∧ ((insB c f x at' && newB x seen) = true → h'.get mb = some (.map (.one (.int .i64)) (seenES (seenNow x seen))))) (.pan (wrongV n at')) ⟨e', hq2, some []⟩ := by
          intro e' hB
          refine badE e' hq2 hkq ?_
          have : x.l.all (inB f) = false := List.all_eq_false.2 ⟨m, List.mem_of_getElem? hmi, by simp [hB]⟩
          simp [preB, this]
        by_cases q0 : 0 ≤ m
        case neg =>
          refine Wc_ops (Wo_pre 9 (fun call => by simp only [List.take_succ_cons, List.take_zero, List.drop_succ_cons, List.drop_zero, iops_nil, iops_op, iops_grd, iK_some, iG_true, iG_false, gval_bool, beq_true, beq_false, Bool.not_true, Bool.not_false, iop, ev, upd, dstUpd, binV, binI, unV, ptr, Heap.cell, Heap.write, cellsOf, put, args0, partL, List.getD_cons_zero, List.getD_cons_succ, List.length_cons, List.length_nil, List.set_cons_zero, List.set_cons_succ, List.getElem?_cons_zero, List.getElem?_cons_succ, reduceIte, Nat.reduceEqDiff, Nat.reduceAdd, Nat.reduceMul, Nat.reduceLeDiff, Nat.zero_add, Nat.add_zero, Option.map_some, Int.reduceEq, Int.reduceLT, Int.reduceLE, Bool.false_eq_true, decide_true, decide_false, ge_iff_le, gt_iff_lt, set_get', q0]; rfl) ?_)
          refine Wo_must h38 false (gm hkq) (by simp only [upd, dstUpd, reduceIte, Nat.reduceEqDiff, ev, i0, ptr]) (by simp only [upd, dstUpd, reduceIte, Nat.reduceEqDiff, ev]) (fun h => by cases h) (fun _ => ?_)
          exact badL _ (by simp only [inB, decide_eq_false_iff_not]; omega)
        by_cases q1 : m < f.regs
        case neg =>
          refine Wc_ops (Wo_pre 9 (fun call => by simp only [List.take_succ_cons, List.take_zero, List.drop_succ_cons, List.drop_zero, iops_nil, iops_op, iops_grd, iK_some, iG_true, iG_false, gval_bool, beq_true, beq_false, Bool.not_true, Bool.not_false, iop, ev, upd, dstUpd, binV, binI, unV, ptr, Heap.cell, Heap.write, cellsOf, put, args0, partL, List.getD_cons_zero, List.getD_cons_succ, List.length_cons, List.length_nil, List.set_cons_zero, List.set_cons_succ, List.getElem?_cons_zero, List.getElem?_cons_succ, reduceIte, Nat.reduceEqDiff, Nat.reduceAdd, Nat.reduceMul, Nat.reduceLeDiff, Nat.zero_add, Nat.add_zero, Option.map_some, Int.reduceEq, Int.reduceLT, Int.reduceLE, Bool.false_eq_true, decide_true, decide_false, ge_iff_le, gt_iff_lt, set_get', i4, g4 hkq, Fn.cells, q0, q1]; rfl) ?_)
          refine Wo_must h38 false (gm hkq) (by simp only [upd, dstUpd, reduceIte, Nat.reduceEqDiff, ev, i0, ptr]) (by simp only [upd, dstUpd, reduceIte, Nat.reduceEqDiff, ev]) (fun h => by cases h) (fun _ => ?_)
          exact badL _ (by simp only [inB, decide_eq_false_iff_not]; omega)
        refine Wc_ops (Wo_pre 9 (fun call => by simp only [List.take_succ_cons, List.take_zero, List.drop_succ_cons, List.drop_zero, iops_nil, iops_op, iops_grd, iK_some, iG_true, iG_false, gval_bool, beq_true, beq_false, Bool.not_true, Bool.not_false, iop, ev, upd, dstUpd, binV, binI, unV, ptr, Heap.cell, Heap.write, cellsOf, put, args0, partL, List.getD_cons_zero, List.getD_cons_succ, List.length_cons, List.length_nil, List.set_cons_zero, List.set_cons_succ, List.getElem?_cons_zero, List.getElem?_cons_succ, reduceIte, Nat.reduceEqDiff, Nat.reduceAdd, Nat.reduceMul, Nat.reduceLeDiff, Nat.zero_add, Nat.add_zero, Option.map_some, Int.reduceEq, Int.reduceLT, Int.reduceLE, Bool.false_eq_true, decide_true, decide_false, ge_iff_le, gt_iff_lt, set_get', i4, g4 hkq, Fn.cells, q0, q1]; rfl) ?_)
        refine Wo_must h38 true (gm hkq) (by simp only [upd, dstUpd, reduceIte, Nat.reduceEqDiff, ev, i0, ptr]) (by simp only [upd, dstUpd, reduceIte, Nat.reduceEqDiff, ev]) (fun _ => Wo_nil ?_) (fun h => by cases h)
        show Wc T _ _ _
        refine Wc_ops (Wo_run (fun call => by simp only [List.drop_succ_cons, List.drop_zero, iops_nil, iops_op, iops_grd, iK_some, iG_true, iG_false, gval_bool, beq_true, beq_false, Bool.not_true, Bool.not_false, iop, ev, upd, dstUpd, binV, binI, unV, ptr, Heap.cell, Heap.write, cellsOf, put, args0, partL, List.getD_cons_zero, List.getD_cons_succ, List.length_cons, List.length_nil, List.set_cons_zero, List.set_cons_succ, List.getElem?_cons_zero, List.getElem?_cons_succ, reduceIte, Nat.reduceEqDiff, Nat.reduceAdd, Nat.reduceMul, Nat.reduceLeDiff, Nat.zero_add, Nat.add_zero, Option.map_some, Int.reduceEq, Int.reduceLT, Int.reduceLE, Bool.false_eq_true, decide_true, decide_false, ge_iff_le, gt_iff_lt, set_get', i78, e1']; rfl) ?_)
        refine ⟨⟨rfl, rfl, by simp [upd, dstUpd, i0, ptr], by simp [upd, dstUpd, i4, ptr], by simp [upd, dstUpd, i5, ptr], by simp [upd, dstUpd, i76, ptr], by simp [upd, dstUpd, i77, ptr], i + 1, by omega, by simp [upd, dstUpd], ?_⟩, ?_⟩
        · intro m' hm'
          rw [List.take_add_one, hmi] at hm'
          simp only [Option.toList, List.mem_append, List.mem_singleton] at hm'
          rcases hm' with hm' | rfl
          · exact hin m' hm'
          · simp only [inB, decide_eq_true_eq]; omega
        · simp only [upd, dstUpd, Nat.reduceEqDiff, reduceIte, i78]
          show ((x.l.length : Int) - ((i + 1 : Nat) : Int)).toNat < ((x.l.length : Int) - (i : Int)).toNat
          omega
      show Wc T _ _ _
      have hie : i = x.l.length := by simp at hge; omega
      rw [hie, List.take_length] at hin
      have hlall : x.l.all (inB f) = true := List.all_eq_true.2 hin
      have hpre : preB f x at' = lastB f x at' := by simp only [preB, hlets, hkl, hlall, hname, decide_false, Bool.not_false, Bool.and_true, Bool.true_and]
      -- the last
      have hws := wrap_sub1 hf.len
      have finish : ∀ e3 : Env, e3 0 = ptr bm 0 → e3 4 = ptr h.next 0 → e3 5 = ptr (h.next + 1) 0 → lastB f x at' = true → Wc T (.ops [⟨(some 117), .op (.mov (.t 0)), none⟩, ⟨(some 118), .op (.load (some 4) (.t 4)), none⟩, ⟨(some 119), .op (.load (some 6) (.t 5)), none⟩, ⟨(some 120), .call 47 [(.t 117), (.t 118), (.t 119)], none⟩]) ⟨e3, hq2, some []⟩
          (Fin2 C39 (fun o h' => KeptBut mb h h' ∧ o = mustO n at' (insB c f x at' && newB x seen) ∧ ((insB c f x at' && newB x seen) = true → h'.get mb = some (.map (.one (.int .i64)) (seenES (seenNow x seen)))))) := by
        intro e3 l0 l4 l5 hlast
        refine Wc_ops (Wo_op rfl (Wo_op (iop_load (b := h.next) (o := 0) (cs := f.cells) (by simp only [upd, dstUpd, reduceIte, Nat.reduceEqDiff, l4]) (cells_all (g4 hkq) rfl)) (Wo_op (iop_load (b := h.next + 1) (o := 0) (cs := x.cells) (by simp only [upd, dstUpd, reduceIte, Nat.reduceEqDiff, l5]) (cells_all (g5 hkq) rfl)) (Wo_call ?_))))
        have hI : insB c f x at' = numB c f x at' := by simp only [insB, hpre, hlast, Bool.true_and]
        simp only [List.map_cons, List.map_nil, ev, dstUpd, upd, reduceIte, Nat.reduceEqDiff, l0]
        refine (num47 h47 h38 (h := hq2) (c := c) (f := f) (x := x) (n := n) (at' := at') (bm := bm) (mb := mb) (seen := seen) ⟨gm hkq, gp hkq, hM.ne, by have := hM.bm; have := hkq.next; omega, by have := hM.mb; have := hkq.next; omega⟩ ((hc.keep hk2).keep hkq) ((hf.keep hk2).keep hkq) ((hx.keep hk2).keep hkq)).mono fun o h' ⟨u1, u2, u3⟩ => ?_
        subst u2
        have hkb : KeptBut mb h h' := ((hk2.trans hkq).but mb).trans u1
        rw [hI]
        generalize hBv : (numB c f x at' && newB x seen) = B at u3 ⊢
        cases B with
        | true => exact ⟨0, none, _, rfl, rfl, [], rfl, hkb, rfl, u3⟩
        | false => exact ⟨rfl, hkb, rfl, u3⟩
      by_cases hat : (at' : Int) = f.code.length - 1
      case neg =>
        have hne : ((at' : Int) == (f.code.length : Int) - 1) = false := by simpa using hat
        refine Wc_seq (Wc_seq (Wc_draw_calm (by decide) (Wo_run (fun call => by simp only [iops_nil, iops_op, iK_some, iop, ev, upd, dstUpd, binV, binI, ptr, Heap.cell, reduceIte, Nat.reduceEqDiff, Nat.reduceAdd, Nat.zero_add, Option.map_some, i0, i4, gm hkq, mCells, g4 hkq, Fn.cells, hcv, hws, hne, List.getElem?_cons_zero, List.getElem?_cons_succ]; rfl) ⟨rfl, ?_⟩)))
        show Wc T _ _ _
        refine Wc_cond false (by simp [ev, upd]) (fun h => by cases h) (fun _ => Wc_skip ?_)
        exact finish _ (by simp [upd, i0]) (by simp [upd, i4]) (by simp [upd, i5]) (by simp [lastB, hat])
      have hne : ((at' : Int) == (f.code.length : Int) - 1) = true := by simpa using hat
      refine Wc_seq (Wc_seq (Wc_draw_calm (by decide) (Wo_run (fun call => by simp only [iops_nil, iops_op, iK_some, iop, ev, upd, dstUpd, binV, binI, ptr, Heap.cell, reduceIte, Nat.reduceEqDiff, Nat.reduceAdd, Nat.zero_add, Option.map_some, i0, i4, gm hkq, mCells, g4 hkq, Fn.cells, hcv, hws, hne, List.getElem?_cons_zero, List.getElem?_cons_succ]; rfl) ⟨rfl, ?_⟩)))
      show Wc T _ _ _
      refine Wc_cond true (by simp [ev, upd]) (fun _ => ?_) (fun h => by cases h)
      by_cases o21 : x.op = 21
      · have d21 : (x.op == 21) = true := by simpa using o21
        refine Wc_ops (Wo_pre 14 (fun call => by simp only [List.take_succ_cons, List.take_zero, List.drop_succ_cons, List.drop_zero, iops_nil, iops_op, iops_grd, iK_some, iG_true, iG_false, gval_bool, beq_true, beq_false, Bool.not_true, Bool.not_false, iop, ev, upd, dstUpd, binV, binI, unV, ptr, Heap.cell, Heap.write, cellsOf, put, args0, partL, List.getD_cons_zero, List.getD_cons_succ, List.length_cons, List.length_nil, List.set_cons_zero, List.set_cons_succ, List.getElem?_cons_zero, List.getElem?_cons_succ, reduceIte, Nat.reduceEqDiff, Nat.reduceAdd, Nat.reduceMul, Nat.reduceLeDiff, Nat.zero_add, Nat.add_zero, Option.map_some, Int.reduceEq, Int.reduceLT, Int.reduceLE, Bool.false_eq_true, decide_true, decide_false, ge_iff_le, gt_iff_lt, set_get', i5, g5 hkq, Ins.cells, d21]; rfl) ?_)
        refine Wo_must h38 true (gm hkq) (by simp only [upd, dstUpd, reduceIte, Nat.reduceEqDiff, ev, i0, ptr]) (by simp only [upd, dstUpd, reduceIte, Nat.reduceEqDiff, ev]) (fun _ => Wo_nil ?_) (fun h => by cases h)
        exact finish _ (by simp [upd, dstUpd, i0, ptr]) (by simp [upd, dstUpd, i4, ptr]) (by simp [upd, dstUpd, i5, ptr]) (by simp [lastB, o21])
      have d21 : (x.op == 21) = false := by simpa using o21
      by_cases o24 : x.op = 24
      · have d24 : (x.op == 24) = true := by simpa using o24
        refine Wc_ops (Wo_pre 14 (fun call => by simp only [List.take_succ_cons, List.take_zero, List.drop_succ_cons, List.drop_zero, iops_nil, iops_op, iops_grd, iK_some, iG_true, iG_false, gval_bool, beq_true, beq_false, Bool.not_true, Bool.not_false, iop, ev, upd, dstUpd, binV, binI, unV, ptr, Heap.cell, Heap.write, cellsOf, put, args0, partL, List.getD_cons_zero, List.getD_cons_succ, List.length_cons, List.length_nil, List.set_cons_zero, List.set_cons_succ, List.getElem?_cons_zero, List.getElem?_cons_succ, reduceIte, Nat.reduceEqDiff, Nat.reduceAdd, Nat.reduceMul, Nat.reduceLeDiff, Nat.zero_add, Nat.add_zero, Option.map_some, Int.reduceEq, Int.reduceLT, Int.reduceLE, Bool.false_eq_true, decide_true, decide_false, ge_iff_le, gt_iff_lt, set_get', i5, g5 hkq, Ins.cells, d21, d24]; rfl) ?_)
        refine Wo_must h38 true (gm hkq) (by simp only [upd, dstUpd, reduceIte, Nat.reduceEqDiff, ev, i0, ptr]) (by simp only [upd, dstUpd, reduceIte, Nat.reduceEqDiff, ev]) (fun _ => Wo_nil ?_) (fun h => by cases h)
        exact finish _ (by simp [upd, dstUpd, i0, ptr]) (by simp [upd, dstUpd, i4, ptr]) (by simp [upd, dstUpd, i5, ptr]) (by simp [lastB, o24])
      have d24 : (x.op == 24) = false := by simpa using o24
      by_cases o25 : x.op = 25
      · have d25 : (x.op == 25) = true := by simpa using o25
        refine Wc_ops (Wo_pre 14 (fun call => by simp only [List.take_succ_cons, List.take_zero, List.drop_succ_cons, List.drop_zero, iops_nil, iops_op, iops_grd, iK_some, iG_true, iG_false, gval_bool, beq_true, beq_false, Bool.not_true, Bool.not_false, iop, ev, upd, dstUpd, binV, binI, unV, ptr, Heap.cell, Heap.write, cellsOf, put, args0, partL, List.getD_cons_zero, List.getD_cons_succ, List.length_cons, List.length_nil, List.set_cons_zero, List.set_cons_succ, List.getElem?_cons_zero, List.getElem?_cons_succ, reduceIte, Nat.reduceEqDiff, Nat.reduceAdd, Nat.reduceMul, Nat.reduceLeDiff, Nat.zero_add, Nat.add_zero, Option.map_some, Int.reduceEq, Int.reduceLT, Int.reduceLE, Bool.false_eq_true, decide_true, decide_false, ge_iff_le, gt_iff_lt, set_get', i5, g5 hkq, Ins.cells, d21, d24, d25]; rfl) ?_)
        refine Wo_must h38 true (gm hkq) (by simp only [upd, dstUpd, reduceIte, Nat.reduceEqDiff, ev, i0, ptr]) (by simp only [upd, dstUpd, reduceIte, Nat.reduceEqDiff, ev]) (fun _ => Wo_nil ?_) (fun h => by cases h)
        exact finish _ (by simp [upd, dstUpd, i0, ptr]) (by simp [upd, dstUpd, i4, ptr]) (by simp [upd, dstUpd, i5, ptr]) (by simp [lastB, o25])
      have d25 : (x.op == 25) = false := by simpa using o25
      refine Wc_ops (Wo_pre 14 (fun call => by simp only [List.take_succ_cons, List.take_zero, List.drop_succ_cons, List.drop_zero, iops_nil, iops_op, iops_grd, iK_some, iG_true, iG_false, gval_bool, beq_true, beq_false, Bool.not_true, Bool.not_false, iop, ev, upd, dstUpd, binV, binI, unV, ptr, Heap.cell, Heap.write, cellsOf, put, args0, partL, List.getD_cons_zero, List.getD_cons_succ, List.length_cons, List.length_nil, List.set_cons_zero, List.set_cons_succ, List.getElem?_cons_zero, List.getElem?_cons_succ, reduceIte, Nat.reduceEqDiff, Nat.reduceAdd, Nat.reduceMul, Nat.reduceLeDiff, Nat.zero_add, Nat.add_zero, Option.map_some, Int.reduceEq, Int.reduceLT, Int.reduceLE, Bool.false_eq_true, decide_true, decide_false, ge_iff_le, gt_iff_lt, set_get', i5, g5 hkq, Ins.cells, d21, d24, d25]; rfl) ?_)
      refine Wo_must h38 false (gm hkq) (by simp only [upd, dstUpd, reduceIte, Nat.reduceEqDiff, ev, i0, ptr]) (by simp only [upd, dstUpd, reduceIte, Nat.reduceEqDiff, ev]) (fun h => by cases h) (fun _ => ?_)
      exact badE _ hq2 hkq (by rw [hpre]; simp [lastB, hat, o21, o24, o25])
    -- the row for K and L
    refine Wc_seq (Wc_ops (Wo_pre 3 (fun call => by simp only [List.take_succ_cons, List.take_zero, List.drop_succ_cons, List.drop_zero, iops_nil, iops_op, iops_grd, iK_some, iG_true, iG_false, gval_bool, beq_true, beq_false, Bool.not_true, Bool.not_false, iop, ev, upd, dstUpd, binV, binI, unV, ptr, Heap.cell, Heap.write, cellsOf, put, args0, partL, List.getD_cons_zero, List.getD_cons_succ, List.length_cons, List.length_nil, List.set_cons_zero, List.set_cons_succ, List.getElem?_cons_zero, List.getElem?_cons_succ, reduceIte, Nat.reduceEqDiff, Nat.reduceAdd, Nat.reduceMul, Nat.reduceLeDiff, Nat.zero_add, Nat.add_zero, Option.map_some, Int.reduceEq, Int.reduceLT, Int.reduceLE, Bool.false_eq_true, decide_true, decide_false, ge_iff_le, gt_iff_lt, set_get', k6, g6 hkp, hr1]; rfl) ?_))
    refine Wo_call ?_
    show Wk T (.fn 46) [.string ⟨(fieldsOf x).toArray⟩, .string ⟨#[75]⟩] hp _
    refine (c46 75 hp).mono fun o h4 ⟨hk4, ho4⟩ => ?_
    subst ho4
    show Wo T _ _ _
    have hkp4 := hkp.trans hk4
    -- first half
    have half : ∀ e5 : Env, e5 0 = ptr bm 0 → e5 4 = ptr h.next 0 → e5 5 = ptr (h.next + 1) 0 → e5 6 = ptr (h.next + 2) 0 → True := fun _ _ _ _ _ => trivial
    by_cases hK : ((fieldsOf x).contains 75 || x.k == 0) = true
    case neg =>
      have hK1 : (fieldsOf x).contains 75 = false := by revert hK; cases (fieldsOf x).contains 75 <;> simp
      have hK2 : (x.k == 0) = false := by revert hK; rw [hK1]; simp
      refine (Wo_pre 15 (fun call => by simp only [List.take_succ_cons, List.take_zero, List.drop_succ_cons, List.drop_zero, iops_nil, iops_op, iops_grd, iK_some, iG_true, iG_false, gval_bool, beq_true, beq_false, Bool.not_true, Bool.not_false, iop, ev, upd, dstUpd, binV, binI, unV, ptr, Heap.cell, Heap.write, cellsOf, put, args0, partL, List.getD_cons_zero, List.getD_cons_succ, List.length_cons, List.length_nil, List.set_cons_zero, List.set_cons_succ, List.getElem?_cons_zero, List.getElem?_cons_succ, reduceIte, Nat.reduceEqDiff, Nat.reduceAdd, Nat.reduceMul, Nat.reduceLeDiff, Nat.zero_add, Nat.add_zero, Option.map_some, Int.reduceEq, Int.reduceLT, Int.reduceLE, Bool.false_eq_true, decide_true, decide_false, ge_iff_le, gt_iff_lt, set_get', hK1, hK2, k5, g5 hkp4, Ins.cells]; rfl) ?_)
      refine Wo_must h38 false (gm hkp4) (by simp only [upd, dstUpd, reduceIte, Nat.reduceEqDiff, ev, k0, ptr]) (by simp only [upd, dstUpd, reduceIte, Nat.reduceEqDiff, ev, Bool.false_eq_true]) (fun h => by cases h) (fun _ => ?_)
      exact badE _ h4 hkp4 (by simp only [preB, klB, hK1, hK2, Bool.or_self, Bool.false_and, Bool.and_false])
    have go2 : ∀ e5 : Env, e5 63 = .bool true → e5 54 = ptr bm 0 → e5 0 = ptr bm 0 → e5 4 = ptr h.next 0 → e5 5 = ptr (h.next + 1) 0 → e5 6 = ptr (h.next + 2) 0 → Wo T [⟨(some 64), .op (.faddr 1 (.t 6)), (some (63, true))⟩, ⟨(some 65), .op (.load none (.t 64)), (some (63, true))⟩, ⟨(some 66), .call 46 [(.t 65), (.c (.string ⟨#[76]⟩))], (some (63, true))⟩, ⟨(some 67), .op (.mov (.t 66)), (some (63, true))⟩, ⟨(some 68), .op (.faddr 5 (.t 5)), (some (67, false))⟩, ⟨(some 69), .op (.load none (.t 68)), (some (67, false))⟩, ⟨(some 70), .op (.len .sl (.t 69)), (some (67, false))⟩, ⟨(some 71), .op (.bin .eql (.t 70) (.c (.int .i64 0))), (some (67, false))⟩, ⟨(some 72), .op (.pick (.t 67) (.c (.bool true)) (.t 71)), (some (63, true))⟩, ⟨(some 73), .op (.pick (.t 63) (.t 72) (.c (.bool false))), none⟩, ⟨(some 74), .call 38 [(.t 54), (.t 73)], none⟩] ⟨e5, h4, some []⟩
        (To (Tn T (.seq (.seq (.ops [⟨(some 75), .op (.faddr 5 (.t 5)), none⟩, ⟨(some 76), .op (.load none (.t 75)), none⟩, ⟨(some 77), .op (.len .sl (.t 76)), none⟩, ⟨(some 78), .op (.mov (.c (.int .i64 0))), none⟩]) (.block 2 (.loop C39L1)))
        (.seq (.seq (.draw [⟨(some 93), .op (.mov (.t 0)), none⟩, ⟨(some 94), .op (.nilck (.t 93)), none⟩, ⟨(some 95), .op (.faddr 4 (.t 94)), none⟩, ⟨(some 96), .op (.load none (.t 95)), none⟩, ⟨(some 97), .op (.faddr 3 (.t 4)), none⟩, ⟨(some 98), .op (.load none (.t 97)), none⟩, ⟨(some 99), .op (.len .sl (.t 98)), none⟩, ⟨(some 100), .op (.bin .sub (.t 99) (.c (.int .i64 1))), none⟩, ⟨(some 101), .op (.bin .eql (.t 96) (.t 100)), none⟩]
          [[], [0], [1, 0], [2, 1, 0], [], [4], [5, 4], [6, 5, 4], [7, 6, 5, 4, 3, 2, 1, 0]])
        (.cond (.t 101)
          (.ops [⟨(some 102), .op (.mov (.t 0)), none⟩, ⟨(some 103), .op (.faddr 0 (.t 5)), none⟩, ⟨(some 104), .op (.load none (.t 103)), none⟩, ⟨(some 105), .op (.bin .eql (.t 104) (.c (.int .i64 21))), none⟩, ⟨(some 106), .op (.mov (.t 105)), none⟩, ⟨(some 107), .op (.faddr 0 (.t 5)), (some (106, false))⟩, ⟨(some 108), .op (.load none (.t 107)), (some (106, false))⟩, ⟨(some 109), .op (.bin .eql (.t 108) (.c (.int .i64 24))), (some (106, false))⟩, ⟨(some 110), .op (.pick (.t 106) (.c (.bool true)) (.t 109)), none⟩, ⟨(some 111), .op (.mov (.t 110)), none⟩, ⟨(some 112), .op (.faddr 0 (.t 5)), (some (111, false))⟩, ⟨(some 113), .op (.load none (.t 112)), (some (111, false))⟩, ⟨(some 114), .op (.bin .eql (.t 113) (.c (.int .i64 25))), (some (111, false))⟩, ⟨(some 115), .op (.pick (.t 111) (.c (.bool true)) (.t 114)), none⟩, ⟨(some 116), .call 38 [(.t 102), (.t 115)], none⟩])
          .skip))
        (.ops [⟨(some 117), .op (.mov (.t 0)), none⟩, ⟨(some 118), .op (.load (some 4) (.t 4)), none⟩, ⟨(some 119), .op (.load (some 6) (.t 5)), none⟩, ⟨(some 120), .call 47 [(.t 117), (.t 118), (.t 119)], none⟩])))
        (Fin2 C39 (fun o h' => KeptBut mb h h' ∧ o = mustO n at' (insB c f x at' && newB x seen) ∧ ((insB c f x at' && newB x seen) = true → h'.get mb = some (.map (.one (.int .i64)) (seenES (seenNow x seen)))))))) := by
      intro e5 m63 m54 m0 m4 m5 m6
      refine (Wo_pre 2 (fun call => by simp only [List.take_succ_cons, List.take_zero, List.drop_succ_cons, List.drop_zero, iops_nil, iops_op, iops_grd, iK_some, iG_true, iG_false, gval_bool, beq_true, beq_false, Bool.not_true, Bool.not_false, iop, ev, upd, dstUpd, binV, binI, unV, ptr, Heap.cell, Heap.write, cellsOf, put, args0, partL, List.getD_cons_zero, List.getD_cons_succ, List.length_cons, List.length_nil, List.set_cons_zero, List.set_cons_succ, List.getElem?_cons_zero, List.getElem?_cons_succ, reduceIte, Nat.reduceEqDiff, Nat.reduceAdd, Nat.reduceMul, Nat.reduceLeDiff, Nat.zero_add, Nat.add_zero, Option.map_some, Int.reduceEq, Int.reduceLT, Int.reduceLE, Bool.false_eq_true, decide_true, decide_false, ge_iff_le, gt_iff_lt, set_get', m63, m6, g6 hkp4, hr1]; rfl) ?_)
      refine Wo_take (by simp only [upd, dstUpd, reduceIte, Nat.reduceEqDiff, gval_bool, m63]; rfl) (Wo_call ?_)
      show Wk T (.fn 46) [.string ⟨(fieldsOf x).toArray⟩, .string ⟨#[76]⟩] h4 _
      refine (c46 76 h4).mono fun o h5 ⟨hk5, ho5⟩ => ?_
      subst ho5
      show Wo T _ _ _
      have hkp5 := hkp4.trans hk5
      by_cases hL : ((fieldsOf x).contains 76 || decide (x.l.length = 0)) = true
      case neg =>
        have hL1 : (fieldsOf x).contains 76 = false := by revert hL; cases (fieldsOf x).contains 76 <;> simp
        have hL2 : decide (x.l.length = 0) = false := by revert hL; rw [hL1]; simp
        have hL3 : ((x.l.length : Int) == 0) = false := by simp only [decide_eq_false_iff_not] at hL2; simp only [beq_eq_false_iff_ne, ne_eq]; omega
        refine (Wo_pre 7 (fun call => by simp only [List.take_succ_cons, List.take_zero, List.drop_succ_cons, List.drop_zero, iops_nil, iops_op, iops_grd, iK_some, iG_true, iG_false, gval_bool, beq_true, beq_false, Bool.not_true, Bool.not_false, iop, ev, upd, dstUpd, binV, binI, unV, ptr, Heap.cell, Heap.write, cellsOf, put, args0, partL, List.getD_cons_zero, List.getD_cons_succ, List.length_cons, List.length_nil, List.set_cons_zero, List.set_cons_succ, List.getElem?_cons_zero, List.getElem?_cons_succ, reduceIte, Nat.reduceEqDiff, Nat.reduceAdd, Nat.reduceMul, Nat.reduceLeDiff, Nat.zero_add, Nat.add_zero, Option.map_some, Int.reduceEq, Int.reduceLT, Int.reduceLE, Bool.false_eq_true, decide_true, decide_false, ge_iff_le, gt_iff_lt, set_get', m63, m5, g5 hkp5, Ins.cells, hlv, hL1, hL3]; rfl) ?_)
        refine Wo_must h38 false (gm hkp5) (by simp only [upd, dstUpd, reduceIte, Nat.reduceEqDiff, ev, m54, ptr]) (by simp only [upd, dstUpd, reduceIte, Nat.reduceEqDiff, ev]) (fun h => by cases h) (fun _ => ?_)
        exact badE _ h5 hkp5 (by simp only [preB, klB, hL1, hL2, Bool.or_self, Bool.and_false, Bool.false_and])
      have hkl : klB x = true := by simp only [klB, hK, hL, Bool.and_self]
      by_cases hL1 : (fieldsOf x).contains 76 = true
      · refine (Wo_pre 7 (fun call => by simp only [List.take_succ_cons, List.take_zero, List.drop_succ_cons, List.drop_zero, iops_nil, iops_op, iops_grd, iK_some, iG_true, iG_false, gval_bool, beq_true, beq_false, Bool.not_true, Bool.not_false, iop, ev, upd, dstUpd, binV, binI, unV, ptr, Heap.cell, Heap.write, cellsOf, put, args0, partL, List.getD_cons_zero, List.getD_cons_succ, List.length_cons, List.length_nil, List.set_cons_zero, List.set_cons_succ, List.getElem?_cons_zero, List.getElem?_cons_succ, reduceIte, Nat.reduceEqDiff, Nat.reduceAdd, Nat.reduceMul, Nat.reduceLeDiff, Nat.zero_add, Nat.add_zero, Option.map_some, Int.reduceEq, Int.reduceLT, Int.reduceLE, Bool.false_eq_true, decide_true, decide_false, ge_iff_le, gt_iff_lt, set_get', m63, hL1]; rfl) ?_)
        refine Wo_must h38 true (gm hkp5) (by simp only [upd, dstUpd, reduceIte, Nat.reduceEqDiff, ev, m54, ptr]) (by simp only [upd, dstUpd, reduceIte, Nat.reduceEqDiff, ev]) (fun _ => Wo_nil ?_) (fun h => by cases h)
        exact tail _ h5 hkp5 (by simp [upd, dstUpd, m0, ptr]) (by simp [upd, dstUpd, m4, ptr]) (by simp [upd, dstUpd, m5, ptr]) hkl
      · have hL1' : (fieldsOf x).contains 76 = false := by simpa using hL1
        have hL3 : ((x.l.length : Int) == 0) = true := by
          rw [hL1', Bool.false_or, decide_eq_true_eq] at hL
          simp [hL]
        refine (Wo_pre 7 (fun call => by simp only [List.take_succ_cons, List.take_zero, List.drop_succ_cons, List.drop_zero, iops_nil, iops_op, iops_grd, iK_some, iG_true, iG_false, gval_bool, beq_true, beq_false, Bool.not_true, Bool.not_false, iop, ev, upd, dstUpd, binV, binI, unV, ptr, Heap.cell, Heap.write, cellsOf, put, args0, partL, List.getD_cons_zero, List.getD_cons_succ, List.length_cons, List.length_nil, List.set_cons_zero, List.set_cons_succ, List.getElem?_cons_zero, List.getElem?_cons_succ, reduceIte, Nat.reduceEqDiff, Nat.reduceAdd, Nat.reduceMul, Nat.reduceLeDiff, Nat.zero_add, Nat.add_zero, Option.map_some, Int.reduceEq, Int.reduceLT, Int.reduceLE, Bool.false_eq_true, decide_true, decide_false, ge_iff_le, gt_iff_lt, set_get', m63, m5, g5 hkp5, Ins.cells, hlv, hL1', hL3]; rfl) ?_)
        refine Wo_must h38 true (gm hkp5) (by simp only [upd, dstUpd, reduceIte, Nat.reduceEqDiff, ev, m54, ptr]) (by simp only [upd, dstUpd, reduceIte, Nat.reduceEqDiff, ev]) (fun _ => Wo_nil ?_) (fun h => by cases h)
        exact tail _ h5 hkp5 (by simp [upd, dstUpd, m0, ptr]) (by simp [upd, dstUpd, m4, ptr]) (by simp [upd, dstUpd, m5, ptr]) hkl
    by_cases hK1 : (fieldsOf x).contains 75 = true
    · refine (Wo_pre 6 (fun call => by simp only [List.take_succ_cons, List.take_zero, List.drop_succ_cons, List.drop_zero, iops_nil, iops_op, iops_grd, iK_some, iG_true, iG_false, gval_bool, beq_true, beq_false, Bool.not_true, Bool.not_false, iop, ev, upd, dstUpd, binV, binI, unV, ptr, Heap.cell, Heap.write, cellsOf, put, args0, partL, List.getD_cons_zero, List.getD_cons_succ, List.length_cons, List.length_nil, List.set_cons_zero, List.set_cons_succ, List.getElem?_cons_zero, List.getElem?_cons_succ, reduceIte, Nat.reduceEqDiff, Nat.reduceAdd, Nat.reduceMul, Nat.reduceLeDiff, Nat.zero_add, Nat.add_zero, Option.map_some, Int.reduceEq, Int.reduceLT, Int.reduceLE, Bool.false_eq_true, decide_true, decide_false, ge_iff_le, gt_iff_lt, set_get', hK1]; rfl) ?_)
      exact go2 _ (by simp [upd, dstUpd]) (by simp [upd, dstUpd, k0, ptr]) (by simp [upd, dstUpd, k0, ptr]) (by simp [upd, dstUpd, k4, ptr]) (by simp [upd, dstUpd, k5, ptr]) (by simp [upd, dstUpd, k6, ptr])
    · have hK1' : (fieldsOf x).contains 75 = false := by simpa using hK1
      have hK3 : (x.k == 0) = true := by rw [hK1', Bool.false_or] at hK; exact hK
      refine (Wo_pre 6 (fun call => by simp only [List.take_succ_cons, List.take_zero, List.drop_succ_cons, List.drop_zero, iops_nil, iops_op, iops_grd, iK_some, iG_true, iG_false, gval_bool, beq_true, beq_false, Bool.not_true, Bool.not_false, iop, ev, upd, dstUpd, binV, binI, unV, ptr, Heap.cell, Heap.write, cellsOf, put, args0, partL, List.getD_cons_zero, List.getD_cons_succ, List.length_cons, List.length_nil, List.set_cons_zero, List.set_cons_succ, List.getElem?_cons_zero, List.getElem?_cons_succ, reduceIte, Nat.reduceEqDiff, Nat.reduceAdd, Nat.reduceMul, Nat.reduceLeDiff, Nat.zero_add, Nat.add_zero, Option.map_some, Int.reduceEq, Int.reduceLT, Int.reduceLE, Bool.false_eq_true, decide_true, decide_false, ge_iff_le, gt_iff_lt, set_get', hK1', hK3, k5, g5 hkp4, Ins.cells]; rfl) ?_)
      exact go2 _ (by simp [upd, dstUpd]) (by simp [upd, dstUpd, k0, ptr]) (by simp [upd, dstUpd, k0, ptr]) (by simp [upd, dstUpd, k4, ptr]) (by simp [upd, dstUpd, k5, ptr]) (by simp [upd, dstUpd, k6, ptr])
  -- a letter
  obtain ⟨z, hz⟩ : ∃ z, ([65, 66, 67] : List UInt8)[k]? = some z := ⟨_, List.getElem?_eq_getElem (by simpa using hend)⟩
  have hz128 : z.toNat < 128 := by
    have : ∀ z ∈ ([65, 66, 67] : List UInt8), z.toNat < 128 := by decide
    exact this z (List.mem_of_getElem? hz)
  have hdec : Utf8.decode ⟨#[65, 66, 67]⟩ k = (z.toNat, 1) := decodeL (l := [65, 66, 67]) hz hz128
  have hlt : k < (⟨#[65, 66, 67]⟩ : ByteArray).size := by rw [hsz]; exact hend
  refine Wc_seq (Wc_ops (Wo_run (fun call => by simp only [List.drop_succ_cons, List.drop_zero, iops_nil, iops_op, iops_grd, iK_some, iG_true, iG_false, gval_bool, beq_true, beq_false, Bool.not_true, Bool.not_false, iop, ev, upd, dstUpd, binV, binI, unV, ptr, Heap.cell, Heap.write, cellsOf, put, args0, partL, List.getD_cons_zero, List.getD_cons_succ, List.length_cons, List.length_nil, List.set_cons_zero, List.set_cons_succ, List.getElem?_cons_zero, List.getElem?_cons_succ, reduceIte, Nat.reduceEqDiff, Nat.reduceAdd, Nat.reduceMul, Nat.reduceLeDiff, Nat.zero_add, Nat.add_zero, Option.map_some, Int.reduceEq, Int.reduceLT, Int.reduceLE, Bool.false_eq_true, decide_true, decide_false, ge_iff_le, gt_iff_lt, set_get', k20, gs, hlt, hdec]; rfl) ?_))
  show Wc T _ _ _
  refine Wc_seq (Wc_cond true (by simp [ev, upd]) (fun _ => Wc_skip ?_) (fun h => by cases h))
  show Wc T _ _ _
  have hk4 : Kept h2 (hp.set h2.next (.siter ⟨#[65, 66, 67]⟩ (k + 1))) := hkp.set (Nat.le_refl _) _
  have gs4 : (hp.set h2.next (.siter ⟨#[65, 66, 67]⟩ (k + 1))).get h2.next = some (.siter ⟨#[65, 66, 67]⟩ (k + 1)) := set_get' _ _ _
  have hn4 : h2.next < (hp.set h2.next (.siter ⟨#[65, 66, 67]⟩ (k + 1))).next := hnp
  generalize hp.set h2.next (.siter ⟨#[65, 66, 67]⟩ (k + 1)) = h4 at hk4 gs4 hn4 ⊢
  refine Wc_block (Wc_seq (Wc_ops (Wo_run (fun call => by simp only [List.drop_succ_cons, List.drop_zero, iops_nil, iops_op, iops_grd, iK_some, iG_true, iG_false, gval_bool, beq_true, beq_false, Bool.not_true, Bool.not_false, iop, ev, upd, dstUpd, binV, binI, unV, ptr, Heap.cell, Heap.write, cellsOf, put, args0, partL, List.getD_cons_zero, List.getD_cons_succ, List.length_cons, List.length_nil, List.set_cons_zero, List.set_cons_succ, List.getElem?_cons_zero, List.getElem?_cons_succ, reduceIte, Nat.reduceEqDiff, Nat.reduceAdd, Nat.reduceMul, Nat.reduceLeDiff, Nat.zero_add, Nat.add_zero, Option.map_some, Int.reduceEq, Int.reduceLT, Int.reduceLE, Bool.false_eq_true, decide_true, decide_false, ge_iff_le, gt_iff_lt, set_get']; rfl) ?_)))
  show Wc T _ _ _
  refine Wc_seq (Wc_ops (Wo_op (iop_load (b := h.next + 1) (o := 0) (cs := x.cells) (by simp only [upd, dstUpd, reduceIte, Nat.reduceEqDiff, k5]) (cells_all (g5 hk4) rfl)) (Wo_op rfl (Wo_call ?_))))
  show Wk T (.fn 26) [x.val, .int .i32 z.toNat] h4 _
  refine (reg26 h26 x z.toNat h4).mono fun o h5 ⟨hk45, ho5⟩ => ?_
  subst ho5
  show Wo T _ _ _
  have hk5 := hk4.trans hk45
  refine (Wo_run (fun call => by simp only [List.drop_succ_cons, List.drop_zero, iops_nil, iops_op, iops_grd, iK_some, iG_true, iG_false, gval_bool, beq_true, beq_false, Bool.not_true, Bool.not_false, iop, ev, upd, dstUpd, binV, binI, unV, ptr, Heap.cell, Heap.write, cellsOf, put, args0, partL, List.getD_cons_zero, List.getD_cons_succ, List.length_cons, List.length_nil, List.set_cons_zero, List.set_cons_succ, List.getElem?_cons_zero, List.getElem?_cons_succ, reduceIte, Nat.reduceEqDiff, Nat.reduceAdd, Nat.reduceMul, Nat.reduceLeDiff, Nat.zero_add, Nat.add_zero, Option.map_some, Int.reduceEq, Int.reduceLT, Int.reduceLE, Bool.false_eq_true, decide_true, decide_false, ge_iff_le, gt_iff_lt, set_get']; rfl) ?_)
  show Wc T _ _ _
  refine Wc_seq (Wc_ops (Wo_pre 4 (fun call => by simp only [List.take_succ_cons, List.take_zero, List.drop_succ_cons, List.drop_zero, iops_nil, iops_op, iops_grd, iK_some, iG_true, iG_false, gval_bool, beq_true, beq_false, Bool.not_true, Bool.not_false, iop, ev, upd, dstUpd, binV, binI, unV, ptr, Heap.cell, Heap.write, cellsOf, put, args0, partL, List.getD_cons_zero, List.getD_cons_succ, List.length_cons, List.length_nil, List.set_cons_zero, List.set_cons_succ, List.getElem?_cons_zero, List.getElem?_cons_succ, reduceIte, Nat.reduceEqDiff, Nat.reduceAdd, Nat.reduceMul, Nat.reduceLeDiff, Nat.zero_add, Nat.add_zero, Option.map_some, Int.reduceEq, Int.reduceLT, Int.reduceLE, Bool.false_eq_true, decide_true, decide_false, ge_iff_le, gt_iff_lt, set_get', k6, g6 hk5, hr1]; rfl) ?_))
  refine Wo_call ?_
  show Wk T (.fn 45) [.string ⟨(fieldsOf x).toArray⟩, .int .i32 z.toNat] h5 _
  refine (hasRune45 h45 (fieldsOf x) hfa z h5).mono fun o h6 ⟨hk56, ho6⟩ => ?_
  subst ho6
  show Wo T _ _ _
  have hk6 := hk5.trans hk56
  have badZ : ∀ (e' : Env) (hq : Heap), Kept h2 hq → letB f x z = false → Fin2 C39 (fun o h' => KeptBut mb h h' ∧ o = mustO n at' (insB c f x at' && newB x seen) ∧ ((insB c f x at' && newB x seen) = true → h'.get mb = some (.map (.one (.int .i64)) (seenES (seenNow x seen))))) (.pan (wrongV n at')) ⟨e', hq, some []⟩ := by
    intro e' hq hkq hB
    refine badE e' hq hkq ?_
    have : [65, 66, 67].all (letB f x) = false := List.all_eq_false.2 ⟨z, List.mem_of_getElem? hz, by simp [hB]⟩
    simp only [preB, this, Bool.and_false, Bool.false_and]
  have g20 : ∀ {hq : Heap}, Kept h6 hq → hq.get h2.next = some (.siter ⟨#[65, 66, 67]⟩ (k + 1)) := fun kq => by
    rw [kq.get _ (by have := hk45.next; have := hk56.next; omega), hk56.get _ (by have := hk45.next; omega), hk45.get _ hn4]; exact gs4
  have hnx : ∀ {hq : Heap}, Kept h6 hq → h2.next < hq.next := fun kq => by have := kq.next; have := hk45.next; have := hk56.next; omega
  -- behind the first must
  have hadd : binV .add (.string ⟨(rd x).toArray⟩) (.string ⟨(wr x).toArray⟩) = some (.string ⟨(rd x ++ wr x).toArray⟩) := by
    simp only [binV, strB_append]
    rw [if_pos ?_]
    simp only [ByteArray.size, List.size_toArray]
    omega
  have more : ∀ (e6 : Env) (hq : Heap), Kept h6 hq → e6 0 = ptr bm 0 → e6 4 = ptr h.next 0 → e6 5 = ptr (h.next + 1) 0 → e6 6 = ptr (h.next + 2) 0 → e6 20 = ptr h2.next 0 → letB f x z = true →
      ((some ([] : List Dfr) = some [] ∧ Kept h2 hq ∧ h2.next < hq.next ∧ e6 0 = ptr bm 0 ∧ e6 4 = ptr h.next 0 ∧ e6 5 = ptr (h.next + 1) 0 ∧ e6 6 = ptr (h.next + 2) 0 ∧ e6 20 = ptr h2.next 0 ∧
      ∃ k : Nat, k ≤ 3 ∧ hq.get h2.next = some (.siter ⟨#[65, 66, 67]⟩ k) ∧ ∀ c ∈ ([65, 66, 67] : List UInt8).take k, letB f x c = true) ∧
      (match hq.get h2.next with | some (.siter _ k) => 3 - k | _ => 0) < (match hp.get h2.next with | some (.siter _ k) => 3 - k | _ => 0)) := by
    intro e6 hq hkq a0 a4 a5 a6 a20 hB
    refine ⟨⟨rfl, hk6.trans hkq, hnx hkq, a0, a4, a5, a6, a20, k + 1, by omega, g20 hkq, ?_⟩, ?_⟩
    · intro c' hc'
      rw [List.take_add_one, hz] at hc'
      simp only [Option.toList, List.mem_append, List.mem_singleton] at hc'
      rcases hc' with hc' | rfl
      · exact hall c' hc'
      · exact hB
    · rw [g20 hkq, gs]
      simp only; omega
  have second : ∀ e6 : Env, e6 0 = ptr bm 0 → e6 4 = ptr h.next 0 → e6 5 = ptr (h.next + 1) 0 → e6 6 = ptr (h.next + 2) 0 → e6 20 = ptr h2.next 0 → e6 8 = .int .i32 z.toNat → e6 9 = .int .i64 (fld x z.toNat) → ((fieldsOf x).contains z || fld x z.toNat == 0) = true →
      ∀ Q : Ex → St → Prop, (∀ (e7 : Env) (hq : Heap), Kept h6 hq → e7 0 = ptr bm 0 → e7 4 = ptr h.next 0 → e7 5 = ptr (h.next + 1) 0 → e7 6 = ptr (h.next + 2) 0 → e7 20 = ptr h2.next 0 → letB f x z = true → Q .normal ⟨e7, hq, some []⟩) → (∀ (e7 : Env) (hq : Heap), Kept h6 hq → letB f x z = false → Q (.pan (wrongV n at')) ⟨e7, hq, some []⟩) →
      Wc T (.seq (.ops [⟨(some 37), .op (.faddr 2 (.t 6)), none⟩, ⟨(some 38), .op (.load none (.t 37)), none⟩, ⟨(some 39), .op (.faddr 3 (.t 6)), none⟩, ⟨(some 40), .op (.load none (.t 39)), none⟩, ⟨(some 41), .op (.bin .add (.t 38) (.t 40)), none⟩, ⟨(some 42), .op (.mov (.t 8)), none⟩, ⟨(some 43), .call 45 [(.t 41), (.t 42)], none⟩])
        (.cond (.t 43)
          (.ops [⟨(some 44), .op (.mov (.t 0)), none⟩, ⟨(some 45), .op (.mov (.t 9)), none⟩, ⟨(some 46), .op (.bin .geq (.t 45) (.c (.int .i64 0))), none⟩, ⟨(some 47), .op (.mov (.t 46)), none⟩, ⟨(some 48), .op (.mov (.t 9)), (some (47, true))⟩, ⟨(some 49), .op (.faddr 2 (.t 4)), (some (47, true))⟩, ⟨(some 50), .op (.load none (.t 49)), (some (47, true))⟩, ⟨(some 51), .op (.bin .lss (.t 48) (.t 50)), (some (47, true))⟩, ⟨(some 52), .op (.pick (.t 47) (.t 51) (.c (.bool false))), none⟩, ⟨(some 53), .call 38 [(.t 44), (.t 52)], none⟩])
          .skip)) ⟨e6, h6, some []⟩ Q := by
    intro e6 a0 a4 a5 a6 a20 a8 a9 hF Q hQ hQp
    refine Wc_seq (Wc_ops (Wo_pre 6 (fun call => by simp only [List.take_succ_cons, List.take_zero, iops_nil, iops_op, iK_some, iop, ev, upd, dstUpd, ptr, Heap.cell, reduceIte, Nat.reduceEqDiff, Nat.reduceAdd, Nat.zero_add, Option.map_some, a6, a8, g6 hk6, hr1, hadd, List.getElem?_cons_zero, List.getElem?_cons_succ]; rfl) ?_))
    refine Wo_call ?_
    show Wk T (.fn 45) [.string ⟨(rd x ++ wr x).toArray⟩, .int .i32 z.toNat] h6 _
    refine (hasRune45 h45 (rd x ++ wr x) (fun c hc => by
      rcases List.mem_append.1 hc with h | h
      · exact hasc c h
      · exact hwa c h) z h6).mono fun o h7 ⟨hk67, ho7⟩ => ?_
    subst ho7
    show Wo T _ _ _
    refine Wo_nil ?_
    show Wc T _ _ _
    have hk7 := hk6.trans hk67
    refine Wc_cond ((rd x ++ wr x).contains z) (by simp [ev, upd, dstUpd]) (fun hyes => ?_) (fun hno => Wc_skip ?_)
    · by_cases q0 : 0 ≤ fld x z.toNat
      case neg =>
        refine Wc_ops (Wo_pre 9 (fun call => by simp only [List.take_succ_cons, List.take_zero, List.drop_succ_cons, List.drop_zero, iops_nil, iops_op, iops_grd, iK_some, iG_true, iG_false, gval_bool, beq_true, beq_false, Bool.not_true, Bool.not_false, iop, ev, upd, dstUpd, binV, binI, unV, ptr, Heap.cell, Heap.write, cellsOf, put, args0, partL, List.getD_cons_zero, List.getD_cons_succ, List.length_cons, List.length_nil, List.set_cons_zero, List.set_cons_succ, List.getElem?_cons_zero, List.getElem?_cons_succ, reduceIte, Nat.reduceEqDiff, Nat.reduceAdd, Nat.reduceMul, Nat.reduceLeDiff, Nat.zero_add, Nat.add_zero, Option.map_some, Int.reduceEq, Int.reduceLT, Int.reduceLE, Bool.false_eq_true, decide_true, decide_false, ge_iff_le, gt_iff_lt, set_get', a9, q0]; rfl) ?_)
        refine Wo_must h38 false (gm hk7) (by simp only [upd, dstUpd, reduceIte, Nat.reduceEqDiff, ev, a0, ptr]) (by simp only [upd, dstUpd, reduceIte, Nat.reduceEqDiff, ev]) (fun h => by cases h) (fun _ => ?_)
        refine hQp _ _ hk67 ?_
        have : inB f (fld x z.toNat) = false := by simp only [inB, decide_eq_false_iff_not]; omega
        simp only [letB, hyes, this, Bool.not_true, Bool.or_self, Bool.and_false]
      by_cases q1 : fld x z.toNat < f.regs
      case neg =>
        refine Wc_ops (Wo_pre 9 (fun call => by simp only [List.take_succ_cons, List.take_zero, List.drop_succ_cons, List.drop_zero, iops_nil, iops_op, iops_grd, iK_some, iG_true, iG_false, gval_bool, beq_true, beq_false, Bool.not_true, Bool.not_false, iop, ev, upd, dstUpd, binV, binI, unV, ptr, Heap.cell, Heap.write, cellsOf, put, args0, partL, List.getD_cons_zero, List.getD_cons_succ, List.length_cons, List.length_nil, List.set_cons_zero, List.set_cons_succ, List.getElem?_cons_zero, List.getElem?_cons_succ, reduceIte, Nat.reduceEqDiff, Nat.reduceAdd, Nat.reduceMul, Nat.reduceLeDiff, Nat.zero_add, Nat.add_zero, Option.map_some, Int.reduceEq, Int.reduceLT, Int.reduceLE, Bool.false_eq_true, decide_true, decide_false, ge_iff_le, gt_iff_lt, set_get', a9, a4, g4 hk7, Fn.cells, q0, q1]; rfl) ?_)
        refine Wo_must h38 false (gm hk7) (by simp only [upd, dstUpd, reduceIte, Nat.reduceEqDiff, ev, a0, ptr]) (by simp only [upd, dstUpd, reduceIte, Nat.reduceEqDiff, ev]) (fun h => by cases h) (fun _ => ?_)
        refine hQp _ _ hk67 ?_
        have : inB f (fld x z.toNat) = false := by simp only [inB, decide_eq_false_iff_not]; omega
        simp only [letB, hyes, this, Bool.not_true, Bool.or_self, Bool.and_false]
      refine Wc_ops (Wo_pre 9 (fun call => by simp only [List.take_succ_cons, List.take_zero, List.drop_succ_cons, List.drop_zero, iops_nil, iops_op, iops_grd, iK_some, iG_true, iG_false, gval_bool, beq_true, beq_false, Bool.not_true, Bool.not_false, iop, ev, upd, dstUpd, binV, binI, unV, ptr, Heap.cell, Heap.write, cellsOf, put, args0, partL, List.getD_cons_zero, List.getD_cons_succ, List.length_cons, List.length_nil, List.set_cons_zero, List.set_cons_succ, List.getElem?_cons_zero, List.getElem?_cons_succ, reduceIte, Nat.reduceEqDiff, Nat.reduceAdd, Nat.reduceMul, Nat.reduceLeDiff, Nat.zero_add, Nat.add_zero, Option.map_some, Int.reduceEq, Int.reduceLT, Int.reduceLE, Bool.false_eq_true, decide_true, decide_false, ge_iff_le, gt_iff_lt, set_get', a9, a4, g4 hk7, Fn.cells, q0, q1]; rfl) ?_)
      refine Wo_must h38 true (gm hk7) (by simp only [upd, dstUpd, reduceIte, Nat.reduceEqDiff, ev, a0, ptr]) (by simp only [upd, dstUpd, reduceIte, Nat.reduceEqDiff, ev]) (fun _ => Wo_nil ?_) (fun h => by cases h)
      have hi : inB f (fld x z.toNat) = true := by simp only [inB, decide_eq_true_eq]; omega
      exact hQ _ _ hk67 (by simp [upd, dstUpd, a0, ptr]) (by simp [upd, dstUpd, a4, ptr]) (by simp [upd, dstUpd, a5, ptr]) (by simp [upd, dstUpd, a6, ptr]) (by simp [upd, dstUpd, a20, ptr]) (by simp only [letB, hF, hi, Bool.or_true, Bool.and_self])
    · exact hQ _ _ hk67 (by simp [upd, dstUpd, a0, ptr]) (by simp [upd, dstUpd, a4, ptr]) (by simp [upd, dstUpd, a5, ptr]) (by simp [upd, dstUpd, a6, ptr]) (by simp [upd, dstUpd, a20, ptr]) (by simp only [letB, hF, hno, Bool.not_false, Bool.true_or, Bool.and_self])
  by_cases hF1 : (fieldsOf x).contains z = true
  · refine (Wo_pre 4 (fun call => by simp only [List.take_succ_cons, List.take_zero, List.drop_succ_cons, List.drop_zero, iops_nil, iops_op, iops_grd, iK_some, iG_true, iG_false, gval_bool, beq_true, beq_false, Bool.not_true, Bool.not_false, iop, ev, upd, dstUpd, binV, binI, unV, ptr, Heap.cell, Heap.write, cellsOf, put, args0, partL, List.getD_cons_zero, List.getD_cons_succ, List.length_cons, List.length_nil, List.set_cons_zero, List.set_cons_succ, List.getElem?_cons_zero, List.getElem?_cons_succ, reduceIte, Nat.reduceEqDiff, Nat.reduceAdd, Nat.reduceMul, Nat.reduceLeDiff, Nat.zero_add, Nat.add_zero, Option.map_some, Int.reduceEq, Int.reduceLT, Int.reduceLE, Bool.false_eq_true, decide_true, decide_false, ge_iff_le, gt_iff_lt, set_get', hF1]; rfl) ?_)
    refine Wo_must h38 true (gm hk6) (by simp only [upd, dstUpd, reduceIte, Nat.reduceEqDiff, ev, k0, ptr]) (by simp only [upd, dstUpd, reduceIte, Nat.reduceEqDiff, ev]) (fun _ => Wo_nil ?_) (fun h => by cases h)
    refine second _ (by simp [upd, dstUpd, k0, ptr]) (by simp [upd, dstUpd, k4, ptr]) (by simp [upd, dstUpd, k5, ptr]) (by simp [upd, dstUpd, k6, ptr]) (by simp [upd, dstUpd, k20, ptr]) (by simp [upd, dstUpd]) (by simp [upd, dstUpd]) (by rw [hF1, Bool.true_or]) _ (fun e7 hq hkq a0 a4 a5 a6 a20 hB => more e7 hq hkq a0 a4 a5 a6 a20 hB) (fun e7 hq hkq hB => badZ e7 hq (hk6.trans hkq) hB)
  have hF1' : (fieldsOf x).contains z = false := by simpa using hF1
  by_cases hF2 : fld x z.toNat = 0
  · have hF3 : (fld x z.toNat == 0) = true := by simpa using hF2
    refine (Wo_pre 4 (fun call => by simp only [List.take_succ_cons, List.take_zero, List.drop_succ_cons, List.drop_zero, iops_nil, iops_op, iops_grd, iK_some, iG_true, iG_false, gval_bool, beq_true, beq_false, Bool.not_true, Bool.not_false, iop, ev, upd, dstUpd, binV, binI, unV, ptr, Heap.cell, Heap.write, cellsOf, put, args0, partL, List.getD_cons_zero, List.getD_cons_succ, List.length_cons, List.length_nil, List.set_cons_zero, List.set_cons_succ, List.getElem?_cons_zero, List.getElem?_cons_succ, reduceIte, Nat.reduceEqDiff, Nat.reduceAdd, Nat.reduceMul, Nat.reduceLeDiff, Nat.zero_add, Nat.add_zero, Option.map_some, Int.reduceEq, Int.reduceLT, Int.reduceLE, Bool.false_eq_true, decide_true, decide_false, ge_iff_le, gt_iff_lt, set_get', hF1', hF3]; rfl) ?_)
    refine Wo_must h38 true (gm hk6) (by simp only [upd, dstUpd, reduceIte, Nat.reduceEqDiff, ev, k0, ptr]) (by simp only [upd, dstUpd, reduceIte, Nat.reduceEqDiff, ev]) (fun _ => Wo_nil ?_) (fun h => by cases h)
    refine second _ (by simp [upd, dstUpd, k0, ptr]) (by simp [upd, dstUpd, k4, ptr]) (by simp [upd, dstUpd, k5, ptr]) (by simp [upd, dstUpd, k6, ptr]) (by simp [upd, dstUpd, k20, ptr]) (by simp [upd, dstUpd]) (by simp [upd, dstUpd]) (by rw [hF3, Bool.or_true]) _ (fun e7 hq hkq a0 a4 a5 a6 a20 hB => more e7 hq hkq a0 a4 a5 a6 a20 hB) (fun e7 hq hkq hB => badZ e7 hq (hk6.trans hkq) hB)
  · have hF3 : (fld x z.toNat == 0) = false := by simpa using hF2
    refine (Wo_pre 4 (fun call => by simp only [List.take_succ_cons, List.take_zero, List.drop_succ_cons, List.drop_zero, iops_nil, iops_op, iops_grd, iK_some, iG_true, iG_false, gval_bool, beq_true, beq_false, Bool.not_true, Bool.not_false, iop, ev, upd, dstUpd, binV, binI, unV, ptr, Heap.cell, Heap.write, cellsOf, put, args0, partL, List.getD_cons_zero, List.getD_cons_succ, List.length_cons, List.length_nil, List.set_cons_zero, List.set_cons_succ, List.getElem?_cons_zero, List.getElem?_cons_succ, reduceIte, Nat.reduceEqDiff, Nat.reduceAdd, Nat.reduceMul, Nat.reduceLeDiff, Nat.zero_add, Nat.add_zero, Option.map_some, Int.reduceEq, Int.reduceLT, Int.reduceLE, Bool.false_eq_true, decide_true, decide_false, ge_iff_le, gt_iff_lt, set_get', hF1', hF3]; rfl) ?_)
    refine Wo_must h38 false (gm hk6) (by simp only [upd, dstUpd, reduceIte, Nat.reduceEqDiff, ev, k0, ptr]) (by simp only [upd, dstUpd, reduceIte, Nat.reduceEqDiff, ev]) (fun h => by cases h) (fun _ => ?_)
    exact badZ _ _ hk6 (by simp only [letB, hF1', hF3, Bool.or_self, Bool.false_and])

end Go.Idl
end
