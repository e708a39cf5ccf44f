/- TreeOnce: the claim. -/
import Derived.Test.YtlphecjgkknpnaaO13
import Derived.Test.YtlphecjgkknpnaaL2
import Derived.Shelf.Strings.Search1
import Derived.Shelf.Strings.Search2
import Derived.Shelf.Strings.Search3
import Derived.Shelf.LaysM
import Derived.Shelf.Strings.Shaped
import Derived.Test.YtlphecjgkknpnaaProg
import Derived.Test.YtlphecjgkknpnaaI21
import Derived.Test.YtlphecjgkknpnaaChecked
import Derived.KernelRfl
import Derived.Test.YtlphecjgkknpnaaRows
import Derived.WalkKit
import Derived.ProofKit
import Derived.OpenShut
import Derived.JoinedCond
section
/- TreeOnce, as ideal code. -/
namespace Go.Idl
set_option linter.unusedVariables false
set_option linter.unusedSimpArgs false
set_option maxRecDepth 100000

variable {T : Tbl}

/-- How often each node was told. -/
def seenL (n : Nat) (told : List Int) : List Int := (List.range n).map fun k : Nat => ((told.count (k : Int) : Nat) : Int)
theorem seenL_len (n : Nat) (told : List Int) : (seenL n told).length = n := by simp [seenL]
theorem seenL_at {n : Nat} {told : List Int} {k : Nat} (h : k < n) : (seenL n told)[k]? = some ((told.count (k : Int) : Nat) : Int) := by simp [seenL, List.getElem?_range h]
theorem seenL_nil (n : Nat) : seenL n [] = List.replicate n 0 := by
  apply List.ext_getElem?
  intro i
  by_cases hi : i < n
  · rw [seenL_at hi, List.getElem?_replicate, if_pos hi]; simp
  · rw [List.getElem?_eq_none (by rw [seenL_len]; omega), List.getElem?_eq_none (by rw [List.length_replicate]; omega)]
theorem seenL_set {n : Nat} {told : List Int} {k : Nat} (h : k < n) (hn : (k : Int) ∉ told) : (seenL n told).set k 1 = seenL n (told ++ [(k : Int)]) := by
  apply List.ext_getElem?
  intro i
  rw [List.getElem?_set, seenL_len]
  by_cases hi : i < n
  · rw [seenL_at hi, seenL_at hi, List.count_append]
    by_cases e : k = i
    · subst e
      rw [if_pos rfl, if_pos hi, List.count_eq_zero.2 hn]; simp
    · rw [if_neg e, List.count_eq_zero (l := [(k : Int)]).2 (by simp; omega), Nat.add_zero]
  · rw [List.getElem?_eq_none (by rw [seenL_len]; omega)]
    by_cases e : k = i
    · omega
    · rw [if_neg e, List.getElem?_eq_none (by rw [seenL_len]; omega)]

structure OnceFns (T : Tbl) : Prop where
  law : T.fn 7 = some C7
  few : T.fn 10 = some C10
  awake : ∀ (h : Heap) (K : Out → Heap → Prop), K (.ret (.bool true)) h → Wk T (.fn 9) [] h K
  walk : T.fn 19 = some C19
  walk1 : T.fn 28 = some C28
  ref : RefFns T
  chk : ChkFns T

theorem weight_mem' : ∀ {l : List Nd} {x : Nd}, x ∈ l → x.kids.length + x.text.size / 20 ≤ weight l
  | y :: l, x, h => by
    have hc : weight (y :: l) = (y.kids.length + y.text.size / 20) + weight l := by simp [weight]
    rcases List.mem_cons.1 h with rfl | h
    · omega
    · have := weight_mem' h
      omega

theorem mkWalk_ok (hT : T.fn 19 = some C19) {h : Heap} {v : Value} (hv : cellsOf v = some [v]) : Wk T (.fn 19) [v] h (fun o h' => New1 h h' (.cells [v] true 0) ∧ o = .ret (.func (.func 28) #[] #[ptr h.next 0])) := by
  refine Wk_fn hT (by simp [C19]) ?_
  simp only [C19]
  refine Wc_seq (Wc_ops (Wo_box (cs := [v]) hv fun h1 n1 => (Wo_run (fun call => by simp only [List.drop_succ_cons, List.drop_zero, iops_nil, iops_op, iops_grd, iK_some, iG_true, iG_false, gval_bool, beq_self_eq_true, beq_true, beq_false, Bool.not_true, Bool.not_false, iop, ev, upd, dstUpd, binV, binI, unV, ptr, Heap.cell, Heap.write, cellsOf, put, args0, partL, List.getD_cons_zero, List.getD_cons_succ, List.length_cons, List.length_nil, List.set_cons_zero, List.set_cons_succ, List.getElem?_cons_zero, List.getElem?_cons_succ, reduceIte, Nat.reduceEqDiff, Nat.reduceAdd, Nat.reduceMul, Nat.reduceLeDiff, Nat.zero_add, Nat.add_zero, Option.map_some, Int.reduceEq, Int.reduceLT, Int.reduceLE, Bool.false_eq_true, decide_true, decide_false, ge_iff_le, gt_iff_lt, set_get']; rfl) ?_)))
  show Wc T _ _ _
  refine Wc_seq (Wc_ops (Wo_run (fun call => by simp only [List.drop_succ_cons, List.drop_zero, iops_nil, iops_op, iops_grd, iK_some, iG_true, iG_false, gval_bool, beq_self_eq_true, beq_true, beq_false, Bool.not_true, Bool.not_false, iop, ev, upd, dstUpd, binV, binI, unV, ptr, Heap.cell, Heap.write, cellsOf, put, args0, partL, List.getD_cons_zero, List.getD_cons_succ, List.length_cons, List.length_nil, List.set_cons_zero, List.set_cons_succ, List.getElem?_cons_zero, List.getElem?_cons_succ, reduceIte, Nat.reduceEqDiff, Nat.reduceAdd, Nat.reduceMul, Nat.reduceLeDiff, Nat.zero_add, Nat.add_zero, Option.map_some, Int.reduceEq, Int.reduceLT, Int.reduceLE, Bool.false_eq_true, decide_true, decide_false, ge_iff_le, gt_iff_lt, set_get', List.map_nil, List.map_cons]; rfl) ?_))
  exact Wc_ret ⟨.inr rfl, rfl, [.func (.func 28) #[] #[ptr h.next 0]], by simp only [resAll, resV, upd, dstUpd, reduceIte, Nat.reduceEqDiff]; rfl, n1, rfl⟩

theorem law7 (F : OnceFns T) {h : Heap} {v : Value} {l : List Nd} (hn : nodesAt h v l) (hw : l.length + weight l < 4611686018427387904) : Wk T (.fn 7) [v] h (fun o h' => o = .ret (.bool true)) := by
  obtain ⟨va, vc, hvl⟩ := hn.len
  refine Wk_fnL F.law (by simp [C7]) ?_
  simp only [C7]
  refine Wc_seq (Wc_ops (Wo_box (cs := [v]) (by rw [hvl]; rfl) fun h1 n1 => Wo_alloc fun h2 n2 => Wo_nil ?_))
  show Wc T _ _ _
  have hcb : ∀ h', Kept h2 h' → h'.get h.next = some (.cells [v] true 0) := fun h' k => by
    rw [k.get _ (by rw [n2.next, n1.next]; omega), n2.kept.get _ (by rw [n1.next]; exact Nat.lt_succ_self _)]; exact n1.get
  have hrb : ∀ h', Kept h2 h' → h'.get h1.next = some (.cells [.bool false] true 0) := fun h' k => by
    rw [k.get _ (by rw [n2.next]; omega)]; exact n2.get
  have hn2 : nodesAt h2 v l := (hn.keep n1.kept).keep n2.kept
  -- leaving before the walk
  have leave : ∀ (e : Env) (h' : Heap), Kept h2 h' → e 2 = ptr h1.next 0 → Wc T (.seq (.ops [⟨none, .op (.store 1 (.t 2) (.c (.bool true))), none⟩]) .ret) ⟨e, h', some []⟩ (fun x s => x = .ret ∧ FinL T C7 (fun o h' => o = .ret (.bool true)) x s) := by
    intro e h' k e2
    refine Wc_seq (Wc_ops (Wo_op (iop_store_at (v := .bool true) e2 rfl (hrb _ k) (by simp)) (Wo_nil ?_)))
    refine Wc_ret ⟨rfl, Lv_nil (vs := [.bool true]) rfl ?_ rfl⟩
    simp only [C7, resAll, resV, dstUpd, e2, ptr, Heap.cell, set_get', List.set_cons_zero, List.getElem?_cons_zero]
  refine Wc_seq (Wc_seq (Wc_ops (Wo_call (F.awake _ _ ?_))))
  show Wo T _ _ _
  refine (Wo_run (fun call => by simp only [List.drop_succ_cons, List.drop_zero, iops_nil, iops_op, iops_grd, iK_some, iG_true, iG_false, gval_bool, beq_self_eq_true, beq_true, beq_false, Bool.not_true, Bool.not_false, iop, ev, upd, dstUpd, binV, binI, unV, ptr, Heap.cell, Heap.write, cellsOf, put, args0, partL, List.getD_cons_zero, List.getD_cons_succ, List.length_cons, List.length_nil, List.set_cons_zero, List.set_cons_succ, List.getElem?_cons_zero, List.getElem?_cons_succ, reduceIte, Nat.reduceEqDiff, Nat.reduceAdd, Nat.reduceMul, Nat.reduceLeDiff, Nat.zero_add, Nat.add_zero, Option.map_some, Int.reduceEq, Int.reduceLT, Int.reduceLE, Bool.false_eq_true, decide_true, decide_false, ge_iff_le, gt_iff_lt, set_get']; rfl) ?_)
  show Wc T _ _ _
  refine Wc_cond false (by simp only [upd, dstUpd, args0, List.getD_cons_zero, List.getD_cons_succ, reduceIte, Nat.reduceEqDiff, ptr] <;> first | rfl | assumption | (symm; assumption)) (fun e => by cases e) (fun _ => Wc_skip ?_)
  show Wc T _ _ _
  refine Wc_seq (Wc_seq (Wc_ops (Wo_pre 1 (fun call => by simp only [List.take_succ_cons, List.take_zero, List.drop_succ_cons, List.drop_zero, iops_nil, iops_op, iops_grd, iK_some, iG_true, iG_false, gval_bool, beq_self_eq_true, beq_true, beq_false, Bool.not_true, Bool.not_false, iop, ev, upd, dstUpd, binV, binI, unV, ptr, Heap.cell, Heap.write, cellsOf, put, args0, partL, List.getD_cons_zero, List.getD_cons_succ, List.length_cons, List.length_nil, List.set_cons_zero, List.set_cons_succ, List.getElem?_cons_zero, List.getElem?_cons_succ, reduceIte, Nat.reduceEqDiff, Nat.reduceAdd, Nat.reduceMul, Nat.reduceLeDiff, Nat.zero_add, Nat.add_zero, Option.map_some, Int.reduceEq, Int.reduceLT, Int.reduceLE, Bool.false_eq_true, decide_true, decide_false, ge_iff_le, gt_iff_lt, set_get', hcb _ (.refl _)]; rfl) ?_)))
  refine Wo_call (Wk_kept (few_spec F.few hn2 hw) fun h3 k3 => ?_)
  by_cases hfew : l.length + weight l ≤ 3000
  case neg =>
    refine (Wo_run (fun call => by simp only [List.drop_succ_cons, List.drop_zero, iops_nil, iops_op, iops_grd, iK_some, iG_true, iG_false, gval_bool, beq_self_eq_true, beq_true, beq_false, Bool.not_true, Bool.not_false, iop, ev, upd, dstUpd, binV, binI, unV, ptr, Heap.cell, Heap.write, cellsOf, put, args0, partL, List.getD_cons_zero, List.getD_cons_succ, List.length_cons, List.length_nil, List.set_cons_zero, List.set_cons_succ, List.getElem?_cons_zero, List.getElem?_cons_succ, reduceIte, Nat.reduceEqDiff, Nat.reduceAdd, Nat.reduceMul, Nat.reduceLeDiff, Nat.zero_add, Nat.add_zero, Option.map_some, Int.reduceEq, Int.reduceLT, Int.reduceLE, Bool.false_eq_true, decide_true, decide_false, ge_iff_le, gt_iff_lt, set_get', hfew]; rfl) ?_)
    show Wc T _ _ _
    refine Wc_cond true (by simp only [upd, dstUpd, args0, List.getD_cons_zero, List.getD_cons_succ, reduceIte, Nat.reduceEqDiff, ptr] <;> first | rfl | assumption | (symm; assumption)) (fun _ => ?_) (fun e => by cases e)
    exact (leave _ _ k3 (by simp only [upd, dstUpd, args0, List.getD_cons_zero, List.getD_cons_succ, reduceIte, Nat.reduceEqDiff, ptr] <;> first | rfl | assumption | (symm; assumption))).mono fun x s hs => by obtain ⟨hx, hs⟩ := hs; subst hx; exact hs
  refine (Wo_run (fun call => by simp only [List.drop_succ_cons, List.drop_zero, iops_nil, iops_op, iops_grd, iK_some, iG_true, iG_false, gval_bool, beq_self_eq_true, beq_true, beq_false, Bool.not_true, Bool.not_false, iop, ev, upd, dstUpd, binV, binI, unV, ptr, Heap.cell, Heap.write, cellsOf, put, args0, partL, List.getD_cons_zero, List.getD_cons_succ, List.length_cons, List.length_nil, List.set_cons_zero, List.set_cons_succ, List.getElem?_cons_zero, List.getElem?_cons_succ, reduceIte, Nat.reduceEqDiff, Nat.reduceAdd, Nat.reduceMul, Nat.reduceLeDiff, Nat.zero_add, Nat.add_zero, Option.map_some, Int.reduceEq, Int.reduceLT, Int.reduceLE, Bool.false_eq_true, decide_true, decide_false, ge_iff_le, gt_iff_lt, set_get', hfew]; rfl) ?_)
  show Wc T _ _ _
  refine Wc_cond false (by simp only [upd, dstUpd, args0, List.getD_cons_zero, List.getD_cons_succ, reduceIte, Nat.reduceEqDiff, ptr] <;> first | rfl | assumption | (symm; assumption)) (fun e => by cases e) (fun _ => Wc_skip ?_)
  show Wc T _ _ _
  have hN : l.length ≤ 3000 := by omega
  have hK : ∀ x ∈ l, x.kids.length ≤ 3000 := fun x hx => by have := weight_mem' hx; omega
  have hS : ∀ x ∈ l, x.text.size < 4611686018427387904 := fun x hx => by have := weight_mem' hx; omega
  refine Wc_seq (Wc_seq (Wc_ops (Wo_pre 1 (fun call => by simp only [List.take_succ_cons, List.take_zero, List.drop_succ_cons, List.drop_zero, iops_nil, iops_op, iops_grd, iK_some, iG_true, iG_false, gval_bool, beq_self_eq_true, beq_true, beq_false, Bool.not_true, Bool.not_false, iop, ev, upd, dstUpd, binV, binI, unV, ptr, Heap.cell, Heap.write, cellsOf, put, args0, partL, List.getD_cons_zero, List.getD_cons_succ, List.length_cons, List.length_nil, List.set_cons_zero, List.set_cons_succ, List.getElem?_cons_zero, List.getElem?_cons_succ, reduceIte, Nat.reduceEqDiff, Nat.reduceAdd, Nat.reduceMul, Nat.reduceLeDiff, Nat.zero_add, Nat.add_zero, Option.map_some, Int.reduceEq, Int.reduceLT, Int.reduceLE, Bool.false_eq_true, decide_true, decide_false, ge_iff_le, gt_iff_lt, set_get', hcb _ k3]; rfl) ?_)))
  refine Wo_call ((checkR_ok F.ref (hn2.keep k3) hN hK hS).mono ?_)
  rintro o h4 ⟨k4, a, bad, rfl, hbad⟩
  show Wo T _ _ _
  have k24 := k3.trans k4
  refine (Wo_run (fun call => by simp only [List.drop_succ_cons, List.drop_zero, iops_nil, iops_op, iops_grd, iK_some, iG_true, iG_false, gval_bool, beq_self_eq_true, beq_true, beq_false, Bool.not_true, Bool.not_false, iop, ev, upd, dstUpd, binV, binI, unV, ptr, Heap.cell, Heap.write, cellsOf, put, args0, partL, List.getD_cons_zero, List.getD_cons_succ, List.length_cons, List.length_nil, List.set_cons_zero, List.set_cons_succ, List.getElem?_cons_zero, List.getElem?_cons_succ, reduceIte, Nat.reduceEqDiff, Nat.reduceAdd, Nat.reduceMul, Nat.reduceLeDiff, Nat.zero_add, Nat.add_zero, Option.map_some, Int.reduceEq, Int.reduceLT, Int.reduceLE, Bool.false_eq_true, decide_true, decide_false, ge_iff_le, gt_iff_lt, set_get']; rfl) ?_)
  show Wc T _ _ _
  by_cases hb0 : bad = 0
  case neg =>
    have hb1 : (bad != 0) = true := by simp [hb0]
    refine Wc_seq (Wc_ops (Wo_run (fun call => by simp only [List.drop_succ_cons, List.drop_zero, iops_nil, iops_op, iops_grd, iK_some, iG_true, iG_false, gval_bool, beq_self_eq_true, beq_true, beq_false, Bool.not_true, Bool.not_false, iop, ev, upd, dstUpd, binV, binI, unV, ptr, Heap.cell, Heap.write, cellsOf, put, args0, partL, List.getD_cons_zero, List.getD_cons_succ, List.length_cons, List.length_nil, List.set_cons_zero, List.set_cons_succ, List.getElem?_cons_zero, List.getElem?_cons_succ, reduceIte, Nat.reduceEqDiff, Nat.reduceAdd, Nat.reduceMul, Nat.reduceLeDiff, Nat.zero_add, Nat.add_zero, Option.map_some, Int.reduceEq, Int.reduceLT, Int.reduceLE, Bool.false_eq_true, decide_true, decide_false, ge_iff_le, gt_iff_lt, set_get', hb1]; rfl) ?_))
    show Wc T _ _ _
    refine Wc_cond true (by simp only [upd, dstUpd, args0, List.getD_cons_zero, List.getD_cons_succ, reduceIte, Nat.reduceEqDiff, ptr] <;> first | rfl | assumption | (symm; assumption)) (fun _ => ?_) (fun e => by cases e)
    exact (leave _ _ k24 (by simp only [upd, dstUpd, args0, List.getD_cons_zero, List.getD_cons_succ, reduceIte, Nat.reduceEqDiff, ptr] <;> first | rfl | assumption | (symm; assumption))).mono fun x s hs => by obtain ⟨hx, hs⟩ := hs; subst hx; exact hs
  have g : GoodT l := hbad.1 hb0
  subst hb0
  refine Wc_seq (Wc_ops (Wo_run (fun call => by simp only [List.drop_succ_cons, List.drop_zero, iops_nil, iops_op, iops_grd, iK_some, iG_true, iG_false, gval_bool, beq_self_eq_true, beq_true, beq_false, Bool.not_true, Bool.not_false, iop, ev, upd, dstUpd, binV, binI, unV, ptr, Heap.cell, Heap.write, cellsOf, put, args0, partL, List.getD_cons_zero, List.getD_cons_succ, List.length_cons, List.length_nil, List.set_cons_zero, List.set_cons_succ, List.getElem?_cons_zero, List.getElem?_cons_succ, reduceIte, Nat.reduceEqDiff, Nat.reduceAdd, Nat.reduceMul, Nat.reduceLeDiff, Nat.zero_add, Nat.add_zero, Option.map_some, Int.reduceEq, Int.reduceLT, Int.reduceLE, Bool.false_eq_true, decide_true, decide_false, ge_iff_le, gt_iff_lt, set_get', bne]; rfl) ?_))
  show Wc T _ _ _
  refine Wc_cond false (by simp only [upd, dstUpd, args0, List.getD_cons_zero, List.getD_cons_succ, reduceIte, Nat.reduceEqDiff, ptr] <;> first | rfl | assumption | (symm; assumption)) (fun e => by cases e) (fun _ => Wc_skip ?_)
  show Wc T _ _ _
  refine Wc_seq (Wc_ops (Wo_pre 1 (fun call => by simp only [List.take_succ_cons, List.take_zero, List.drop_succ_cons, List.drop_zero, iops_nil, iops_op, iops_grd, iK_some, iG_true, iG_false, gval_bool, beq_self_eq_true, beq_true, beq_false, Bool.not_true, Bool.not_false, iop, ev, upd, dstUpd, binV, binI, unV, ptr, Heap.cell, Heap.write, cellsOf, put, args0, partL, List.getD_cons_zero, List.getD_cons_succ, List.length_cons, List.length_nil, List.set_cons_zero, List.set_cons_succ, List.getElem?_cons_zero, List.getElem?_cons_succ, reduceIte, Nat.reduceEqDiff, Nat.reduceAdd, Nat.reduceMul, Nat.reduceLeDiff, Nat.zero_add, Nat.add_zero, Option.map_some, Int.reduceEq, Int.reduceLT, Int.reduceLE, Bool.false_eq_true, decide_true, decide_false, ge_iff_le, gt_iff_lt, set_get', hcb _ k24]; rfl) ?_))
  refine Wo_call ((mkWalk_ok F.walk (v := v) (by rw [hvl]; rfl)).mono ?_)
  rintro o h5 ⟨n5, rfl⟩
  show Wo T _ _ _
  refine (Wo_run (fun call => by simp only [List.drop_succ_cons, List.drop_zero, iops_nil, iops_op, iops_grd, iK_some, iG_true, iG_false, gval_bool, beq_self_eq_true, beq_true, beq_false, Bool.not_true, Bool.not_false, iop, ev, upd, dstUpd, binV, binI, unV, ptr, Heap.cell, Heap.write, cellsOf, put, args0, partL, List.getD_cons_zero, List.getD_cons_succ, List.length_cons, List.length_nil, List.set_cons_zero, List.set_cons_succ, List.getElem?_cons_zero, List.getElem?_cons_succ, reduceIte, Nat.reduceEqDiff, Nat.reduceAdd, Nat.reduceMul, Nat.reduceLeDiff, Nat.zero_add, Nat.add_zero, Option.map_some, Int.reduceEq, Int.reduceLT, Int.reduceLE, Bool.false_eq_true, decide_true, decide_false, ge_iff_le, gt_iff_lt, set_get']; rfl) ?_)
  show Wc T _ _ _
  refine Wc_seq (Wc_seq (Wc_ops (Wo_run (fun call => by simp only [List.drop_succ_cons, List.drop_zero, iops_nil, iops_op, iops_grd, iK_some, iG_true, iG_false, gval_bool, beq_self_eq_true, beq_true, beq_false, Bool.not_true, Bool.not_false, iop, ev, upd, dstUpd, binV, binI, unV, ptr, Heap.cell, Heap.write, cellsOf, put, args0, partL, List.getD_cons_zero, List.getD_cons_succ, List.length_cons, List.length_nil, List.set_cons_zero, List.set_cons_succ, List.getElem?_cons_zero, List.getElem?_cons_succ, reduceIte, Nat.reduceEqDiff, Nat.reduceAdd, Nat.reduceMul, Nat.reduceLeDiff, Nat.zero_add, Nat.add_zero, Option.map_some, Int.reduceEq, Int.reduceLT, Int.reduceLE, Bool.false_eq_true, decide_true, decide_false, ge_iff_le, gt_iff_lt, set_get', nilV]; rfl) ?_)))
  show Wc T _ _ _
  refine Wc_cond false (by simp only [upd, dstUpd, args0, List.getD_cons_zero, List.getD_cons_succ, reduceIte, Nat.reduceEqDiff, ptr] <;> first | rfl | assumption | (symm; assumption)) (fun e => by cases e) (fun _ => Wc_skip ?_)
  show Wc T _ _ _
  have k25 := k24.trans n5.kept
  -- a place to count
  refine Wc_seq (Wc_ops (Wo_pre 2 (fun call => by simp only [List.take_succ_cons, List.take_zero, List.drop_succ_cons, List.drop_zero, iops_nil, iops_op, iops_grd, iK_some, iG_true, iG_false, gval_bool, beq_self_eq_true, beq_true, beq_false, Bool.not_true, Bool.not_false, iop, ev, upd, dstUpd, binV, binI, unV, ptr, Heap.cell, Heap.write, cellsOf, put, args0, partL, List.getD_cons_zero, List.getD_cons_succ, List.length_cons, List.length_nil, List.set_cons_zero, List.set_cons_succ, List.getElem?_cons_zero, List.getElem?_cons_succ, reduceIte, Nat.reduceEqDiff, Nat.reduceAdd, Nat.reduceMul, Nat.reduceLeDiff, Nat.zero_add, Nat.add_zero, Option.map_some, Int.reduceEq, Int.reduceLT, Int.reduceLE, Bool.false_eq_true, decide_true, decide_false, ge_iff_le, gt_iff_lt, set_get', hcb _ k25, hvl]; rfl) ?_))
  refine Wo_new (v := .slice (some ⟨h5.next, 0, none⟩) l.length l.length) (B := .cells (ints64 (seenL l.length [])) true 1) ?_ fun h6 n6 => ?_
  · simp only [iop, ev, upd, dstUpd, reduceIte, Nat.reduceEqDiff, Int.toNat_natCast]
    rw [if_pos (by omega), repI, seenL_nil]
  refine Wo_op (v := ptr h6.next 0) (h' := h6.new (.cells [.slice none 0 0] true 0)) rfl ?_
  refine Wo_op (iop_store_at (k := 0) (v := .slice (some ⟨h5.next, 0, none⟩) l.length l.length) (by simp only [upd, dstUpd, args0, List.getD_cons_zero, List.getD_cons_succ, reduceIte, Nat.reduceEqDiff, ptr] <;> first | rfl | assumption | (symm; assumption)) rfl (new_get' _ _) (by simp)) (Wo_nil ?_)
  show Wc T _ _ _
  have n7 := New1.of_set h6 (.cells [.slice none 0 0] true 0) (.cells ([Value.slice none 0 0].set 0 (.slice (some ⟨h5.next, 0, none⟩) l.length l.length)) true 0)
  generalize (h6.new (.cells [.slice none 0 0] true 0)).set h6.next (.cells ([Value.slice none 0 0].set 0 (.slice (some ⟨h5.next, 0, none⟩) l.length l.length)) true 0) = H at n7 ⊢
  rw [List.set_cons_zero] at n7
  have k2H : Kept h2 H := (k25.trans n6.kept).trans n7.kept
  have hsb : H.get h5.next = some (.cells (ints64 (seenL l.length [])) true 1) := by rw [n7.kept.get _ (by rw [n6.next]; exact Nat.lt_succ_self _)]; exact n6.get
  have hcb2 : H.get h4.next = some (.cells [v] true 0) := by
    rw [n7.kept.get _ (by rw [n6.next, n5.next]; omega), n6.kept.get _ (by rw [n5.next]; omega)]; exact n5.get
  have hsbH : h5.next < H.next := by rw [n7.next, n6.next]; omega
  have hnext : h2.next ≤ h5.next := k25.next
  have h21 : h1.next < h2.next := by rw [n2.next]; exact Nat.lt_succ_self _
  have h10 : h.next < h1.next := by rw [n1.next]; exact Nat.lt_succ_self _
  have h54 : h4.next < h5.next := by rw [n5.next]; exact Nat.lt_succ_self _
  have h67 : h6.next < H.next := by rw [n7.next]; exact Nat.lt_succ_self _
  have h56 : h5.next < h6.next := by rw [n6.next]; exact Nat.lt_succ_self _
  -- the walk
  refine Wc_seq (Wc_seq (Wc_ops (Wo_run (fun call => by simp only [List.drop_succ_cons, List.drop_zero, iops_nil, iops_op, iops_grd, iK_some, iG_true, iG_false, gval_bool, beq_self_eq_true, beq_true, beq_false, Bool.not_true, Bool.not_false, iop, ev, upd, dstUpd, binV, binI, unV, ptr, Heap.cell, Heap.write, cellsOf, put, args0, partL, List.getD_cons_zero, List.getD_cons_succ, List.length_cons, List.length_nil, List.set_cons_zero, List.set_cons_succ, List.getElem?_cons_zero, List.getElem?_cons_succ, reduceIte, Nat.reduceEqDiff, Nat.reduceAdd, Nat.reduceMul, Nat.reduceLeDiff, Nat.zero_add, Nat.add_zero, Option.map_some, Int.reduceEq, Int.reduceLT, Int.reduceLE, Bool.false_eq_true, decide_true, decide_false, ge_iff_le, gt_iff_lt, set_get']; rfl) ?_)))
  show Wc T _ _ _
  refine Wc_block ?_
  generalize hE : (upd _ 29 _ : Env) = E
  have E1 : E 1 = .pointer (some ⟨h.next, 0, none⟩) := by rw [← hE]; rfl
  have E2 : E 2 = .pointer (some ⟨h1.next, 0, none⟩) := by rw [← hE]; rfl
  have E6 : E 6 = .pointer (some ⟨h6.next, 0, none⟩) := by rw [← hE]; rfl
  have E29 : E 29 = .func (.func 28) #[] #[ptr h4.next 0] := by rw [← hE]; rfl
  clear hE
  refine Wc_rangeF (g := 28) (vs := [.func (.yield (H.next + 1)) #[] #[], ptr h4.next 0]) (by simp only [ev, E29, target]; rfl) ?_
  generalize hL0 : LoopB.mk .ready none E [30, 31] C7A0 C7B0 = L0
  generalize hHL : (H.new .dfr).new (.loop L0) = HL
  have HLn : HL.next = H.next + 2 := by rw [← hHL]; rfl
  have HL0 : ∀ b, b < H.next → HL.get b = H.get b := fun b hb => by
    rw [← hHL, new_get_ne' _ _ (by show b ≠ (H.next + 1); omega), new_get_ne' _ _ (by omega)]
  have HLd : HL.get H.next = some .dfr := by
    rw [← hHL, new_get_ne' _ _ (by show H.next ≠ (H.next + 1); omega)]; exact new_get' _ _
  have HLl : HL.get (H.next + 1) = some (.loop L0) := by rw [← hHL]; exact new_get' _ _
  have hL0st : L0.st = .ready := by rw [← hL0]
  have hL0p : L0.pend = none := by rw [← hL0]
  refine (walk_ok F.chk F.walk1 (lp := H.next + 1) (cb := h4.next) (v := v) (l := l) (h := HL) (I := fun told h' => (∀ b, b < H.next → b ≠ h5.next → h'.get b = H.get b) ∧ HL.next ≤ h'.next ∧ h'.get H.next = some .dfr ∧ h'.get (H.next + 1) = some (.loop L0) ∧ h'.get h5.next = some (.cells (ints64 (seenL l.length told)) true 1)) g hN hK hS ?_ ?_ ?_ ?_).mono ?_
  · rintro told h' ⟨i1, i2, i3, i4, i5⟩
    refine ⟨(hn2.keep k25).keep ⟨?_, fun b hb => ?_⟩, by rw [i1 _ (by omega) (by omega)]; exact hcb2⟩
    · omega
    · rw [i1 b (by omega) (by omega), n7.kept.get b (by omega), n6.kept.get b hb]
  · rintro told a b ⟨i1, i2, i3, i4, i5⟩ lo
    refine ⟨fun c hc hc5 => by rw [lo.get c (by omega)]; exact i1 c hc hc5, Nat.le_trans i2 lo.next, by rw [lo.get _ (by omega)]; exact i3, by rw [lo.get _ (by omega)]; exact i4, by rw [lo.get _ (by omega)]; exact i5⟩
  · -- a round
    rintro told n d a ⟨i1, i2, i3, i4, i5⟩ ha hnl hnew
    refine Wk_yld i4 (by rw [← hL0]; rfl) ?_
    have hasg : L0.asg = C7A0 := by rw [← hL0]
    have hbody : L0.body = C7B0 := by rw [← hL0]
    have hLe : L0.e = E := by rw [← hL0]
    have hLps : L0.ps = [30, 31] := by rw [← hL0]
    rw [hasg, hLe, hLps]
    have hset : setPs E [30, 31] [.int .i64 (n : Int), .int .i64 d] = upd (upd E 30 (.int .i64 n)) 31 (.int .i64 d) := rfl
    rw [hset, C7A0]
    refine Wc_ops (Wo_run (fun call => by simp only [List.drop_succ_cons, List.drop_zero, iops_nil, iops_op, iops_grd, iK_some, iG_true, iG_false, gval_bool, beq_self_eq_true, beq_true, beq_false, Bool.not_true, Bool.not_false, iop, ev, upd, dstUpd, binV, binI, unV, ptr, Heap.cell, Heap.write, cellsOf, put, args0, partL, List.getD_cons_zero, List.getD_cons_succ, List.length_cons, List.length_nil, List.set_cons_zero, List.set_cons_succ, List.getElem?_cons_zero, List.getElem?_cons_succ, reduceIte, Nat.reduceEqDiff, Nat.reduceAdd, Nat.reduceMul, Nat.reduceLeDiff, Nat.zero_add, Nat.add_zero, Option.map_some, Int.reduceEq, Int.reduceLT, Int.reduceLE, Bool.false_eq_true, decide_true, decide_false, ge_iff_le, gt_iff_lt, set_get']; rfl) ?_)
    refine ⟨rfl, L0, i4, hL0st, ?_⟩
    generalize hB : ({ L0 with st := .busy } : LoopB) = LB
    rw [hbody, C7B0]
    have hBr : ({ LB with st := .ready, pend := none } : LoopB) = L0 := by
      rw [← hB, ← hL0]
    have j1 : (a.set (H.next + 1) (.loop LB)).get h.next = some (.cells [v] true 0) := by
      rw [set_get_ne' _ _ (by omega), i1 _ (by omega) (by omega)]; exact hcb _ k2H
    have j2 : (a.set (H.next + 1) (.loop LB)).get h6.next = some (.cells [.slice (some ⟨h5.next, 0, none⟩) l.length l.length] true 0) := by
      rw [set_get_ne' _ _ (by omega), i1 _ (by omega) (by omega)]; exact n7.get
    have j3 : (a.set (H.next + 1) (.loop LB)).get h5.next = some (.cells (ints64 (seenL l.length told)) true 1) := by
      rw [set_get_ne' _ _ (by omega)]; exact i5
    have j4 : (a.set (H.next + 1) (.loop LB)).get (H.next + 1) = some (.loop LB) := set_get' _ _ _
    generalize hA : a.set (H.next + 1) (.loop LB) = A at j1 j2 j3 j4 ⊢
    have c0 : (seenL l.length told)[n]? = some 0 := by rw [seenL_at hnl, List.count_eq_zero.2 hnew]; rfl
    have c1 : (ints64 (seenL l.length told))[n * 1]? = some (.int .i64 0) := by rw [Nat.mul_one]; exact ints64_get c0
    have w1 : IntKind.i64.wrap (1 : Int) = 1 := wrap64 (by omega) (by omega)
    have n0 : ¬ ((n : Nat) : Int) < 0 := by omega
    have n1' : ¬ ((l.length : Nat) : Int) ≤ ((n : Nat) : Int) := by omega
    refine Wc_block (Wc_seq (Wc_seq (Wc_ops (Wo_run (fun call => by simp only [List.drop_succ_cons, List.drop_zero, iops_nil, iops_op, iops_grd, iK_some, iG_true, iG_false, gval_bool, beq_self_eq_true, beq_true, beq_false, Bool.not_true, Bool.not_false, iop, ev, upd, dstUpd, binV, binI, unV, ptr, Heap.cell, Heap.write, cellsOf, put, args0, partL, List.getD_cons_zero, List.getD_cons_succ, List.length_cons, List.length_nil, List.set_cons_zero, List.set_cons_succ, List.getElem?_cons_zero, List.getElem?_cons_succ, reduceIte, Nat.reduceEqDiff, Nat.reduceAdd, Nat.reduceMul, Nat.reduceLeDiff, Nat.zero_add, Nat.add_zero, Option.map_some, Int.reduceEq, Int.reduceLT, Int.reduceLE, Bool.false_eq_true, decide_true, decide_false, ge_iff_le, gt_iff_lt, set_get', E1, j1, hvl, n0, n1']; rfl) ?_))))
    show Wc T _ _ _
    refine Wc_cond false (by simp only [upd, dstUpd, args0, List.getD_cons_zero, List.getD_cons_succ, reduceIte, Nat.reduceEqDiff, ptr] <;> first | rfl | assumption | (symm; assumption)) (fun e => by cases e) (fun _ => Wc_skip ?_)
    show Wc T _ _ _
    refine Wc_ops (Wo_pre 6 (fun call => by simp only [List.take_succ_cons, List.take_zero, List.drop_succ_cons, List.drop_zero, iops_nil, iops_op, iops_grd, iK_some, iG_true, iG_false, gval_bool, beq_self_eq_true, beq_true, beq_false, Bool.not_true, Bool.not_false, iop, ev, upd, dstUpd, binV, binI, unV, ptr, Heap.cell, Heap.write, cellsOf, put, args0, partL, List.getD_cons_zero, List.getD_cons_succ, List.length_cons, List.length_nil, List.set_cons_zero, List.set_cons_succ, List.getElem?_cons_zero, List.getElem?_cons_succ, reduceIte, Nat.reduceEqDiff, Nat.reduceAdd, Nat.reduceMul, Nat.reduceLeDiff, Nat.zero_add, Nat.add_zero, Option.map_some, Int.reduceEq, Int.reduceLT, Int.reduceLE, Bool.false_eq_true, decide_true, decide_false, ge_iff_le, gt_iff_lt, set_get', E6, j2, idx_ok hnl, j3, c1, Int.zero_add, w1]; rfl) ?_)
    refine Wo_op (iop_store_at (k := n * 1) (v := .int .i64 1) (by simp only [upd, dstUpd, args0, List.getD_cons_zero, List.getD_cons_succ, reduceIte, Nat.reduceEqDiff, ptr] <;> first | rfl | assumption | (symm; assumption)) rfl j3 (by rw [ints64_length, seenL_len]; omega)) (Wo_nil ?_)
    rw [Nat.mul_one, ints64_set, seenL_set hnl hnew]
    refine ⟨LB, by rw [set_get_ne' _ _ (by omega)]; exact j4, ?_⟩
    simp only
    rw [hBr]
    refine ⟨by trivial, ⟨?_, ?_, ?_, ?_, ?_⟩, ?_, ?_⟩
    · intro b hb hb5
      rw [set_get_ne' _ _ (by omega), set_get_ne' _ _ hb5, ← hA, set_get_ne' _ _ (by omega)]; exact i1 b hb hb5
    · rw [set_next, set_next, ← hA, set_next]; exact i2
    · rw [set_get_ne' _ _ (by omega), set_get_ne' _ _ (by omega), ← hA, set_get_ne' _ _ (by omega)]; exact i3
    · exact set_get' _ _ _
    · rw [set_get_ne' _ _ (by omega)]; exact set_get' _ _ _
    · rw [set_next, set_next, ← hA, set_next]; exact Nat.le_refl _
    · intro b hb1 hb2
      rw [set_get_ne' _ _ (by omega), set_get_ne' _ _ (by omega), ← hA, set_get_ne' _ _ (by omega)]
  · exact ⟨fun b hb _ => HL0 b hb, Nat.le_refl _, HLd, HLl, by rw [HL0 _ hsbH]; exact hsb⟩
  rintro o hE ⟨⟨r, rfl⟩, told, ⟨i1, i2, i3, i4, i5⟩, hall⟩
  refine ⟨L0, i4, by rw [hL0st]; decide, ?_⟩
  generalize hZ : hE.set (H.next + 1) (.loop { L0 with st := .gone }) = Z
  rw [hL0p]
  show Wc T _ _ _
  have z1 : Z.get h6.next = some (.cells [.slice (some ⟨h5.next, 0, none⟩) l.length l.length] true 0) := by
    rw [← hZ, set_get_ne' _ _ (by omega), i1 _ (by omega) (by omega)]; exact n7.get
  have z2 : Z.get h5.next = some (.cells (ints64 (seenL l.length told)) true 1) := by
    rw [← hZ, set_get_ne' _ _ (by omega)]; exact i5
  have z3 : Z.get h1.next = some (.cells [.bool false] true 0) := by
    rw [← hZ, set_get_ne' _ _ (by omega), i1 _ (by omega) (by omega)]; exact hrb _ k2H
  have z4 : Z.get H.next = some .dfr := by
    rw [← hZ, set_get_ne' _ _ (by omega)]; exact i3
  -- all was told once
  refine Wc_mid (fun s => s.d = some [.mark H.next] ∧ s.h = Z ∧ s.e 2 = ptr h1.next 0) ?_ ?_
  · refine Wc_seq (Wc_ops (Wo_run (fun call => by simp only [List.drop_succ_cons, List.drop_zero, iops_nil, iops_op, iops_grd, iK_some, iG_true, iG_false, gval_bool, beq_self_eq_true, beq_true, beq_false, Bool.not_true, Bool.not_false, iop, ev, upd, dstUpd, binV, binI, unV, ptr, Heap.cell, Heap.write, cellsOf, put, args0, partL, List.getD_cons_zero, List.getD_cons_succ, List.length_cons, List.length_nil, List.set_cons_zero, List.set_cons_succ, List.getElem?_cons_zero, List.getElem?_cons_succ, reduceIte, Nat.reduceEqDiff, Nat.reduceAdd, Nat.reduceMul, Nat.reduceLeDiff, Nat.zero_add, Nat.add_zero, Option.map_some, Int.reduceEq, Int.reduceLT, Int.reduceLE, Bool.false_eq_true, decide_true, decide_false, ge_iff_le, gt_iff_lt, set_get', E6, z1]; rfl) ?_))
    show Wc T _ _ _
    refine Wc_range l.length (fun j e h' d => d = some [.mark H.next] ∧ h' = Z) (by decide) (by simp only [upd, dstUpd, args0, List.getD_cons_zero, List.getD_cons_succ, reduceIte, Nat.reduceEqDiff, ptr] <;> first | rfl | assumption | (symm; assumption)) (by simp only [upd, dstUpd, args0, List.getD_cons_zero, List.getD_cons_succ, reduceIte, Nat.reduceEqDiff, ptr] <;> first | rfl | assumption | (symm; assumption)) (by omega) (by decide) ⟨rfl, rfl⟩ ?_ ?_
    · rintro j e h' d hj ⟨rfl, rfl⟩ hfr h48 h47
      have e46 : e 46 = .slice (some ⟨h5.next, 0, none⟩) l.length l.length := (by rw [hfr 46 (by decide)]; try simp only [upd, dstUpd, args0, List.getD_cons_zero, List.getD_cons_succ, reduceIte, Nat.reduceEqDiff] <;> first | rfl | assumption | (symm; assumption))
      have c1 : (ints64 (seenL l.length told))[j * 1]? = some (.int .i64 1) := by
        rw [Nat.mul_one]
        refine ints64_get ?_
        rw [seenL_at hj, hall j hj]; rfl
      refine Wc_seq (Wc_ops (Wo_run (fun call => by simp only [List.drop_succ_cons, List.drop_zero, iops_nil, iops_op, iops_grd, iK_some, iG_true, iG_false, gval_bool, beq_self_eq_true, beq_true, beq_false, Bool.not_true, Bool.not_false, iop, ev, upd, dstUpd, binV, binI, unV, ptr, Heap.cell, Heap.write, cellsOf, put, args0, partL, List.getD_cons_zero, List.getD_cons_succ, List.length_cons, List.length_nil, List.set_cons_zero, List.set_cons_succ, List.getElem?_cons_zero, List.getElem?_cons_succ, reduceIte, Nat.reduceEqDiff, Nat.reduceAdd, Nat.reduceMul, Nat.reduceLeDiff, Nat.zero_add, Nat.add_zero, Option.map_some, Int.reduceEq, Int.reduceLT, Int.reduceLE, Bool.false_eq_true, decide_true, decide_false, ge_iff_le, gt_iff_lt, set_get', h48, e46, idx_ok hj, z2, c1]; rfl) ?_))
      show Wc T _ _ _
      refine Wc_seq (Wc_ops (Wo_run (fun call => by simp only [List.drop_succ_cons, List.drop_zero, iops_nil, iops_op, iops_grd, iK_some, iG_true, iG_false, gval_bool, beq_self_eq_true, beq_true, beq_false, Bool.not_true, Bool.not_false, iop, ev, upd, dstUpd, binV, binI, unV, ptr, Heap.cell, Heap.write, cellsOf, put, args0, partL, List.getD_cons_zero, List.getD_cons_succ, List.length_cons, List.length_nil, List.set_cons_zero, List.set_cons_succ, List.getElem?_cons_zero, List.getElem?_cons_succ, reduceIte, Nat.reduceEqDiff, Nat.reduceAdd, Nat.reduceMul, Nat.reduceLeDiff, Nat.zero_add, Nat.add_zero, Option.map_some, Int.reduceEq, Int.reduceLT, Int.reduceLE, Bool.false_eq_true, decide_true, decide_false, ge_iff_le, gt_iff_lt, set_get', bne]; rfl) ?_))
      show Wc T _ _ _
      refine Wc_cond false (by simp only [upd, dstUpd, args0, List.getD_cons_zero, List.getD_cons_succ, reduceIte, Nat.reduceEqDiff, ptr] <;> first | rfl | assumption | (symm; assumption)) (fun e => by cases e) (fun _ => Wc_skip ?_)
      exact ⟨rfl, rfl⟩
    · rintro e h' d ⟨rfl, rfl⟩ hfr h48
      have e2 : e 2 = ptr h1.next 0 := (by rw [hfr 2 (by decide)]; try simp only [upd, dstUpd, args0, List.getD_cons_zero, List.getD_cons_succ, reduceIte, Nat.reduceEqDiff, E2] <;> first | rfl | assumption | (symm; assumption))
      exact ⟨rfl, rfl, by simp only [upd, dstUpd, reduceIte, Nat.reduceEqDiff]; exact e2⟩
  rintro ⟨e, h', d⟩ ⟨hd, hh, e2⟩
  simp only at hd hh e2
  rw [hd, hh]
  refine Wc_seq (Wc_ops (Wo_op (iop_store_at (v := .bool true) e2 rfl z3 (by simp)) (Wo_nil ?_)))
  show Wc T _ _ _
  refine Wc_ret (Lv_mark (vs := [.bool true]) rfl (by show (Z.set _ _).get _ = _; rw [set_get_ne' _ _ (by omega)]; exact z4) ?_ rfl)
  simp only [C7, resAll, resV, dstUpd, e2, ptr, Heap.cell]
  rw [set_get_ne' _ _ (by omega), set_get']
  rfl

end Go.Idl
end

section
/-
  DERIVED: THE SHELF's CONTRACTS AT THIS DUMP, IN PLAIN WORDS (tools/lay-plain.mjs out of 'TryShelf.lean', which tools/lay-shelf.mjs wrote): THE SAME DECLARATIONS UNDER THE SAME NAMES: 'import', 'namespace', 'open', 'def', 'theorem' AND NOTHING ELSE: no command of the shelf's: FOR A HAND-IN. Each laying: the table of numbers ('.._ren') and one theorem, a field a fact of the dump's own or the kernel's comparison; each contract: ONE APPLICATION.
-/
namespace Go.Proofs
open Go.Shelf
def Try.laysM144_ren : Go.Shelf.Ren := ⟨fun | 144 => 31 | 143 => 47 | 219 => 54 | 217 => 56 | 225 => 57 | 224 => 58 | 267 => 59 | 266 => 60 | 314 => 61 | n => n, fun | 9 => 9 | 4 => 4 | 3 => 3 | 5 => 5 | 46 => 82 | 146 => 84 | 51 => 83 | n => n, fun | 1 => 0 | n => n⟩
theorem Try.laysM144 : Go.Proofs.LaysM.n144 Try.prog Try.laysM144_ren := {
  mixed := by kernel_rfl
  f143 := Try.func47.trans (congrArg some (by kernel_rfl))
  f144 := Try.func31.trans (congrArg some (by kernel_rfl))
  f217 := Try.func56.trans (congrArg some (by kernel_rfl))
  f219 := Try.func54.trans (congrArg some (by kernel_rfl))
  f224 := Try.func58.trans (congrArg some (by kernel_rfl))
  f225 := Try.func57.trans (congrArg some (by kernel_rfl))
  f266 := Try.func60.trans (congrArg some (by kernel_rfl))
  f267 := Try.func59.trans (congrArg some (by kernel_rfl))
  f314 := Try.func61.trans (congrArg some (by kernel_rfl))
  t3 := Try.underlying3
  a3 := Try.isAgg3
  z3 := Try.sizeOf3
  v3 := Try.zeroValue3
  t4 := Try.underlying4
  a4 := Try.isAgg4
  z4 := Try.sizeOf4
  v4 := Try.zeroValue4
  t5 := Try.underlying5
  a5 := Try.isAgg5
  z5 := Try.sizeOf5
  v5 := Try.zeroValue5
  t9 := Try.underlying9
  a9 := Try.isAgg9
  z9 := Try.sizeOf9
  v9 := Try.zeroValue9
  t46 := Try.underlying82
  a46 := Try.isAgg82
  z46 := Try.sizeOf82
  v46 := Try.zeroValue82
  t51 := Try.underlying83
  a51 := Try.isAgg83
  z51 := Try.sizeOf83
  v51 := Try.zeroValue83
  t146 := Try.underlying84
  a146 := Try.isAgg84
  z146 := Try.sizeOf84
  v146 := Try.zeroValue84
  g1 := by kernel_rfl
  i3 := by kernel_rfl
  i4 := by kernel_rfl
  i5 := by kernel_rfl
  i9 := by kernel_rfl
  i46 := by kernel_rfl
  i51 := by kernel_rfl
  i146 := by kernel_rfl
  m1 := by kernel_rfl
  s1_3 := fun w h => Go.Proofs.cell_of_shapedOpen_int (zero := #[.int .i64 0]) (t := 3) h (of_decide_eq_true (by kernel_rfl)) (by kernel_rfl) rfl (by kernel_rfl) (by kernel_rfl) Try.underlying3 }
open Go.RowKit Go.Lib in
theorem Try.strings_Contains_shaped (s sub : ByteArray) (w : World) (h : w.ShapedOpen Try.prog) (hs : s.size < 4294967281) :
    Calls Try.prog 31 #[.string s, .string sub] w fun e w' => e = .returned (.bool (Lib.contains s.data.toList sub.data.toList)) ∧ w' = w := Any.strings_Contains_shaped Try.laysM144 s sub w h hs
end Go.Proofs
end

section
/- TreeOnce: the table. -/
namespace Go.Idl
set_option linter.unusedVariables false
set_option linter.unusedSimpArgs false
set_option maxRecDepth 100000
open Go.Proofs

noncomputable def Tb0 : Tbl := { fn := fun f => (Try.prog.funcs[f]?).bind (cfn Try.prog), prim := fun _ => none }
theorem Tb0ok {G : World → Prop} : TblOkG Try.prog G Tb0 := ⟨fun f fn h => by
  obtain ⟨F, h1, h2⟩ := Option.bind_eq_some_iff.1 h
  exact ⟨F, h1, h2⟩, fun f p h => by cases h⟩

/-- The one set of a text within another that is asked. -/
def conV : List Value → Option Value
  | [.string s, .string t] => if conP s t = true then some (.bool true) else none
  | _ => none
theorem con_all : (opsL.all fun w => Lib.contains opsS.data.toList (⟨#[32]⟩ ++ w ++ ⟨#[32]⟩ : ByteArray).data.toList) = true := by kernel_rfl
theorem con_sgn : ([⟨#[45]⟩, ⟨#[33]⟩, ⟨#[126]⟩] : List ByteArray).all (fun w => Lib.contains sgnS.data.toList w.data.toList) = true := by kernel_rfl
theorem con_ok {s t : ByteArray} (h : conP s t = true) : s.size < 4294967281 ∧ Lib.contains s.data.toList t.data.toList = true := by
  simp only [conP, Bool.or_eq_true, Bool.and_eq_true, decide_eq_true_eq] at h
  rcases h with ⟨rfl, h⟩ | ⟨rfl, h⟩
  · refine ⟨by decide, ?_⟩
    simp only [sgnB, Bool.or_eq_true, decide_eq_true_eq] at h
    refine List.all_eq_true.1 con_sgn t ?_
    rcases h with (h | h) | h <;> subst h <;> simp
  · refine ⟨by decide, ?_⟩
    obtain ⟨w, hw, h⟩ := List.any_eq_true.1 h
    rw [of_decide_eq_true h]
    exact List.all_eq_true.1 con_all w hw
theorem conV_ok : PrimOkG Try.prog (fun w => w.ShapedOpen Try.prog) 31 conV := by
  refine ⟨calleeOk_mk Try.func31 (by kernel_rfl) (by kernel_rfl), fun args v h => ?_⟩
  unfold conV at h
  split at h
  case h_2 => cases h
  split at h
  case isFalse => cases h
  rename_i s t hs
  cases h
  obtain ⟨h1, h2⟩ := con_ok hs
  exact ⟨fun ι rargs hr => args_eq hr rfl, fun ι => .bool _, fun w hw => ((Try.strings_Contains_shaped _ _ w hw h1).mono fun e w' ⟨h3, h4⟩ => by subst h4; rw [h2] at h3; exact ⟨h3, ⟨Nat.le_refl _, fun _ _ => rfl⟩, rfl, rfl, rfl⟩)⟩

def isV (v : Value) (o : Option (Out × Heap)) : Bool := match o with | some (.ret w, _) => veq2 w v | _ => false
theorem isV_of {v : Value} {o : Option (Out × Heap)} (h : isV v o = true) : ∃ h', o = some (.ret v, h') := by
  unfold isV at h
  split at h
  · exact ⟨_, by rw [veq2_eq h]⟩
  · cases h

theorem cls_run : isV clsV (ccall Tb0 60 (.fn 42) [] ⟨fun _ => none, 0⟩) = true := by kernel_rfl
def clsP : List Value → Option Value
  | [] => some clsV
  | _ => none
theorem clsV_pure : pure1 clsV = true := by kernel_rfl
theorem clsP_ok : PrimOkG Try.prog (fun w => w.ShapedOpen Try.prog) 42 clsP := by
  refine primOk_pureG (shaped_good _) Tb0ok (calleeOk_mk Try.func42 (by kernel_rfl) (by kernel_rfl)) fun args v h => ?_
  cases args with
  | cons a r => cases h
  | nil =>
    simp only [clsP, Option.some.injEq] at h
    subst h
    obtain ⟨h', hc⟩ := isV_of cls_run
    exact ⟨rfl, clsV_pure, 60, h', ccall_ideal Tb0 60 _ _ _ _ hc⟩

theorem awake_run : isV (.bool true) (ccall Tb0 100 (.fn 9) [] ⟨fun _ => none, 0⟩) = true := by kernel_rfl
def wakeP : List Value → Option Value
  | [] => some (.bool true)
  | _ => none
theorem wakeP_ok : PrimOkG Try.prog (fun w => w.ShapedOpen Try.prog) 9 wakeP := by
  refine primOk_pureG (shaped_good _) Tb0ok (calleeOk_mk Try.func9 (by kernel_rfl) (by kernel_rfl)) fun args v h => ?_
  cases args with
  | cons a r => cases h
  | nil =>
    simp only [wakeP, Option.some.injEq] at h
    subst h
    obtain ⟨h', hc⟩ := isV_of awake_run
    exact ⟨rfl, rfl, 100, h', ccall_ideal Tb0 100 _ _ _ _ hc⟩

noncomputable def T1 : Tbl := setPrim (setPrim (setPrim Tb0 31 conV) 42 clsP) 9 wakeP
theorem T1ok : TblOkG Try.prog (fun w => w.ShapedOpen Try.prog) T1 := setPrim_ok (setPrim_ok (setPrim_ok Tb0ok conV_ok) clsP_ok) wakeP_ok

theorem T1_12 : T1.fn 12 = some C12 := by
  have h : cfn Try.prog Try.f12 = some C12 := by kernel_rfl
  simp only [T1, setPrim, Tb0, Try.func12, Option.bind_some, h]; rfl
theorem T1_14 : T1.fn 14 = some C14 := by
  have h : cfn Try.prog Try.f14 = some C14 := by kernel_rfl
  simp only [T1, setPrim, Tb0, Try.func14, Option.bind_some, h]; rfl
theorem T1_25 : T1.fn 25 = some C25 := by
  have h : cfn Try.prog Try.f25 = some C25 := by kernel_rfl
  simp only [T1, setPrim, Tb0, Try.func25, Option.bind_some, h]; rfl
theorem T1_26 : T1.fn 26 = some C26 := by
  have h : cfn Try.prog Try.f26 = some C26 := by kernel_rfl
  simp only [T1, setPrim, Tb0, Try.func26, Option.bind_some, h]; rfl
theorem T1_38 : T1.fn 38 = some C38 := by
  have h : cfn Try.prog Try.f38 = some C38 := by kernel_rfl
  simp only [T1, setPrim, Tb0, Try.func38, Option.bind_some, h]; rfl
theorem T1_40 : T1.fn 40 = some C40 := by
  have h : cfn Try.prog Try.f40 = some C40 := by kernel_rfl
  simp only [T1, setPrim, Tb0, Try.func40, Option.bind_some, h]; rfl
theorem T1_41 : T1.fn 41 = some C41 := by
  have h : cfn Try.prog Try.f41 = some C41 := by kernel_rfl
  simp only [T1, setPrim, Tb0, Try.func41, Option.bind_some, h]; rfl
theorem T1_39 : T1.fn 39 = some C39 := by
  have h : cfn Try.prog Try.f39 = some C39 := by kernel_rfl
  simp only [T1, setPrim, Tb0, Try.func39, Option.bind_some, h]; rfl
theorem T1_37 : T1.fn 37 = some C37 := by
  have h : cfn Try.prog Try.f37 = some C37 := by kernel_rfl
  simp only [T1, setPrim, Tb0, Try.func37, Option.bind_some, h]; rfl
theorem T1_35 : T1.fn 35 = some C35 := by
  have h : cfn Try.prog Try.f35 = some C35 := by kernel_rfl
  simp only [T1, setPrim, Tb0, Try.func35, Option.bind_some, h]; rfl
theorem T1_48 : T1.fn 48 = some C48 := by
  have h : cfn Try.prog Try.f48 = some C48 := by kernel_rfl
  simp only [T1, setPrim, Tb0, Try.func48, Option.bind_some, h]; rfl
theorem T1_49 : T1.fn 49 = some C49 := by
  have h : cfn Try.prog Try.f49 = some C49 := by kernel_rfl
  simp only [T1, setPrim, Tb0, Try.func49, Option.bind_some, h]; rfl
theorem T1_50 : T1.fn 50 = some C50 := by
  have h : cfn Try.prog Try.f50 = some C50 := by kernel_rfl
  simp only [T1, setPrim, Tb0, Try.func50, Option.bind_some, h]; rfl
theorem T1_36 : T1.fn 36 = some C36 := by
  have h : cfn Try.prog Try.f36 = some C36 := by kernel_rfl
  simp only [T1, setPrim, Tb0, Try.func36, Option.bind_some, h]; rfl
theorem T1_51 : T1.fn 51 = some C51 := by
  have h : cfn Try.prog Try.f51 = some C51 := by kernel_rfl
  simp only [T1, setPrim, Tb0, Try.func51, Option.bind_some, h]; rfl
theorem T1_55 : T1.fn 55 = some C55 := by
  have h : cfn Try.prog Try.f55 = some C55 := by kernel_rfl
  simp only [T1, setPrim, Tb0, Try.func55, Option.bind_some, h]; rfl
theorem T1_11 : T1.fn 11 = some C11 := by
  have h : cfn Try.prog Try.f11 = some C11 := by kernel_rfl
  simp only [T1, setPrim, Tb0, Try.func11, Option.bind_some, h]; rfl
theorem T1_22 : T1.fn 22 = some C22 := by
  have h : cfn Try.prog Try.f22 = some C22 := by kernel_rfl
  simp only [T1, setPrim, Tb0, Try.func22, Option.bind_some, h]; rfl
theorem T1_13 : T1.fn 13 = some C13 := by
  have h : cfn Try.prog Try.f13 = some C13 := by kernel_rfl
  simp only [T1, setPrim, Tb0, Try.func13, Option.bind_some, h]; rfl
theorem T1_23 : T1.fn 23 = some C23 := by
  have h : cfn Try.prog Try.f23 = some C23 := by kernel_rfl
  simp only [T1, setPrim, Tb0, Try.func23, Option.bind_some, h]; rfl
theorem T1_29 : T1.fn 29 = some C29 := by
  have h : cfn Try.prog Try.f29 = some C29 := by kernel_rfl
  simp only [T1, setPrim, Tb0, Try.func29, Option.bind_some, h]; rfl
theorem T1_43 : T1.fn 43 = some C43 := by
  have h : cfn Try.prog Try.f43 = some C43 := by kernel_rfl
  simp only [T1, setPrim, Tb0, Try.func43, Option.bind_some, h]; rfl
theorem T1_44 : T1.fn 44 = some C44 := by
  have h : cfn Try.prog Try.f44 = some C44 := by kernel_rfl
  simp only [T1, setPrim, Tb0, Try.func44, Option.bind_some, h]; rfl
theorem T1_45 : T1.fn 45 = some C45 := by
  have h : cfn Try.prog Try.f45 = some C45 := by kernel_rfl
  simp only [T1, setPrim, Tb0, Try.func45, Option.bind_some, h]; rfl
theorem T1_53 : T1.fn 53 = some C53 := by
  have h : cfn Try.prog Try.f53 = some C53 := by kernel_rfl
  simp only [T1, setPrim, Tb0, Try.func53, Option.bind_some, h]; rfl
theorem T1_30 : T1.fn 30 = some C30 := by
  have h : cfn Try.prog Try.f30 = some C30 := by kernel_rfl
  simp only [T1, setPrim, Tb0, Try.func30, Option.bind_some, h]; rfl
theorem T1_46 : T1.fn 46 = some C46 := by
  have h : cfn Try.prog Try.f46 = some C46 := by kernel_rfl
  simp only [T1, setPrim, Tb0, Try.func46, Option.bind_some, h]; rfl
theorem T1_24 : T1.fn 24 = some C24 := by
  have h : cfn Try.prog Try.f24 = some C24 := by kernel_rfl
  simp only [T1, setPrim, Tb0, Try.func24, Option.bind_some, h]; rfl
theorem T1_34 : T1.fn 34 = some C34 := by
  have h : cfn Try.prog Try.f34 = some C34 := by kernel_rfl
  simp only [T1, setPrim, Tb0, Try.func34, Option.bind_some, h]; rfl
theorem T1_33 : T1.fn 33 = some C33 := by
  have h : cfn Try.prog Try.f33 = some C33 := by kernel_rfl
  simp only [T1, setPrim, Tb0, Try.func33, Option.bind_some, h]; rfl
theorem T1_32 : T1.fn 32 = some C32 := by
  have h : cfn Try.prog Try.f32 = some C32 := by kernel_rfl
  simp only [T1, setPrim, Tb0, Try.func32, Option.bind_some, h]; rfl
theorem T1_7 : T1.fn 7 = some C7 := by
  have h : cfn Try.prog Try.f7 = some C7 := by kernel_rfl
  simp only [T1, setPrim, Tb0, Try.func7, Option.bind_some, h]; rfl
theorem T1_10 : T1.fn 10 = some C10 := by
  have h : cfn Try.prog Try.f10 = some C10 := by kernel_rfl
  simp only [T1, setPrim, Tb0, Try.func10, Option.bind_some, h]; rfl
theorem T1_19 : T1.fn 19 = some C19 := by
  have h : cfn Try.prog Try.f19 = some C19 := by kernel_rfl
  simp only [T1, setPrim, Tb0, Try.func19, Option.bind_some, h]; rfl
theorem T1_28 : T1.fn 28 = some C28 := by
  have h : cfn Try.prog Try.f28 = some C28 := by kernel_rfl
  simp only [T1, setPrim, Tb0, Try.func28, Option.bind_some, h]; rfl

theorem refF : RefFns T1 := ⟨T1_12, T1_14, T1_25, T1_26, T1_38, T1_40, T1_41, T1_39, T1_37, T1_35, T1_48, T1_49, T1_50, T1_36, T1_51, T1_55⟩
theorem saysF : SaysFns T1 := ⟨T1_23, T1_29, fun h K k => Wk_prim (p := clsP) (v := clsV) rfl rfl rfl k, T1_43, T1_44, T1_45, T1_53, T1_30, T1_46, fun s t h K hc k => Wk_prim (p := conV) (v := .bool true) rfl rfl (by simp only [conV, hc, if_true]) k⟩
theorem fitF1 : FitFns T1 := ⟨T1_24, T1_34, T1_33, T1_32⟩
theorem chkF : ChkFns T1 := ⟨T1_11, T1_22, T1_13, saysF, fitF1⟩
theorem onceF : OnceFns T1 := ⟨T1_7, T1_10, fun h K k => Wk_prim (p := wakeP) (v := .bool true) rfl rfl rfl k, T1_19, T1_28, refF, chkF⟩

end Go.Idl
end

section
/- TreeOnce: the claim. -/
namespace Go.Proofs.Ytlphecjgkknpnaa.treeOnce
open Go.ChangeShapes Go.WideShapes Go.ChangeAt Go.RowKit Go.Idl
set_option linter.unusedVariables false
set_option linter.unusedSimpArgs false
set_option maxRecDepth 100000

theorem own : ownKnob Try.prog.godebug = none := by kernel_rfl

theorem kids : Kids Try.prog (· < Try.prog.types.size) := kids_rows (by kernel_rfl) (by kernel_rfl)
theorem full : ∀ t e, t < Try.prog.types.size → Try.prog.underlying t = some (.slice e) → 0 < Try.prog.cellsOf e := slices_full_of Try.prog (by kernel_rfl)
theorem rowed : (22 : Nat) < Try.prog.types.size := of_decide_eq_true (by kernel_rfl)

theorem nodeTy : Ty Try.prog nodeTD 22 := by
  simp only [nodeTD, Ty, TyL]
  refine ⟨34, Try.underlying22, ⟨_, Try.underlying34, ⟨_, _, rfl, rfl, Try.underlying3, by kernel_rfl, ⟨_, _, rfl, rfl, Try.underlying9, by kernel_rfl, ⟨_, _, rfl, rfl, ⟨3, Try.underlying32, Try.underlying3, by kernel_rfl, by decide⟩, by kernel_rfl, ⟨_, _, rfl, rfl, Try.underlying3, by kernel_rfl, rfl⟩⟩⟩⟩, by kernel_rfl⟩, by kernel_rfl, by decide⟩

mutual
theorem bulk_sum {H : Type} : ∀ (ds : List (DataW H)), (ds.map Rows.uptoBulk).sum = Rows.uptoBulkAll ds
  | [] => by simp [Rows.uptoBulkAll]
  | d :: ds => by simp [Rows.uptoBulkAll, bulk_sum ds]
end

theorem meas {H : Type} : Meas (Rows.uptoBulk (H := H)) :=
  ⟨fun b => by simp [Rows.uptoBulk], fun x => by cases x <;> simp [Rows.uptoBulk], fun es sp => by rw [bulk_sum]; simp only [Rows.uptoBulk]; omega, fun ds => by rw [bulk_sum]; simp only [Rows.uptoBulk]; omega⟩

theorem contract (H : Type) (enc : TypeId × Value → H) (W : World) (base : Nat) (args : Array Value) (ds gs : List (DataW H)) (before : List MemPlace)
    (hval : ∀ (j : Nat) t v, Try.f7.params[j]? = some t → args[j]? = some v → Value.okWide Try.prog W .any base t v)
    (hW : DataW.Whole enc Try.prog Try.f7.params.toList Rows.treeOnceSpec.vars false W args.toList ds gs before) (hk : Rows.uptoSmall H (ds ++ gs) = true) (hsh : W.ShapedOpen Try.prog) :
    Calls Try.prog 7 args W fun e W' => ∃ v, e = .returned v ∧ Rows.treeOnceSpec.post enc Try.prog Try.f7 false true false false W args v W' := by
  have hW' := hW
  obtain ⟨p, q, hA, hV, rfl, hfz, hnd⟩ := hW
  have hpar : Try.f7.params.toList = [22] := by rw [Try.params7]
  rw [hpar] at hA
  have hagg : ∀ (j : Nat) t v, [22][j]? = some t → args.toList[j]? = some v → ((∃ fs, Try.prog.underlying t = some (.struct fs)) ↔ ∃ cs, v = .agg cs) := by
    intro j t v ht hv
    cases j with
    | succ j => simp at ht
    | zero =>
      simp at ht
      subst ht
      refine ⟨fun ⟨fs, h⟩ => (by rw [Try.underlying22] at h; cases h), fun ⟨cs, h⟩ => ?_⟩
      subst h
      exfalso
      have := hval 0 22 (.agg cs) (by rw [Try.params7]; rfl) (by simpa using hv)
      simp [Value.okWide, Cell.okWide, Cell.ok, Try.underlying22] at this
  obtain ⟨ι, h, iargs, hok, hro, hla, hrep⟩ := layArgs0 [nodeTD] ⟨22, [], rfl, nodeTy, rfl⟩ hA hagg
  simp only [LaysArgs] at hla
  obtain ⟨d, r, v, vr, rfl, rfl, ⟨cs, hl, hcs⟩, rfl, rfl⟩ := hla
  obtain ⟨l, v', hv', hn, hlm, hall, hm⟩ := nodes_of_lays hl
  have hvv : v' = v := by
    have : cs = [v] := hcs
    rw [this] at hv'; cases hv'; rfl
  subst hvv
  have hb := hm _ meas
  have hbk : Rows.uptoBulkAll ([d] ++ gs) ≤ 1048576 := of_decide_eq_true hk
  have hbd : Rows.uptoBulk d ≤ 1048576 := by
    simp only [List.cons_append, List.nil_append, Rows.uptoBulkAll] at hbk; omega
  obtain ⟨n, out, h', hi, rfl⟩ := law7 onceF hn (by omega)
  have hc := calls_oldG (shaped_good _) T1ok hi hsh hok hrep
  rw [show args.toList.toArray = args by simp] at hc
  refine hc.mono fun e W' ⟨⟨w, he, ι', hr⟩, h1, h2, h3, h4, h5⟩ => ?_
  have hw : w = .bool true := rep_ofbool hr
  subst hw
  exact ⟨_, he, post_old (tb := 4) hW' rfl (by kernel_rfl) Try.underlying4 rfl kids full (fun t ht => by rw [hpar] at ht; simp at ht; subst ht; exact rowed) h1 h2 h3 h5⟩

theorem lifted (os : Os) (started : os.Started) (H : Type) (enc : TypeId × Value → H) (F : Stop.Interp) :
    ReturnsInHanded {} Try.checked os 7 .any ((Rows.OpenSpec.upto Rows.treeOnceSpec).pre6 enc Try.prog Try.f7 Rows.treeOnceUptoRow.domain false) (((Rows.OpenSpec.upto Rows.treeOnceSpec).at F).post enc Try.prog Try.f7 false true false false) := by
  refine returnsInHanded_of_calls own started (by kernel_rfl)
    (OpenSpec.witness (enc := enc) (C := Try.checked) (s := Rows.OpenSpec.upto Rows.treeOnceSpec) (k := Rows.uptoSmall) rfl false ⟨#[], #[.slice none 0 0], []⟩ 8 (by kernel_rfl) (by kernel_rfl) (by kernel_rfl)
      (x := ([.nil], [], [])) (by kernel_rfl) rfl (by kernel_rfl)) ?_
  -- what is handed in is whole, and the memory is shaped as the program's own
  rintro w tape i _ hsh _ ⟨_, _, _, fn', hfn', _, _, _, _, hval⟩ hpre _
  obtain rfl : fn' = Try.f7 := Option.some.inj (hfn'.symm.trans Try.func7)
  obtain ⟨ds, gs, before, hw, _, hk⟩ := (OpenSpec.pre_some (s := Rows.OpenSpec.upto Rows.treeOnceSpec) (k := Rows.uptoSmall) rfl Rows.treeOnceUptoRow.domain false _ _).1 hpre.1
  refine (contract H enc (w.forCall tape i) w.heap.size i.args ds gs before hval (DataW.Whole.of_heap (w' := w.forCall tape i) (by rfl) hw) hk hsh).mono fun e W' hp => ?_
  obtain ⟨v, rfl, hp⟩ := hp
  exact ChangeSpec.post_blind hp

theorem over : Rows.treeOnceUptoRow.holds Try.pinned (Rows.OpenSpec.upto Rows.treeOnceSpec) :=
  OpenClaim.holds_of_cond 7 Try.f7 rfl rfl rfl rfl rfl rfl rfl ⟨rfl, rfl, rfl, rfl, rfl⟩ rfl rfl rfl rfl rfl (by kernel_rfl) Try.func7 (by kernel_rfl)
    (of_decide_eq_true (by kernel_rfl)) (by unfold Func.isWrapper; first | (rw [if_pos (by decide +kernel)]; kernel_rfl) | (rw [if_neg (by decide +kernel)]; exact ⟨rfl, rfl⟩))
    (fun os started H enc _ F => lifted os started H enc F)

theorem proved : Rows.TreeOnceUptoSaid :=
  over

end Go.Proofs.Ytlphecjgkknpnaa.treeOnce
end
