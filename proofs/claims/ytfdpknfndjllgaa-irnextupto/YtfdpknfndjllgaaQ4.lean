/- IrNext: for any function and place (bulk at most 1048576, as the narrowed statement says) the law's call answers true and leaves its arguments as they were. -/
import Derived.Test.YtfdpknfndjllgaaK2
import Derived.Test.YtfdpknfndjllgaaI21
import Derived.Test.YtfdpknfndjllgaaM5
import Derived.Test.YtfdpknfndjllgaaRows
import Derived.WalkKit
import Derived.ProofKit
import Derived.OpenShut
import Derived.JoinedCond
section
/- Sorted and compact lists of at most two numbers. -/
namespace Go.Idl
set_option linter.unusedVariables false
set_option linter.unusedSimpArgs false
set_option maxRecDepth 100000
open Go.Proofs

/-- What a slice shows, whatever lies behind. -/
def intRd (h : Heap) (v : Value) (l : List Int) : Prop :=
  (∃ a c, v = .slice a l.length c) ∧ ∀ (i : Nat) (k : Int), l[i]? = some k → ∃ b c, ∃ cs : List Value, ∃ o z, v = .slice (some ⟨b, 0, none⟩) l.length c ∧ b < h.next ∧ h.get b = some (.cells cs o z) ∧ cs[i]? = some (.int .i64 k)
theorem intsAt.rd {h : Heap} {v : Value} {l : List Int} (hh : intsAt h v l) : intRd h v l := by
  refine ⟨hh.len, fun i k hi => ?_⟩
  obtain ⟨b, c, h1, h2, ⟨o, z, h3⟩, h4⟩ := hh.load hi
  rw [Nat.zero_add, Nat.mul_one] at h4
  exact ⟨b, c, _, o, z, h1, h2, h3, h4⟩
theorem intRd.keep {h h' : Heap} {v : Value} {l : List Int} (hh : intRd h v l) (hk : Kept h h') : intRd h' v l :=
  ⟨hh.1, fun i k hi => by
    obtain ⟨b, c, cs, o, z, h1, h2, h3, h4⟩ := hh.2 i k hi
    exact ⟨b, c, cs, o, z, h1, Nat.lt_of_lt_of_le h2 hk.next, by rw [hk.get b h2]; exact h3, h4⟩⟩

theorem ints11R {T : Tbl} {f : FuncId} (hT : T.fn f = some C11) {h : Heap} {va vb : Value} {a b : List Int} (ha : intRd h va a) (hb : intRd h vb b) (hla : a.length < 4611686018427387904) :
    Wk T (.fn f) [va, vb] h (fun o h' => h' = h ∧ o = .ret (.bool (decide (a = b)))) := by
  obtain ⟨p1, c1, h1⟩ := ha.1
  obtain ⟨p2, c2, h2⟩ := hb.1
  have fin : ∀ (e' : Env) (r : Bool), decide (a = b) = r → e' 4 = .bool r → (∃ vs, resAll e' h C11.res = some vs ∧ h = h ∧ Out.ret (tup vs) = .ret (.bool (decide (a = b)))) := by
    intro e' r hr h4
    exact ⟨[.bool r], by simp only [C11, resAll, resV, h4], rfl, by rw [hr]; rfl⟩
  refine Wk_fn hT (by simp [C11]) ?_
  simp only [C11]
  refine Wc_seq (Wc_ops (Wo_run (fun call => by simp only [List.drop_succ_cons, List.drop_zero, iops_nil, iops_op, iops_grd, iK_some, iG_true, iG_false, gval_bool, beq_true, beq_false, Bool.not_true, Bool.not_false, iop, ev, upd, dstUpd, binV, binI, unV, ptr, Heap.cell, Heap.write, cellsOf, put, args0, partL, List.getD_cons_zero, List.getD_cons_succ, List.length_cons, List.length_nil, List.set_cons_zero, List.set_cons_succ, List.getElem?_cons_zero, List.getElem?_cons_succ, reduceIte, Nat.reduceEqDiff, Nat.reduceAdd, Nat.reduceMul, Nat.reduceLeDiff, Nat.zero_add, Nat.add_zero, Option.map_some, Int.reduceEq, Int.reduceLT, Int.reduceLE, Bool.false_eq_true, decide_true, decide_false, ge_iff_le, gt_iff_lt, set_get']; rfl) ?_))
  show Wc T _ _ _
  refine Wc_seq (Wc_seq (Wc_ops (Wo_run (fun call => by simp only [List.drop_succ_cons, List.drop_zero, iops_nil, iops_op, iops_grd, iK_some, iG_true, iG_false, gval_bool, beq_true, beq_false, Bool.not_true, Bool.not_false, iop, ev, upd, dstUpd, binV, binI, unV, ptr, Heap.cell, Heap.write, cellsOf, put, args0, partL, List.getD_cons_zero, List.getD_cons_succ, List.length_cons, List.length_nil, List.set_cons_zero, List.set_cons_succ, List.getElem?_cons_zero, List.getElem?_cons_succ, reduceIte, Nat.reduceEqDiff, Nat.reduceAdd, Nat.reduceMul, Nat.reduceLeDiff, Nat.zero_add, Nat.add_zero, Option.map_some, Int.reduceEq, Int.reduceLT, Int.reduceLE, Bool.false_eq_true, decide_true, decide_false, ge_iff_le, gt_iff_lt, set_get', h1, h2]; rfl) ?_)))
  show Wc T _ _ _
  refine Wc_cond ((a.length : Int) != (b.length : Int)) (by simp [ev, upd]) (fun hne => ?_) (fun heq => Wc_skip ?_)
  · refine Wc_seq (Wc_ops (Wo_run (fun call => by simp only [List.drop_succ_cons, List.drop_zero, iops_nil, iops_op, iops_grd, iK_some, iG_true, iG_false, gval_bool, beq_true, beq_false, Bool.not_true, Bool.not_false, iop, ev, upd, dstUpd, binV, binI, unV, ptr, Heap.cell, Heap.write, cellsOf, put, args0, partL, List.getD_cons_zero, List.getD_cons_succ, List.length_cons, List.length_nil, List.set_cons_zero, List.set_cons_succ, List.getElem?_cons_zero, List.getElem?_cons_succ, reduceIte, Nat.reduceEqDiff, Nat.reduceAdd, Nat.reduceMul, Nat.reduceLeDiff, Nat.zero_add, Nat.add_zero, Option.map_some, Int.reduceEq, Int.reduceLT, Int.reduceLE, Bool.false_eq_true, decide_true, decide_false, ge_iff_le, gt_iff_lt, set_get']; rfl) ?_))
    refine Wc_ret ⟨.inr rfl, rfl, fin _ false ?_ (by simp [upd, dstUpd])⟩
    simp only [decide_eq_false_iff_not]
    rintro rfl
    simp at hne
  show Wc T _ _ _
  have hlen : a.length = b.length := by simp at heq; omega
  refine Wc_seq (Wc_seq (Wc_ops (Wo_run (fun call => by simp only [List.drop_succ_cons, List.drop_zero, iops_nil, iops_op, iops_grd, iK_some, iG_true, iG_false, gval_bool, beq_true, beq_false, Bool.not_true, Bool.not_false, iop, ev, upd, dstUpd, binV, binI, unV, ptr, Heap.cell, Heap.write, cellsOf, put, args0, partL, List.getD_cons_zero, List.getD_cons_succ, List.length_cons, List.length_nil, List.set_cons_zero, List.set_cons_succ, List.getElem?_cons_zero, List.getElem?_cons_succ, reduceIte, Nat.reduceEqDiff, Nat.reduceAdd, Nat.reduceMul, Nat.reduceLeDiff, Nat.zero_add, Nat.add_zero, Option.map_some, Int.reduceEq, Int.reduceLT, Int.reduceLE, Bool.false_eq_true, decide_true, decide_false, ge_iff_le, gt_iff_lt, set_get', h1]; rfl) ?_)))
  show Wc T _ _ _
  refine Wc_block (Wc_loop (fun s => s.d = some [] ∧ s.h = h ∧ s.e 0 = va ∧ s.e 1 = vb ∧ s.e 12 = .int .i64 a.length ∧ ∃ i : Nat, i ≤ a.length ∧ s.e 13 = .int .i64 i ∧ a.take i = b.take i)
    (fun s => match s.e 13 with | .int _ i => (a.length - i).toNat | _ => 0) ?_ ?_)
  · exact ⟨rfl, rfl, by simp [upd, dstUpd, args0, h1], by simp [upd, dstUpd, args0, h2], by simp [upd, dstUpd], 0, Nat.zero_le _, by simp [upd, dstUpd], rfl⟩
  rintro ⟨e, hp, d⟩ ⟨hd, hh, g0, g1, g12, i, hi, g13, ht⟩
  simp only at hd hh g0 g1 g12 g13
  subst hd hh
  rw [C11L0]
  refine Wc_seq (Wc_ops (Wo_run (fun call => by simp only [List.drop_succ_cons, List.drop_zero, iops_nil, iops_op, iops_grd, iK_some, iG_true, iG_false, gval_bool, beq_true, beq_false, Bool.not_true, Bool.not_false, iop, ev, upd, dstUpd, binV, binI, unV, ptr, Heap.cell, Heap.write, cellsOf, put, args0, partL, List.getD_cons_zero, List.getD_cons_succ, List.length_cons, List.length_nil, List.set_cons_zero, List.set_cons_succ, List.getElem?_cons_zero, List.getElem?_cons_succ, reduceIte, Nat.reduceEqDiff, Nat.reduceAdd, Nat.reduceMul, Nat.reduceLeDiff, Nat.zero_add, Nat.add_zero, Option.map_some, Int.reduceEq, Int.reduceLT, Int.reduceLE, Bool.false_eq_true, decide_true, decide_false, ge_iff_le, gt_iff_lt, set_get', g12, g13]; rfl) ?_))
  show Wc T _ _ _
  refine Wc_seq (Wc_cond (decide ((i : Int) < a.length)) (by simp [ev, upd]) (fun hlt => Wc_skip ?_) (fun hge => Wc_exit ?_))
  case refine_2 =>
    show Wc T _ _ _
    have : i = a.length := by simp at hge; omega
    subst this
    refine Wc_seq (Wc_ops (Wo_run (fun call => by simp only [List.drop_succ_cons, List.drop_zero, iops_nil, iops_op, iops_grd, iK_some, iG_true, iG_false, gval_bool, beq_true, beq_false, Bool.not_true, Bool.not_false, iop, ev, upd, dstUpd, binV, binI, unV, ptr, Heap.cell, Heap.write, cellsOf, put, args0, partL, List.getD_cons_zero, List.getD_cons_succ, List.length_cons, List.length_nil, List.set_cons_zero, List.set_cons_succ, List.getElem?_cons_zero, List.getElem?_cons_succ, reduceIte, Nat.reduceEqDiff, Nat.reduceAdd, Nat.reduceMul, Nat.reduceLeDiff, Nat.zero_add, Nat.add_zero, Option.map_some, Int.reduceEq, Int.reduceLT, Int.reduceLE, Bool.false_eq_true, decide_true, decide_false, ge_iff_le, gt_iff_lt, set_get']; rfl) ?_))
    refine Wc_ret ⟨.inr rfl, rfl, fin _ true ?_ (by simp [upd, dstUpd])⟩
    rw [List.take_length, hlen, List.take_length] at ht
    simp [ht]
  show Wc T _ _ _
  have hil : i < a.length := by simpa using hlt
  have hil2 : i < b.length := by omega
  obtain ⟨x, hxi⟩ : ∃ x, a[i]? = some x := ⟨_, List.getElem?_eq_getElem hil⟩
  obtain ⟨y, hyi⟩ : ∃ y, b[i]? = some y := ⟨_, List.getElem?_eq_getElem hil2⟩
  obtain ⟨bx, cx, csx, o1, z1, hva, hbx, hgx, hcx⟩ := ha.2 _ _ hxi
  obtain ⟨by', cy, csy, o2, z2, hvb, hby, hgy, hcy⟩ := hb.2 _ _ hyi
  have e1 : IntKind.i64.wrap ((i : Int) + 1) = ((i + 1 : Nat) : Int) := by rw [wrap64] <;> omega
  refine Wc_seq (Wc_block (Wc_seq (Wc_ops (Wo_run (fun call => by simp only [List.drop_succ_cons, List.drop_zero, iops_nil, iops_op, iops_grd, iK_some, iG_true, iG_false, gval_bool, beq_true, beq_false, Bool.not_true, Bool.not_false, iop, ev, upd, dstUpd, binV, binI, unV, ptr, Heap.cell, Heap.write, cellsOf, put, args0, partL, List.getD_cons_zero, List.getD_cons_succ, List.length_cons, List.length_nil, List.set_cons_zero, List.set_cons_succ, List.getElem?_cons_zero, List.getElem?_cons_succ, reduceIte, Nat.reduceEqDiff, Nat.reduceAdd, Nat.reduceMul, Nat.reduceLeDiff, Nat.zero_add, Nat.add_zero, Option.map_some, Int.reduceEq, Int.reduceLT, Int.reduceLE, Bool.false_eq_true, decide_true, decide_false, ge_iff_le, gt_iff_lt, set_get', g13]; rfl) ?_))))
  show Wc T _ _ _
  refine Wc_seq (Wc_draw_calm (by decide) (Wo_run (fun call => by simp only [iops_nil, iops_op, iK_some, iop, ev, upd, dstUpd, ptr, Heap.cell, binV, binI, Nat.reduceEqDiff, reduceIte, Nat.zero_add, Nat.mul_one, Option.map_some, g13, g0, g1, hva, hvb, idx_ok hil, idx_ok hil2, hgx, hcx, hgy, hcy]; rfl) ⟨rfl, ?_⟩))
  show Wc T _ _ _
  refine Wc_cond (x != y) (by simp [ev, upd]) (fun hne => ?_) (fun heq => Wc_skip ?_)
  · refine Wc_seq (Wc_ops (Wo_run (fun call => by simp only [List.drop_succ_cons, List.drop_zero, iops_nil, iops_op, iops_grd, iK_some, iG_true, iG_false, gval_bool, beq_true, beq_false, Bool.not_true, Bool.not_false, iop, ev, upd, dstUpd, binV, binI, unV, ptr, Heap.cell, Heap.write, cellsOf, put, args0, partL, List.getD_cons_zero, List.getD_cons_succ, List.length_cons, List.length_nil, List.set_cons_zero, List.set_cons_succ, List.getElem?_cons_zero, List.getElem?_cons_succ, reduceIte, Nat.reduceEqDiff, Nat.reduceAdd, Nat.reduceMul, Nat.reduceLeDiff, Nat.zero_add, Nat.add_zero, Option.map_some, Int.reduceEq, Int.reduceLT, Int.reduceLE, Bool.false_eq_true, decide_true, decide_false, ge_iff_le, gt_iff_lt, set_get']; rfl) ?_))
    refine Wc_ret ⟨.inr rfl, rfl, fin _ false ?_ (by simp [upd, dstUpd])⟩
    simp only [decide_eq_false_iff_not]
    exact ne_of_at hxi hyi (by simpa using hne)
  · show Wc T _ _ _
    have hxy : x = y := by simpa using heq
    subst hxy
    refine Wc_ops (Wo_run (fun call => by simp only [List.drop_succ_cons, List.drop_zero, iops_nil, iops_op, iops_grd, iK_some, iG_true, iG_false, gval_bool, beq_true, beq_false, Bool.not_true, Bool.not_false, iop, ev, upd, dstUpd, binV, binI, unV, ptr, Heap.cell, Heap.write, cellsOf, put, args0, partL, List.getD_cons_zero, List.getD_cons_succ, List.length_cons, List.length_nil, List.set_cons_zero, List.set_cons_succ, List.getElem?_cons_zero, List.getElem?_cons_succ, reduceIte, Nat.reduceEqDiff, Nat.reduceAdd, Nat.reduceMul, Nat.reduceLeDiff, Nat.zero_add, Nat.add_zero, Option.map_some, Int.reduceEq, Int.reduceLT, Int.reduceLE, Bool.false_eq_true, decide_true, decide_false, ge_iff_le, gt_iff_lt, set_get', g13, e1]; rfl) ?_)
    refine ⟨⟨rfl, rfl, ?_, ?_, ?_, i + 1, by omega, ?_, take_eq_succ ht hxi hyi⟩, ?_⟩
    · simp only [upd, Nat.reduceEqDiff, reduceIte]; exact g0
    · simp only [upd, Nat.reduceEqDiff, reduceIte]; exact g1
    · simp only [upd, Nat.reduceEqDiff, reduceIte]; exact g12
    · simp only [upd, Nat.reduceEqDiff, reduceIte]
    · simp only [upd, Nat.reduceEqDiff, reduceIte, g13]; omega

theorem less54 {T : Tbl} (hT : T.fn 54 = some C54) (h65 : T.fn 65 = some C65) (a b : Int) (h : Heap) : Wk T (.fn 54) [.int .i64 a, .int .i64 b] h (fun o h' => h' = h ∧ o = .ret (.bool (decide (a < b)))) := by
  refine Wk_fn hT (by simp [C54]) ?_
  simp only [C54]
  refine Wc_seq (Wc_ops (Wo_run (fun call => by simp only [List.drop_succ_cons, List.drop_zero, iops_nil, iops_op, iops_grd, iK_some, iG_true, iG_false, gval_bool, beq_true, beq_false, Bool.not_true, Bool.not_false, iop, ev, upd, dstUpd, binV, binI, unV, ptr, Heap.cell, Heap.write, cellsOf, put, args0, partL, List.getD_cons_zero, List.getD_cons_succ, List.length_cons, List.length_nil, List.set_cons_zero, List.set_cons_succ, List.getElem?_cons_zero, List.getElem?_cons_succ, reduceIte, Nat.reduceEqDiff, Nat.reduceAdd, Nat.reduceMul, Nat.reduceLeDiff, Nat.zero_add, Nat.add_zero, Option.map_some, Int.reduceEq, Int.reduceLT, Int.reduceLE, Bool.false_eq_true, decide_true, decide_false, ge_iff_le, gt_iff_lt, set_get']; rfl) ?_))
  show Wc T _ _ _
  have nan : Wk T (.fn 65) [.int .i64 a] h (fun o h' => h' = h ∧ o = .ret (.bool false)) := by
    refine Wk_fn h65 (by simp [C65]) ?_
    simp only [C65]
    refine Wc_seq (Wc_ops (Wo_run (fun call => by simp only [List.drop_succ_cons, List.drop_zero, iops_nil, iops_op, iops_grd, iK_some, iG_true, iG_false, gval_bool, beq_true, beq_false, Bool.not_true, Bool.not_false, iop, ev, upd, dstUpd, binV, binI, unV, ptr, Heap.cell, Heap.write, cellsOf, put, args0, partL, List.getD_cons_zero, List.getD_cons_succ, List.length_cons, List.length_nil, List.set_cons_zero, List.set_cons_succ, List.getElem?_cons_zero, List.getElem?_cons_succ, reduceIte, Nat.reduceEqDiff, Nat.reduceAdd, Nat.reduceMul, Nat.reduceLeDiff, Nat.zero_add, Nat.add_zero, Option.map_some, Int.reduceEq, Int.reduceLT, Int.reduceLE, Bool.false_eq_true, decide_true, decide_false, ge_iff_le, gt_iff_lt, set_get']; rfl) ?_))
    show Wc T _ _ _
    refine Wc_seq (Wc_ops (Wo_run (fun call => by simp only [List.drop_succ_cons, List.drop_zero, iops_nil, iops_op, iops_grd, iK_some, iG_true, iG_false, gval_bool, beq_true, beq_false, Bool.not_true, Bool.not_false, iop, ev, upd, dstUpd, binV, binI, unV, ptr, Heap.cell, Heap.write, cellsOf, put, args0, partL, List.getD_cons_zero, List.getD_cons_succ, List.length_cons, List.length_nil, List.set_cons_zero, List.set_cons_succ, List.getElem?_cons_zero, List.getElem?_cons_succ, reduceIte, Nat.reduceEqDiff, Nat.reduceAdd, Nat.reduceMul, Nat.reduceLeDiff, Nat.zero_add, Nat.add_zero, Option.map_some, Int.reduceEq, Int.reduceLT, Int.reduceLE, Bool.false_eq_true, decide_true, decide_false, ge_iff_le, gt_iff_lt, set_get', bne_self_eq_false]; rfl) ?_))
    exact Wc_ret ⟨.inr rfl, rfl, [.bool false], by simp [resAll, resV, upd, dstUpd], rfl, rfl⟩
  refine Wc_seq (Wc_ops (Wo_pre 1 (fun call => by simp only [List.take_succ_cons, List.take_zero, List.drop_succ_cons, List.drop_zero, iops_nil, iops_op, iops_grd, iK_some, iG_true, iG_false, gval_bool, beq_true, beq_false, Bool.not_true, Bool.not_false, iop, ev, upd, dstUpd, binV, binI, unV, ptr, Heap.cell, Heap.write, cellsOf, put, args0, partL, List.getD_cons_zero, List.getD_cons_succ, List.length_cons, List.length_nil, List.set_cons_zero, List.set_cons_succ, List.getElem?_cons_zero, List.getElem?_cons_succ, reduceIte, Nat.reduceEqDiff, Nat.reduceAdd, Nat.reduceMul, Nat.reduceLeDiff, Nat.zero_add, Nat.add_zero, Option.map_some, Int.reduceEq, Int.reduceLT, Int.reduceLE, Bool.false_eq_true, decide_true, decide_false, ge_iff_le, gt_iff_lt, set_get']; rfl) ?_))
  refine Wo_call ?_
  show Wk T (.fn 65) [.int .i64 a] h _
  refine nan.mono fun o h' ⟨u1, u2⟩ => ?_
  subst u1 u2
  show Wo T _ _ _
  refine (Wo_run (fun call => by simp only [List.drop_succ_cons, List.drop_zero, iops_nil, iops_op, iops_grd, iK_some, iG_true, iG_false, gval_bool, beq_true, beq_false, Bool.not_true, Bool.not_false, iop, ev, upd, dstUpd, binV, binI, unV, ptr, Heap.cell, Heap.write, cellsOf, put, args0, partL, List.getD_cons_zero, List.getD_cons_succ, List.length_cons, List.length_nil, List.set_cons_zero, List.set_cons_succ, List.getElem?_cons_zero, List.getElem?_cons_succ, reduceIte, Nat.reduceEqDiff, Nat.reduceAdd, Nat.reduceMul, Nat.reduceLeDiff, Nat.zero_add, Nat.add_zero, Option.map_some, Int.reduceEq, Int.reduceLT, Int.reduceLE, Bool.false_eq_true, decide_true, decide_false, ge_iff_le, gt_iff_lt, set_get']; rfl) ?_)
  exact Wc_ret ⟨.inr rfl, rfl, [.bool (decide (a < b))], by simp [resAll, resV, upd, dstUpd], rfl, rfl⟩

def srt : List Int → List Int
  | [x, y] => if y < x then [y, x] else [x, y]
  | l => l
theorem srt_len (l : List Int) : (srt l).length = l.length := by
  unfold srt
  split
  · split <;> rfl
  · rfl
def cmpt : List Int → List Int
  | [x, y] => if y = x then [x] else [x, y]
  | l => l

theorem w01 : IntKind.i64.wrap (0 + 1) = 1 := by decide
theorem w11 : IntKind.i64.wrap (1 + 1) = 2 := by decide
theorem w10 : IntKind.i64.wrap (1 - 1) = 0 := by decide

theorem ins48 {T : Tbl} (hT : T.fn 48 = some C48) (h54 : T.fn 54 = some C54) (h65 : T.fn 65 = some C65) {n0 : Nat} {h : Heap} {v : Value} {l : List Int} (hl : l.length ≤ 2) (ho : ownI n0 h v l) :
    Wk T (.fn 48) [v, .int .i64 0, .int .i64 l.length] h (fun o h' => o = .ret (.tuple #[]) ∧ Beside v h h' ∧ ownI n0 h' v (srt l)) := by
  refine Wk_fn hT (by simp [C48]) ?_
  simp only [C48]
  refine Wc_seq (Wc_ops (Wo_run (fun call => by simp only [List.drop_succ_cons, List.drop_zero, iops_nil, iops_op, iops_grd, iK_some, iG_true, iG_false, gval_bool, beq_true, beq_false, Bool.not_true, Bool.not_false, iop, ev, upd, dstUpd, binV, binI, unV, ptr, Heap.cell, Heap.write, cellsOf, put, args0, partL, List.getD_cons_zero, List.getD_cons_succ, List.length_cons, List.length_nil, List.set_cons_zero, List.set_cons_succ, List.getElem?_cons_zero, List.getElem?_cons_succ, reduceIte, Nat.reduceEqDiff, Nat.reduceAdd, Nat.reduceMul, Nat.reduceLeDiff, Nat.zero_add, Nat.add_zero, Option.map_some, Int.reduceEq, Int.reduceLT, Int.reduceLE, Bool.false_eq_true, decide_true, decide_false, ge_iff_le, gt_iff_lt, set_get', w01]; rfl) ?_))
  show Wc T _ _ _
  by_cases h2 : l.length = 2
  case neg =>
    refine Wc_block (Wc_unroll ?_)
    rw [C48L1]
    have hlt : decide ((1 : Int) < l.length) = false := by simp only [decide_eq_false_iff_not]; omega
    refine Wc_seq (Wc_seq (Wc_ops (Wo_run (fun call => by simp only [List.drop_succ_cons, List.drop_zero, iops_nil, iops_op, iops_grd, iK_some, iG_true, iG_false, gval_bool, beq_true, beq_false, Bool.not_true, Bool.not_false, iop, ev, upd, dstUpd, binV, binI, unV, ptr, Heap.cell, Heap.write, cellsOf, put, args0, partL, List.getD_cons_zero, List.getD_cons_succ, List.length_cons, List.length_nil, List.set_cons_zero, List.set_cons_succ, List.getElem?_cons_zero, List.getElem?_cons_succ, reduceIte, Nat.reduceEqDiff, Nat.reduceAdd, Nat.reduceMul, Nat.reduceLeDiff, Nat.zero_add, Nat.add_zero, Option.map_some, Int.reduceEq, Int.reduceLT, Int.reduceLE, Bool.false_eq_true, decide_true, decide_false, ge_iff_le, gt_iff_lt, set_get', hlt]; rfl) ?_)))
    show Wc T _ _ _
    refine Wc_cond false (by simp [ev, upd]) (fun h => by cases h) (fun _ => Wc_exit ?_)
    have hs : srt l = l := by
      match l with
      | [] => rfl
      | [_] => rfl
      | [_, _] => exact (h2 rfl).elim
      | _ :: _ :: _ :: _ => rfl
    rw [hs]
    exact ⟨.inl rfl, rfl, [], rfl, rfl, ⟨Nat.le_refl _, fun _ _ _ => rfl⟩, ho⟩
  obtain ⟨x, y, rfl⟩ : ∃ x y, l = [x, y] := by
    match l, h2 with
    | [x, y], _ => exact ⟨x, y, rfl⟩
  rcases ho with ⟨hn, _⟩ | ⟨b, hb1, hb2, hv, hg⟩
  · cases hn
  simp only [List.length_cons, List.length_nil, Nat.zero_add, Nat.reduceAdd] at hv
  have hl2 : ((([x, y] : List Int).length : Nat) : Int) = 2 := rfl
  rw [hl2]
  have hg' : h.get b = some (.cells [.int .i64 x, .int .i64 y] true 1) := hg
  have i21 : idxV 2 (.int .i64 1) = some 1 := rfl
  have i20 : idxV 2 (.int .i64 0) = some 0 := rfl
  refine Wc_block (Wc_unroll ?_)
  rw [C48L1]
  refine Wc_seq (Wc_seq (Wc_ops (Wo_run (fun call => by simp only [List.drop_succ_cons, List.drop_zero, iops_nil, iops_op, iops_grd, iK_some, iG_true, iG_false, gval_bool, beq_true, beq_false, Bool.not_true, Bool.not_false, iop, ev, upd, dstUpd, binV, binI, unV, ptr, Heap.cell, Heap.write, cellsOf, put, args0, partL, List.getD_cons_zero, List.getD_cons_succ, List.length_cons, List.length_nil, List.set_cons_zero, List.set_cons_succ, List.getElem?_cons_zero, List.getElem?_cons_succ, reduceIte, Nat.reduceEqDiff, Nat.reduceAdd, Nat.reduceMul, Nat.reduceLeDiff, Nat.zero_add, Nat.add_zero, Option.map_some, Int.reduceEq, Int.reduceLT, Int.reduceLE, Bool.false_eq_true, decide_true, decide_false, ge_iff_le, gt_iff_lt, set_get', hv]; rfl) ?_)))
  show Wc T _ _ _
  refine Wc_cond true (by simp [ev, upd]) (fun _ => Wc_skip ?_) (fun h => by cases h)
  show Wc T _ _ _
  -- the rounds behind the inner loop
  refine Wc_mid (fun s => s.d = some [] ∧ s.e 6 = .int .i64 1 ∧ s.e 2 = .int .i64 2 ∧ Beside v h s.h ∧ ownI n0 s.h v (srt [x, y])) (Wc_block ?_) ?_
  case refine_2 =>
    rintro ⟨e, hp, d⟩ ⟨hd, g6, g2, hbs, how⟩
    simp only at hd g6 g2 hbs how
    subst hd
    refine Wc_ops (Wo_run (fun call => by simp only [List.drop_succ_cons, List.drop_zero, iops_nil, iops_op, iops_grd, iK_some, iG_true, iG_false, gval_bool, beq_true, beq_false, Bool.not_true, Bool.not_false, iop, ev, upd, dstUpd, binV, binI, unV, ptr, Heap.cell, Heap.write, cellsOf, put, args0, partL, List.getD_cons_zero, List.getD_cons_succ, List.length_cons, List.length_nil, List.set_cons_zero, List.set_cons_succ, List.getElem?_cons_zero, List.getElem?_cons_succ, reduceIte, Nat.reduceEqDiff, Nat.reduceAdd, Nat.reduceMul, Nat.reduceLeDiff, Nat.zero_add, Nat.add_zero, Option.map_some, Int.reduceEq, Int.reduceLT, Int.reduceLE, Bool.false_eq_true, decide_true, decide_false, ge_iff_le, gt_iff_lt, set_get', g6, w11]; rfl) ?_)
    show Wc T _ _ _
    refine Wc_unroll ?_
    refine Wc_seq (Wc_seq (Wc_ops (Wo_run (fun call => by simp only [List.drop_succ_cons, List.drop_zero, iops_nil, iops_op, iops_grd, iK_some, iG_true, iG_false, gval_bool, beq_true, beq_false, Bool.not_true, Bool.not_false, iop, ev, upd, dstUpd, binV, binI, unV, ptr, Heap.cell, Heap.write, cellsOf, put, args0, partL, List.getD_cons_zero, List.getD_cons_succ, List.length_cons, List.length_nil, List.set_cons_zero, List.set_cons_succ, List.getElem?_cons_zero, List.getElem?_cons_succ, reduceIte, Nat.reduceEqDiff, Nat.reduceAdd, Nat.reduceMul, Nat.reduceLeDiff, Nat.zero_add, Nat.add_zero, Option.map_some, Int.reduceEq, Int.reduceLT, Int.reduceLE, Bool.false_eq_true, decide_true, decide_false, ge_iff_le, gt_iff_lt, set_get', g2]; rfl) ?_)))
    show Wc T _ _ _
    refine Wc_cond false (by simp [ev, upd]) (fun h => by cases h) (fun _ => Wc_exit ?_)
    exact ⟨.inl rfl, rfl, [], rfl, rfl, hbs, how⟩
  refine Wc_seq (Wc_ops (Wo_run (fun call => by simp only [List.drop_succ_cons, List.drop_zero, iops_nil, iops_op, iops_grd, iK_some, iG_true, iG_false, gval_bool, beq_true, beq_false, Bool.not_true, Bool.not_false, iop, ev, upd, dstUpd, binV, binI, unV, ptr, Heap.cell, Heap.write, cellsOf, put, args0, partL, List.getD_cons_zero, List.getD_cons_succ, List.length_cons, List.length_nil, List.set_cons_zero, List.set_cons_succ, List.getElem?_cons_zero, List.getElem?_cons_succ, reduceIte, Nat.reduceEqDiff, Nat.reduceAdd, Nat.reduceMul, Nat.reduceLeDiff, Nat.zero_add, Nat.add_zero, Option.map_some, Int.reduceEq, Int.reduceLT, Int.reduceLE, Bool.false_eq_true, decide_true, decide_false, ge_iff_le, gt_iff_lt, set_get']; rfl) ?_))
  show Wc T _ _ _
  refine Wc_block (Wc_unroll ?_)
  rw [C48L0]
  refine Wc_seq (Wc_seq (Wc_drawS (WdS_pre 13 rfl (fun call => by simp only [List.take_succ_cons, List.take_zero, List.drop_succ_cons, List.drop_zero, iops_nil, iops_op, iops_grd, iK_some, iG_true, iG_false, gval_bool, beq_true, beq_false, Bool.not_true, Bool.not_false, iop, ev, upd, dstUpd, binV, binI, unV, ptr, Heap.cell, Heap.write, cellsOf, put, args0, partL, List.getD_cons_zero, List.getD_cons_succ, List.length_cons, List.length_nil, List.set_cons_zero, List.set_cons_succ, List.getElem?_cons_zero, List.getElem?_cons_succ, reduceIte, Nat.reduceEqDiff, Nat.reduceAdd, Nat.reduceMul, Nat.reduceLeDiff, Nat.zero_add, Nat.add_zero, Option.map_some, Int.reduceEq, Int.reduceLT, Int.reduceLE, Bool.false_eq_true, decide_true, decide_false, ge_iff_le, gt_iff_lt, set_get', hv, i21, i20, hg', w10]; rfl) ?_)))
  refine WdS_take (by simp [gval, upd]) (WdS_call ?_)
  show Wk T (.fn 54) [.int .i64 y, .int .i64 x] h _
  refine (less54 h54 h65 y x h).mono fun o h' ⟨u1, u2⟩ => ⟨u1, ?_⟩
  have u3 := u1.symm
  subst u3 u2
  refine (WdS_pre 1 rfl (fun call => by simp only [List.take_succ_cons, List.take_zero, List.drop_succ_cons, List.drop_zero, iops_nil, iops_op, iops_grd, iK_some, iG_true, iG_false, gval_bool, beq_true, beq_false, Bool.not_true, Bool.not_false, iop, ev, upd, dstUpd, binV, binI, unV, ptr, Heap.cell, Heap.write, cellsOf, put, args0, partL, List.getD_cons_zero, List.getD_cons_succ, List.length_cons, List.length_nil, List.set_cons_zero, List.set_cons_succ, List.getElem?_cons_zero, List.getElem?_cons_succ, reduceIte, Nat.reduceEqDiff, Nat.reduceAdd, Nat.reduceMul, Nat.reduceLeDiff, Nat.zero_add, Nat.add_zero, Option.map_some, Int.reduceEq, Int.reduceLT, Int.reduceLE, Bool.false_eq_true, decide_true, decide_false, ge_iff_le, gt_iff_lt, set_get']; rfl) ?_)
  refine WdS_nil ?_
  show Wc T _ _ _
  refine Wc_cond (decide (y < x)) (by simp [ev, upd]) (fun hlt => Wc_skip ?_) (fun hge => Wc_exit ?_)
  case refine_2 =>
    have hs : srt [x, y] = [x, y] := by simp only [srt]; rw [if_neg (of_decide_eq_false hge)]
    refine ⟨rfl, by simp [upd], by simp [upd, args0], ⟨Nat.le_refl _, fun _ _ _ => rfl⟩, ?_⟩
    rw [hs]
    exact .inr ⟨b, hb1, hb2, hv, hg⟩
  show Wc T _ _ _
  have hs : srt [x, y] = [y, x] := by simp only [srt]; rw [if_pos (of_decide_eq_true hlt)]
  refine Wc_seq (Wc_block (Wc_draw_still rfl (Wo_run (fun call => by simp only [List.drop_succ_cons, List.drop_zero, iops_nil, iops_op, iops_grd, iK_some, iG_true, iG_false, gval_bool, beq_true, beq_false, Bool.not_true, Bool.not_false, iop, ev, upd, dstUpd, binV, binI, unV, ptr, Heap.cell, Heap.write, cellsOf, put, args0, partL, List.getD_cons_zero, List.getD_cons_succ, List.length_cons, List.length_nil, List.set_cons_zero, List.set_cons_succ, List.getElem?_cons_zero, List.getElem?_cons_succ, reduceIte, Nat.reduceEqDiff, Nat.reduceAdd, Nat.reduceMul, Nat.reduceLeDiff, Nat.zero_add, Nat.add_zero, Option.map_some, Int.reduceEq, Int.reduceLT, Int.reduceLE, Bool.false_eq_true, decide_true, decide_false, ge_iff_le, gt_iff_lt, set_get', hv, i21, i20, hg', w10, put]; rfl) ?_)))
  refine ⟨rfl, ?_⟩
  show Wc T _ _ _
  have hbs : Beside v h ((h.set b (.cells [.int .i64 x, .int .i64 x] true 1)).set b (.cells [.int .i64 y, .int .i64 x] true 1)) := by
    refine ⟨Nat.le_refl _, fun k hk hne => ?_⟩
    have : k ≠ b := fun e => hne _ _ _ hv e.symm
    rw [set_get_ne' _ _ this, set_get_ne' _ _ this]
  have how : ownI n0 ((h.set b (.cells [.int .i64 x, .int .i64 x] true 1)).set b (.cells [.int .i64 y, .int .i64 x] true 1)) v (srt [x, y]) := by
    rw [hs]
    exact .inr ⟨b, hb1, hb2, hv, set_get' _ _ _⟩
  refine Wc_ops (Wo_run (fun call => by simp only [List.drop_succ_cons, List.drop_zero, iops_nil, iops_op, iops_grd, iK_some, iG_true, iG_false, gval_bool, beq_true, beq_false, Bool.not_true, Bool.not_false, iop, ev, upd, dstUpd, binV, binI, unV, ptr, Heap.cell, Heap.write, cellsOf, put, args0, partL, List.getD_cons_zero, List.getD_cons_succ, List.length_cons, List.length_nil, List.set_cons_zero, List.set_cons_succ, List.getElem?_cons_zero, List.getElem?_cons_succ, reduceIte, Nat.reduceEqDiff, Nat.reduceAdd, Nat.reduceMul, Nat.reduceLeDiff, Nat.zero_add, Nat.add_zero, Option.map_some, Int.reduceEq, Int.reduceLT, Int.reduceLE, Bool.false_eq_true, decide_true, decide_false, ge_iff_le, gt_iff_lt, set_get', w10]; rfl) ?_)
  show Wc T _ _ _
  refine Wc_unroll ?_
  refine Wc_seq (Wc_seq (Wc_drawS (WdS_pre 13 rfl (fun call => by simp only [List.take_succ_cons, List.take_zero, List.drop_succ_cons, List.drop_zero, iops_nil, iops_op, iops_grd, iK_some, iG_true, iG_false, gval_bool, beq_true, beq_false, Bool.not_true, Bool.not_false, iop, ev, upd, dstUpd, binV, binI, unV, ptr, Heap.cell, Heap.write, cellsOf, put, args0, partL, List.getD_cons_zero, List.getD_cons_succ, List.length_cons, List.length_nil, List.set_cons_zero, List.set_cons_succ, List.getElem?_cons_zero, List.getElem?_cons_succ, reduceIte, Nat.reduceEqDiff, Nat.reduceAdd, Nat.reduceMul, Nat.reduceLeDiff, Nat.zero_add, Nat.add_zero, Option.map_some, Int.reduceEq, Int.reduceLT, Int.reduceLE, Bool.false_eq_true, decide_true, decide_false, ge_iff_le, gt_iff_lt, set_get', show gval undef true = false from rfl]; rfl) ?_)))
  refine WdS_leave (by simp [gval, upd, dstUpd]) ?_
  refine (WdS_pre 1 rfl (fun call => by simp only [List.take_succ_cons, List.take_zero, List.drop_succ_cons, List.drop_zero, iops_nil, iops_op, iops_grd, iK_some, iG_true, iG_false, gval_bool, beq_true, beq_false, Bool.not_true, Bool.not_false, iop, ev, upd, dstUpd, binV, binI, unV, ptr, Heap.cell, Heap.write, cellsOf, put, args0, partL, List.getD_cons_zero, List.getD_cons_succ, List.length_cons, List.length_nil, List.set_cons_zero, List.set_cons_succ, List.getElem?_cons_zero, List.getElem?_cons_succ, reduceIte, Nat.reduceEqDiff, Nat.reduceAdd, Nat.reduceMul, Nat.reduceLeDiff, Nat.zero_add, Nat.add_zero, Option.map_some, Int.reduceEq, Int.reduceLT, Int.reduceLE, Bool.false_eq_true, decide_true, decide_false, ge_iff_le, gt_iff_lt, set_get']; rfl) ?_)
  refine WdS_nil ?_
  show Wc T _ _ _
  refine Wc_cond false (by simp [ev, upd, dstUpd]) (fun h => by cases h) (fun _ => Wc_exit ?_)
  exact ⟨rfl, by simp [upd, dstUpd], by simp [upd, dstUpd, args0], hbs, how⟩

theorem pdq43 {T : Tbl} (hT : T.fn 43 = some C43) (h48 : T.fn 48 = some C48) (h54 : T.fn 54 = some C54) (h65 : T.fn 65 = some C65) {n0 : Nat} {h : Heap} {v : Value} {l : List Int} (hl : l.length ≤ 2) (ho : ownI n0 h v l) (lim : Int) :
    Wk T (.fn 43) [v, .int .i64 0, .int .i64 l.length, .int .i64 lim] h (fun o h' => o = .ret (.tuple #[]) ∧ Beside v h h' ∧ ownI n0 h' v (srt l)) := by
  refine Wk_fn hT (by simp [C43]) ?_
  simp only [C43]
  refine Wc_seq (Wc_ops (Wo_run (fun call => by simp only [List.drop_succ_cons, List.drop_zero, iops_nil, iops_op, iops_grd, iK_some, iG_true, iG_false, gval_bool, beq_true, beq_false, Bool.not_true, Bool.not_false, iop, ev, upd, dstUpd, binV, binI, unV, ptr, Heap.cell, Heap.write, cellsOf, put, args0, partL, List.getD_cons_zero, List.getD_cons_succ, List.length_cons, List.length_nil, List.set_cons_zero, List.set_cons_succ, List.getElem?_cons_zero, List.getElem?_cons_succ, reduceIte, Nat.reduceEqDiff, Nat.reduceAdd, Nat.reduceMul, Nat.reduceLeDiff, Nat.zero_add, Nat.add_zero, Option.map_some, Int.reduceEq, Int.reduceLT, Int.reduceLE, Bool.false_eq_true, decide_true, decide_false, ge_iff_le, gt_iff_lt, set_get']; rfl) ?_))
  show Wc T _ _ _
  refine Wc_seq (Wc_ops (Wo_run (fun call => by simp only [List.drop_succ_cons, List.drop_zero, iops_nil, iops_op, iops_grd, iK_some, iG_true, iG_false, gval_bool, beq_true, beq_false, Bool.not_true, Bool.not_false, iop, ev, upd, dstUpd, binV, binI, unV, ptr, Heap.cell, Heap.write, cellsOf, put, args0, partL, List.getD_cons_zero, List.getD_cons_succ, List.length_cons, List.length_nil, List.set_cons_zero, List.set_cons_succ, List.getElem?_cons_zero, List.getElem?_cons_succ, reduceIte, Nat.reduceEqDiff, Nat.reduceAdd, Nat.reduceMul, Nat.reduceLeDiff, Nat.zero_add, Nat.add_zero, Option.map_some, Int.reduceEq, Int.reduceLT, Int.reduceLE, Bool.false_eq_true, decide_true, decide_false, ge_iff_le, gt_iff_lt, set_get']; rfl) ?_))
  show Wc T _ _ _
  refine Wc_block (Wc_unroll ?_)
  rw [C43L0]
  have w : IntKind.i64.wrap ((l.length : Int) - 0) = (l.length : Int) := by rw [wrap64] <;> omega
  have hle : decide ((l.length : Int) ≤ 12) = true := by simp only [decide_eq_true_eq]; omega
  refine Wc_block (Wc_seq (Wc_ops (Wo_run (fun call => by simp only [List.drop_succ_cons, List.drop_zero, iops_nil, iops_op, iops_grd, iK_some, iG_true, iG_false, gval_bool, beq_true, beq_false, Bool.not_true, Bool.not_false, iop, ev, upd, dstUpd, binV, binI, unV, ptr, Heap.cell, Heap.write, cellsOf, put, args0, partL, List.getD_cons_zero, List.getD_cons_succ, List.length_cons, List.length_nil, List.set_cons_zero, List.set_cons_succ, List.getElem?_cons_zero, List.getElem?_cons_succ, reduceIte, Nat.reduceEqDiff, Nat.reduceAdd, Nat.reduceMul, Nat.reduceLeDiff, Nat.zero_add, Nat.add_zero, Option.map_some, Int.reduceEq, Int.reduceLT, Int.reduceLE, Bool.false_eq_true, decide_true, decide_false, ge_iff_le, gt_iff_lt, set_get', w]; rfl) ?_)))
  show Wc T _ _ _
  refine Wc_seq (Wc_seq (Wc_ops (Wo_run (fun call => by simp only [List.drop_succ_cons, List.drop_zero, iops_nil, iops_op, iops_grd, iK_some, iG_true, iG_false, gval_bool, beq_true, beq_false, Bool.not_true, Bool.not_false, iop, ev, upd, dstUpd, binV, binI, unV, ptr, Heap.cell, Heap.write, cellsOf, put, args0, partL, List.getD_cons_zero, List.getD_cons_succ, List.length_cons, List.length_nil, List.set_cons_zero, List.set_cons_succ, List.getElem?_cons_zero, List.getElem?_cons_succ, reduceIte, Nat.reduceEqDiff, Nat.reduceAdd, Nat.reduceMul, Nat.reduceLeDiff, Nat.zero_add, Nat.add_zero, Option.map_some, Int.reduceEq, Int.reduceLT, Int.reduceLE, Bool.false_eq_true, decide_true, decide_false, ge_iff_le, gt_iff_lt, set_get', hle]; rfl) ?_)))
  show Wc T _ _ _
  refine Wc_cond true (by simp [ev, upd]) (fun _ => ?_) (fun h => by cases h)
  refine Wc_seq (Wc_ops (Wo_pre 3 (fun call => by simp only [List.take_succ_cons, List.take_zero, List.drop_succ_cons, List.drop_zero, iops_nil, iops_op, iops_grd, iK_some, iG_true, iG_false, gval_bool, beq_true, beq_false, Bool.not_true, Bool.not_false, iop, ev, upd, dstUpd, binV, binI, unV, ptr, Heap.cell, Heap.write, cellsOf, put, args0, partL, List.getD_cons_zero, List.getD_cons_succ, List.length_cons, List.length_nil, List.set_cons_zero, List.set_cons_succ, List.getElem?_cons_zero, List.getElem?_cons_succ, reduceIte, Nat.reduceEqDiff, Nat.reduceAdd, Nat.reduceMul, Nat.reduceLeDiff, Nat.zero_add, Nat.add_zero, Option.map_some, Int.reduceEq, Int.reduceLT, Int.reduceLE, Bool.false_eq_true, decide_true, decide_false, ge_iff_le, gt_iff_lt, set_get']; rfl) ?_))
  refine Wo_call ?_
  show Wk T (.fn 48) [v, .int .i64 0, .int .i64 l.length] h _
  refine (ins48 h48 h54 h65 hl ho).mono fun o h' ⟨u1, u2, u3⟩ => ?_
  subst u1
  show Wo T _ _ _
  refine Wo_nil ?_
  exact Wc_ret ⟨.inr rfl, rfl, [], rfl, rfl, u2, u3⟩

theorem sort30 {T : Tbl} (hT : T.fn 30 = some C30) (h44 : ∀ (n : Nat) (h : Heap) (K : Out → Heap → Prop), n ≤ 2 → (∀ m : Int, K (.ret (.int .i64 m)) h) → Wk T (.fn 44) [.int .u64 n] h K) (h43 : T.fn 43 = some C43) (h48 : T.fn 48 = some C48) (h54 : T.fn 54 = some C54) (h65 : T.fn 65 = some C65) {n0 : Nat} {h : Heap} {v : Value} {l : List Int} (hl : l.length ≤ 2) (ho : ownI n0 h v l) :
    Wk T (.fn 30) [v] h (fun o h' => o = .ret (.tuple #[]) ∧ Beside v h h' ∧ ownI n0 h' v (srt l)) := by
  obtain ⟨p1, c1, hv⟩ := ho.ints.len
  refine Wk_fn hT (by simp [C30]) ?_
  simp only [C30]
  refine Wc_seq (Wc_ops (Wo_run (fun call => by simp only [List.drop_succ_cons, List.drop_zero, iops_nil, iops_op, iops_grd, iK_some, iG_true, iG_false, gval_bool, beq_true, beq_false, Bool.not_true, Bool.not_false, iop, ev, upd, dstUpd, binV, binI, unV, ptr, Heap.cell, Heap.write, cellsOf, put, args0, partL, List.getD_cons_zero, List.getD_cons_succ, List.length_cons, List.length_nil, List.set_cons_zero, List.set_cons_succ, List.getElem?_cons_zero, List.getElem?_cons_succ, reduceIte, Nat.reduceEqDiff, Nat.reduceAdd, Nat.reduceMul, Nat.reduceLeDiff, Nat.zero_add, Nat.add_zero, Option.map_some, Int.reduceEq, Int.reduceLT, Int.reduceLE, Bool.false_eq_true, decide_true, decide_false, ge_iff_le, gt_iff_lt, set_get', hv]; rfl) ?_))
  show Wc T _ _ _
  have w : IntKind.u64.wrap (l.length : Int) = (l.length : Int) := by
    have : l.length = 0 ∨ l.length = 1 ∨ l.length = 2 := by omega
    rcases this with e | e | e <;> rw [e] <;> decide
  refine Wc_ops (Wo_pre 4 (fun call => by simp only [List.take_succ_cons, List.take_zero, List.drop_succ_cons, List.drop_zero, iops_nil, iops_op, iops_grd, iK_some, iG_true, iG_false, gval_bool, beq_true, beq_false, Bool.not_true, Bool.not_false, iop, ev, upd, dstUpd, binV, binI, unV, ptr, Heap.cell, Heap.write, cellsOf, put, args0, partL, List.getD_cons_zero, List.getD_cons_succ, List.length_cons, List.length_nil, List.set_cons_zero, List.set_cons_succ, List.getElem?_cons_zero, List.getElem?_cons_succ, reduceIte, Nat.reduceEqDiff, Nat.reduceAdd, Nat.reduceMul, Nat.reduceLeDiff, Nat.zero_add, Nat.add_zero, Option.map_some, Int.reduceEq, Int.reduceLT, Int.reduceLE, Bool.false_eq_true, decide_true, decide_false, ge_iff_le, gt_iff_lt, set_get', w]; rfl) ?_)
  refine Wo_call ?_
  show Wk T (.fn 44) [.int .u64 l.length] h _
  refine h44 _ _ _ hl fun m => ?_
  show Wo T _ _ _
  refine Wo_call ?_
  simp only [List.map_cons, List.map_nil, ev, dstUpd, upd, reduceIte, Nat.reduceEqDiff]
  rw [← hv]
  refine (pdq43 h43 h48 h54 h65 hl ho m).mono fun o h' ⟨u1, u2, u3⟩ => ?_
  subst u1
  show Wo T _ _ _
  refine Wo_nil ?_
  exact ⟨.inl rfl, rfl, [], rfl, rfl, u2, u3⟩

theorem compact31 {T : Tbl} (hT : T.fn 31 = some C31) {n0 : Nat} {h : Heap} {v : Value} {l : List Int} (hl : l.length ≤ 2) (ho : ownI n0 h v l) :
    Wk T (.fn 31) [v] h (fun o h' => Beside v h h' ∧ ∃ v', o = .ret v' ∧ intRd h' v' (cmpt l)) := by
  obtain ⟨p1, c1, hv0⟩ := ho.ints.len
  refine Wk_fn hT (by simp [C31]) ?_
  simp only [C31]
  refine Wc_seq (Wc_ops (Wo_run (fun call => by simp only [List.drop_succ_cons, List.drop_zero, iops_nil, iops_op, iops_grd, iK_some, iG_true, iG_false, gval_bool, beq_true, beq_false, Bool.not_true, Bool.not_false, iop, ev, upd, dstUpd, binV, binI, unV, ptr, Heap.cell, Heap.write, cellsOf, put, args0, partL, List.getD_cons_zero, List.getD_cons_succ, List.length_cons, List.length_nil, List.set_cons_zero, List.set_cons_succ, List.getElem?_cons_zero, List.getElem?_cons_succ, reduceIte, Nat.reduceEqDiff, Nat.reduceAdd, Nat.reduceMul, Nat.reduceLeDiff, Nat.zero_add, Nat.add_zero, Option.map_some, Int.reduceEq, Int.reduceLT, Int.reduceLE, Bool.false_eq_true, decide_true, decide_false, ge_iff_le, gt_iff_lt, set_get']; rfl) ?_))
  show Wc T _ _ _
  by_cases h2 : l.length = 2
  case neg =>
    have hlt : decide ((l.length : Int) < 2) = true := by simp only [decide_eq_true_eq]; omega
    refine Wc_seq (Wc_seq (Wc_ops (Wo_run (fun call => by simp only [List.drop_succ_cons, List.drop_zero, iops_nil, iops_op, iops_grd, iK_some, iG_true, iG_false, gval_bool, beq_true, beq_false, Bool.not_true, Bool.not_false, iop, ev, upd, dstUpd, binV, binI, unV, ptr, Heap.cell, Heap.write, cellsOf, put, args0, partL, List.getD_cons_zero, List.getD_cons_succ, List.length_cons, List.length_nil, List.set_cons_zero, List.set_cons_succ, List.getElem?_cons_zero, List.getElem?_cons_succ, reduceIte, Nat.reduceEqDiff, Nat.reduceAdd, Nat.reduceMul, Nat.reduceLeDiff, Nat.zero_add, Nat.add_zero, Option.map_some, Int.reduceEq, Int.reduceLT, Int.reduceLE, Bool.false_eq_true, decide_true, decide_false, ge_iff_le, gt_iff_lt, set_get', hv0, hlt]; rfl) ?_)))
    show Wc T _ _ _
    refine Wc_cond true (by simp [ev, upd]) (fun _ => ?_) (fun h => by cases h)
    refine Wc_seq (Wc_ops (Wo_run (fun call => by simp only [List.drop_succ_cons, List.drop_zero, iops_nil, iops_op, iops_grd, iK_some, iG_true, iG_false, gval_bool, beq_true, beq_false, Bool.not_true, Bool.not_false, iop, ev, upd, dstUpd, binV, binI, unV, ptr, Heap.cell, Heap.write, cellsOf, put, args0, partL, List.getD_cons_zero, List.getD_cons_succ, List.length_cons, List.length_nil, List.set_cons_zero, List.set_cons_succ, List.getElem?_cons_zero, List.getElem?_cons_succ, reduceIte, Nat.reduceEqDiff, Nat.reduceAdd, Nat.reduceMul, Nat.reduceLeDiff, Nat.zero_add, Nat.add_zero, Option.map_some, Int.reduceEq, Int.reduceLT, Int.reduceLE, Bool.false_eq_true, decide_true, decide_false, ge_iff_le, gt_iff_lt, set_get']; rfl) ?_))
    have hs : cmpt l = l := by
      match l with
      | [] => rfl
      | [_] => rfl
      | [_, _] => exact (h2 rfl).elim
      | _ :: _ :: _ :: _ => rfl
    rw [hs]
    exact Wc_ret ⟨.inr rfl, rfl, [v], by simp [resAll, resV, upd, dstUpd, hv0], ⟨Nat.le_refl _, fun _ _ _ => rfl⟩, v, rfl, ho.ints.rd⟩
  obtain ⟨x, y, rfl⟩ : ∃ x y, l = [x, y] := by
    match l, h2 with
    | [x, y], _ => exact ⟨x, y, rfl⟩
  clear hv0
  rcases ho with ⟨hn, _⟩ | ⟨b, hb1, hb2, hv, hg⟩
  · cases hn
  simp only [List.length_cons, List.length_nil, Nat.zero_add, Nat.reduceAdd] at hv
  have hg' : h.get b = some (.cells [.int .i64 x, .int .i64 y] true 1) := hg
  have i21 : idxV 2 (.int .i64 1) = some 1 := rfl
  have i20 : idxV 2 (.int .i64 0) = some 0 := rfl
  have n2 : ((2 : Nat) : Int) = 2 := rfl
  refine Wc_seq (Wc_seq (Wc_ops (Wo_run (fun call => by simp only [List.drop_succ_cons, List.drop_zero, iops_nil, iops_op, iops_grd, iK_some, iG_true, iG_false, gval_bool, beq_true, beq_false, Bool.not_true, Bool.not_false, iop, ev, upd, dstUpd, binV, binI, unV, ptr, Heap.cell, Heap.write, cellsOf, put, args0, partL, List.getD_cons_zero, List.getD_cons_succ, List.length_cons, List.length_nil, List.set_cons_zero, List.set_cons_succ, List.getElem?_cons_zero, List.getElem?_cons_succ, reduceIte, Nat.reduceEqDiff, Nat.reduceAdd, Nat.reduceMul, Nat.reduceLeDiff, Nat.zero_add, Nat.add_zero, Option.map_some, Int.reduceEq, Int.reduceLT, Int.reduceLE, Bool.false_eq_true, decide_true, decide_false, ge_iff_le, gt_iff_lt, set_get', hv, n2]; rfl) ?_)))
  show Wc T _ _ _
  refine Wc_cond false (by simp [ev, upd]) (fun h => by cases h) (fun _ => Wc_skip ?_)
  show Wc T _ _ _
  have hrd : ∀ {h' : Heap}, Beside v h h' → h'.get b = h.get b → intRd h' v [x, y] := fun hbs hgb => intsAt.rd (.inr ⟨b, _, hv, Nat.lt_of_lt_of_le hb2 hbs.next, .inr ⟨_, _, by rw [hgb]; exact hg⟩⟩)
  refine Wc_seq (Wc_seq (Wc_ops (Wo_run (fun call => by simp only [List.drop_succ_cons, List.drop_zero, iops_nil, iops_op, iops_grd, iK_some, iG_true, iG_false, gval_bool, beq_true, beq_false, Bool.not_true, Bool.not_false, iop, ev, upd, dstUpd, binV, binI, unV, ptr, Heap.cell, Heap.write, cellsOf, put, args0, partL, List.getD_cons_zero, List.getD_cons_succ, List.length_cons, List.length_nil, List.set_cons_zero, List.set_cons_succ, List.getElem?_cons_zero, List.getElem?_cons_succ, reduceIte, Nat.reduceEqDiff, Nat.reduceAdd, Nat.reduceMul, Nat.reduceLeDiff, Nat.zero_add, Nat.add_zero, Option.map_some, Int.reduceEq, Int.reduceLT, Int.reduceLE, Bool.false_eq_true, decide_true, decide_false, ge_iff_le, gt_iff_lt, set_get']; rfl) ?_)))
  show Wc T _ _ _
  refine Wc_block (Wc_unroll ?_)
  rw [C31L1]
  refine Wc_seq (Wc_seq (Wc_ops (Wo_run (fun call => by simp only [List.drop_succ_cons, List.drop_zero, iops_nil, iops_op, iops_grd, iK_some, iG_true, iG_false, gval_bool, beq_true, beq_false, Bool.not_true, Bool.not_false, iop, ev, upd, dstUpd, binV, binI, unV, ptr, Heap.cell, Heap.write, cellsOf, put, args0, partL, List.getD_cons_zero, List.getD_cons_succ, List.length_cons, List.length_nil, List.set_cons_zero, List.set_cons_succ, List.getElem?_cons_zero, List.getElem?_cons_succ, reduceIte, Nat.reduceEqDiff, Nat.reduceAdd, Nat.reduceMul, Nat.reduceLeDiff, Nat.zero_add, Nat.add_zero, Option.map_some, Int.reduceEq, Int.reduceLT, Int.reduceLE, Bool.false_eq_true, decide_true, decide_false, ge_iff_le, gt_iff_lt, set_get', hv, n2]; rfl) ?_)))
  show Wc T _ _ _
  refine Wc_cond true (by simp [ev, upd]) (fun _ => Wc_skip ?_) (fun h => by cases h)
  show Wc T _ _ _
  refine Wc_seq (Wc_block (Wc_seq (Wc_draw_calm rfl (Wo_run (fun call => by simp only [List.drop_succ_cons, List.drop_zero, iops_nil, iops_op, iops_grd, iK_some, iG_true, iG_false, gval_bool, beq_true, beq_false, Bool.not_true, Bool.not_false, iop, ev, upd, dstUpd, binV, binI, unV, ptr, Heap.cell, Heap.write, cellsOf, put, args0, partL, List.getD_cons_zero, List.getD_cons_succ, List.length_cons, List.length_nil, List.set_cons_zero, List.set_cons_succ, List.getElem?_cons_zero, List.getElem?_cons_succ, reduceIte, Nat.reduceEqDiff, Nat.reduceAdd, Nat.reduceMul, Nat.reduceLeDiff, Nat.zero_add, Nat.add_zero, Option.map_some, Int.reduceEq, Int.reduceLT, Int.reduceLE, Bool.false_eq_true, decide_true, decide_false, ge_iff_le, gt_iff_lt, set_get', hv, i21, i20, hg', w10]; rfl) ?_))))
  refine ⟨rfl, ?_⟩
  show Wc T _ _ _
  by_cases hyx : y = x
  case neg =>
    have hne : (y == x) = false := by simpa using hyx
    refine Wc_cond false (by simp [ev, upd, hne]) (fun h => by cases h) (fun _ => Wc_skip ?_)
    show Wc T _ _ _
    refine Wc_ops (Wo_run (fun call => by simp only [List.drop_succ_cons, List.drop_zero, iops_nil, iops_op, iops_grd, iK_some, iG_true, iG_false, gval_bool, beq_true, beq_false, Bool.not_true, Bool.not_false, iop, ev, upd, dstUpd, binV, binI, unV, ptr, Heap.cell, Heap.write, cellsOf, put, args0, partL, List.getD_cons_zero, List.getD_cons_succ, List.length_cons, List.length_nil, List.set_cons_zero, List.set_cons_succ, List.getElem?_cons_zero, List.getElem?_cons_succ, reduceIte, Nat.reduceEqDiff, Nat.reduceAdd, Nat.reduceMul, Nat.reduceLeDiff, Nat.zero_add, Nat.add_zero, Option.map_some, Int.reduceEq, Int.reduceLT, Int.reduceLE, Bool.false_eq_true, decide_true, decide_false, ge_iff_le, gt_iff_lt, set_get', w11]; rfl) ?_)
    show Wc T _ _ _
    refine Wc_unroll ?_
    refine Wc_seq (Wc_seq (Wc_ops (Wo_run (fun call => by simp only [List.drop_succ_cons, List.drop_zero, iops_nil, iops_op, iops_grd, iK_some, iG_true, iG_false, gval_bool, beq_true, beq_false, Bool.not_true, Bool.not_false, iop, ev, upd, dstUpd, binV, binI, unV, ptr, Heap.cell, Heap.write, cellsOf, put, args0, partL, List.getD_cons_zero, List.getD_cons_succ, List.length_cons, List.length_nil, List.set_cons_zero, List.set_cons_succ, List.getElem?_cons_zero, List.getElem?_cons_succ, reduceIte, Nat.reduceEqDiff, Nat.reduceAdd, Nat.reduceMul, Nat.reduceLeDiff, Nat.zero_add, Nat.add_zero, Option.map_some, Int.reduceEq, Int.reduceLT, Int.reduceLE, Bool.false_eq_true, decide_true, decide_false, ge_iff_le, gt_iff_lt, set_get', hv, n2]; rfl) ?_)))
    show Wc T _ _ _
    refine Wc_cond false (by simp [ev, upd]) (fun h => by cases h) (fun _ => Wc_exit ?_)
    show Wc T _ _ _
    refine Wc_seq (Wc_ops (Wo_run (fun call => by simp only [List.drop_succ_cons, List.drop_zero, iops_nil, iops_op, iops_grd, iK_some, iG_true, iG_false, gval_bool, beq_true, beq_false, Bool.not_true, Bool.not_false, iop, ev, upd, dstUpd, binV, binI, unV, ptr, Heap.cell, Heap.write, cellsOf, put, args0, partL, List.getD_cons_zero, List.getD_cons_succ, List.length_cons, List.length_nil, List.set_cons_zero, List.set_cons_succ, List.getElem?_cons_zero, List.getElem?_cons_succ, reduceIte, Nat.reduceEqDiff, Nat.reduceAdd, Nat.reduceMul, Nat.reduceLeDiff, Nat.zero_add, Nat.add_zero, Option.map_some, Int.reduceEq, Int.reduceLT, Int.reduceLE, Bool.false_eq_true, decide_true, decide_false, ge_iff_le, gt_iff_lt, set_get']; rfl) ?_))
    have hs : cmpt [x, y] = [x, y] := by simp only [cmpt, if_neg hyx]
    rw [hs]
    exact Wc_ret ⟨.inr rfl, rfl, [v], by simp [resAll, resV, upd, dstUpd, hv], ⟨Nat.le_refl _, fun _ _ _ => rfl⟩, v, rfl, hrd ⟨Nat.le_refl _, fun _ _ _ => rfl⟩ rfl⟩
  subst hyx
  refine Wc_cond true (by simp [ev, upd]) (fun _ => ?_) (fun h => by cases h)
  have hok : okSzO h 1 (some ⟨b, 0, none⟩) = true := by simp [okSzO, okSz, hg']
  have b21 : bndV 0 2 (.int .i64 1) = some 1 := rfl
  have b01 : bndV 0 1 (.int .i64 1) = some 1 := rfl
  refine Wc_seq (Wc_ops (Wo_run (fun call => by simp only [List.drop_succ_cons, List.drop_zero, iops_nil, iops_op, iops_grd, iK_some, iG_true, iG_false, gval_bool, beq_true, beq_false, Bool.not_true, Bool.not_false, iop, ev, upd, dstUpd, binV, binI, unV, ptr, Heap.cell, Heap.write, cellsOf, put, args0, partL, List.getD_cons_zero, List.getD_cons_succ, List.length_cons, List.length_nil, List.set_cons_zero, List.set_cons_succ, List.getElem?_cons_zero, List.getElem?_cons_succ, reduceIte, Nat.reduceEqDiff, Nat.reduceAdd, Nat.reduceMul, Nat.reduceLeDiff, Nat.zero_add, Nat.add_zero, Option.map_some, Int.reduceEq, Int.reduceLT, Int.reduceLE, Bool.false_eq_true, decide_true, decide_false, ge_iff_le, gt_iff_lt, set_get', hv, bndO, b21, hok, Option.isSome, Option.isNone, Bool.and_false, Bool.or_false, Bool.not_true, subSl, Option.getD_none]; rfl) ?_))
  show Wc T _ _ _
  refine Wc_seq (Wc_seq (Wc_ops (Wo_run (fun call => by simp only [List.drop_succ_cons, List.drop_zero, iops_nil, iops_op, iops_grd, iK_some, iG_true, iG_false, gval_bool, beq_true, beq_false, Bool.not_true, Bool.not_false, iop, ev, upd, dstUpd, binV, binI, unV, ptr, Heap.cell, Heap.write, cellsOf, put, args0, partL, List.getD_cons_zero, List.getD_cons_succ, List.length_cons, List.length_nil, List.set_cons_zero, List.set_cons_succ, List.getElem?_cons_zero, List.getElem?_cons_succ, reduceIte, Nat.reduceEqDiff, Nat.reduceAdd, Nat.reduceMul, Nat.reduceLeDiff, Nat.zero_add, Nat.add_zero, Option.map_some, Int.reduceEq, Int.reduceLT, Int.reduceLE, Bool.false_eq_true, decide_true, decide_false, ge_iff_le, gt_iff_lt, set_get']; rfl) ?_)))
  show Wc T _ _ _
  refine Wc_block (Wc_unroll ?_)
  rw [C31L0]
  have n21 : ((2 - 1 : Nat) : Int) = 1 := rfl
  refine Wc_seq (Wc_seq (Wc_ops (Wo_run (fun call => by simp only [List.drop_succ_cons, List.drop_zero, iops_nil, iops_op, iops_grd, iK_some, iG_true, iG_false, gval_bool, beq_true, beq_false, Bool.not_true, Bool.not_false, iop, ev, upd, dstUpd, binV, binI, unV, ptr, Heap.cell, Heap.write, cellsOf, put, args0, partL, List.getD_cons_zero, List.getD_cons_succ, List.length_cons, List.length_nil, List.set_cons_zero, List.set_cons_succ, List.getElem?_cons_zero, List.getElem?_cons_succ, reduceIte, Nat.reduceEqDiff, Nat.reduceAdd, Nat.reduceMul, Nat.reduceLeDiff, Nat.zero_add, Nat.add_zero, Option.map_some, Int.reduceEq, Int.reduceLT, Int.reduceLE, Bool.false_eq_true, decide_true, decide_false, ge_iff_le, gt_iff_lt, set_get', n21]; rfl) ?_)))
  show Wc T _ _ _
  refine Wc_cond false (by simp [ev, upd]) (fun h => by cases h) (fun _ => Wc_exit ?_)
  show Wc T _ _ _
  refine Wc_seq (Wc_ops (Wo_pre 3 (fun call => by simp only [List.take_succ_cons, List.take_zero, List.drop_succ_cons, List.drop_zero, iops_nil, iops_op, iops_grd, iK_some, iG_true, iG_false, gval_bool, beq_true, beq_false, Bool.not_true, Bool.not_false, iop, ev, upd, dstUpd, binV, binI, unV, ptr, Heap.cell, Heap.write, cellsOf, put, args0, partL, List.getD_cons_zero, List.getD_cons_succ, List.length_cons, List.length_nil, List.set_cons_zero, List.set_cons_succ, List.getElem?_cons_zero, List.getElem?_cons_succ, reduceIte, Nat.reduceEqDiff, Nat.reduceAdd, Nat.reduceMul, Nat.reduceLeDiff, Nat.zero_add, Nat.add_zero, Option.map_some, Int.reduceEq, Int.reduceLT, Int.reduceLE, Bool.false_eq_true, decide_true, decide_false, ge_iff_le, gt_iff_lt, set_get', hv, bndO, b21, hok, Option.isSome, Option.isNone, Bool.and_false, Bool.or_false, Bool.not_true, subSl, Option.getD_none]; rfl) ?_))
  have hcl : ∀ e' : Env, e' 56 = .slice (some ⟨b, 0 + 1 * 1, none⟩) (2 - 1) (if (3 : Nat) = 2 ∧ (2 : Nat) = 2 then 2 - 1 else 2 - 1 + 1) → iop (.clear [.int .i64 0] (.t 56)) e' h = some (undef, h.set b (.cells [.int .i64 y, .int .i64 0] true 1)) := by
    intro e' he
    simp only [iop, ev, he, Heap.write, hg']
    rfl
  refine Wo_op (hcl _ ?_) (Wo_nil ?_)
  · simp only [upd, dstUpd, reduceIte, Nat.reduceEqDiff]
    first | rfl | trace_state
  show Wc T _ _ _
  have hok2 : okSzO (h.set b (.cells [.int .i64 y, .int .i64 0] true 1)) 1 (some ⟨b, 0, none⟩) = true := by simp [okSzO, okSz, set_get']
  have b02 : bndV 0 2 (.int .i64 1) = some 1 := rfl
  refine Wc_seq (Wc_ops (Wo_run (fun call => by simp only [List.drop_succ_cons, List.drop_zero, iops_nil, iops_op, iops_grd, iK_some, iG_true, iG_false, gval_bool, beq_true, beq_false, Bool.not_true, Bool.not_false, iop, ev, upd, dstUpd, binV, binI, unV, ptr, Heap.cell, Heap.write, cellsOf, put, args0, partL, List.getD_cons_zero, List.getD_cons_succ, List.length_cons, List.length_nil, List.set_cons_zero, List.set_cons_succ, List.getElem?_cons_zero, List.getElem?_cons_succ, reduceIte, Nat.reduceEqDiff, Nat.reduceAdd, Nat.reduceMul, Nat.reduceLeDiff, Nat.zero_add, Nat.add_zero, Option.map_some, Int.reduceEq, Int.reduceLT, Int.reduceLE, Bool.false_eq_true, decide_true, decide_false, ge_iff_le, gt_iff_lt, set_get', hv, bndO, b02, hok2, Option.isSome, Option.isNone, Bool.and_false, Bool.or_false, Bool.not_true, subSl, Option.getD_none]; rfl) ?_))
  show Wc T _ _ _
  have hs : cmpt [y, y] = [y] := by simp only [cmpt, if_pos]
  rw [hs]
  refine Wc_ret ⟨.inr rfl, rfl, _, by simp only [resAll, resV, upd, dstUpd, reduceIte, Nat.reduceEqDiff]; rfl, ⟨Nat.le_refl _, fun k hk hne => set_get_ne' _ _ (fun e => hne _ _ _ hv e.symm)⟩, _, rfl, ?_⟩
  refine ⟨⟨_, _, rfl⟩, fun i k hi => ⟨b, _, [.int .i64 y, .int .i64 0], true, 1, rfl, hb2, set_get' _ _ _, ?_⟩⟩
  match i, hi with
  | 0, hi => cases hi; rfl
  | i + 1, hi => simp at hi

end Go.Idl
end

section
/- ir.Next. -/
namespace Go.Idl
set_option linter.unusedVariables false
set_option linter.unusedSimpArgs false
set_option maxRecDepth 100000
open Go.Proofs

def putL (f : Fn) (k : Int) : List Int := if 0 ≤ k ∧ k < f.code.length then [k] else []

/-- The list in its cell. -/
structure Cell29 (n0 lb : Nat) (h : Heap) (l : List Int) : Prop where
  ex : ∃ v, h.get lb = some (.cells [v] true 0) ∧ ownI n0 h v l

theorem put29 {T : Tbl} (hT : T.fn 29 = some C29) {h : Heap} {f : Fn} {n0 fb lb : Nat} {l : List Int} {k : Int} (hf : f.code.length ≤ maxLen) (hcv : ∃ p c, f.cv = .slice p f.code.length c) (hgf : h.get fb = some (.cells f.cells true 0)) (hC : Cell29 n0 lb h l) (hfb : fb < n0) (hlb : lb < n0) (hn : n0 ≤ h.next) (hne : fb ≠ lb) (hl : l.length ≤ 10) :
    Wk T (.fn 29) [.int .i64 k, ptr fb 0, ptr lb 0] h (fun o h' => o = .ret (.tuple #[]) ∧ Cell29 n0 lb h' (l ++ putL f k) ∧ h.next ≤ h'.next ∧ ∀ b, b < n0 → b ≠ lb → h'.get b = h.get b) := by
  obtain ⟨pc, cc, hcv⟩ := hcv
  obtain ⟨v, hgl, ho⟩ := hC.ex
  refine Wk_fn hT (by simp [C29]) ?_
  simp only [C29]
  by_cases q0 : 0 ≤ k
  case neg =>
    have z0 : decide (0 ≤ k) = false := by simpa using q0
    refine Wc_seq (Wc_ops (Wo_run (fun call => by simp only [List.drop_succ_cons, List.drop_zero, iops_nil, iops_op, iops_grd, iK_some, iG_true, iG_false, gval_bool, beq_true, beq_false, Bool.not_true, Bool.not_false, iop, ev, upd, dstUpd, binV, binI, unV, ptr, Heap.cell, Heap.write, cellsOf, put, args0, partL, List.getD_cons_zero, List.getD_cons_succ, List.length_cons, List.length_nil, List.set_cons_zero, List.set_cons_succ, List.getElem?_cons_zero, List.getElem?_cons_succ, reduceIte, Nat.reduceEqDiff, Nat.reduceAdd, Nat.reduceMul, Nat.reduceLeDiff, Nat.zero_add, Nat.add_zero, Option.map_some, Int.reduceEq, Int.reduceLT, Int.reduceLE, Bool.false_eq_true, decide_true, decide_false, ge_iff_le, gt_iff_lt, set_get', z0]; rfl) ?_))
    show Wc T _ _ _
    refine Wc_cond false (by simp [ev, upd, dstUpd]) (fun h => by cases h) (fun _ => Wc_skip ?_)
    have : putL f k = [] := by simp only [putL]; rw [if_neg (by omega)]
    rw [this, List.append_nil]
    exact ⟨.inl rfl, rfl, [], rfl, rfl, hC, Nat.le_refl _, fun _ _ _ => rfl⟩
  have p0 : decide (0 ≤ k) = true := by simpa using q0
  by_cases q1 : k < (f.code.length : Int)
  case neg =>
    have z1 : decide (k < (f.code.length : Int)) = false := by simpa using q1
    refine Wc_seq (Wc_ops (Wo_run (fun call => by simp only [List.drop_succ_cons, List.drop_zero, iops_nil, iops_op, iops_grd, iK_some, iG_true, iG_false, gval_bool, beq_true, beq_false, Bool.not_true, Bool.not_false, iop, ev, upd, dstUpd, binV, binI, unV, ptr, Heap.cell, Heap.write, cellsOf, put, args0, partL, List.getD_cons_zero, List.getD_cons_succ, List.length_cons, List.length_nil, List.set_cons_zero, List.set_cons_succ, List.getElem?_cons_zero, List.getElem?_cons_succ, reduceIte, Nat.reduceEqDiff, Nat.reduceAdd, Nat.reduceMul, Nat.reduceLeDiff, Nat.zero_add, Nat.add_zero, Option.map_some, Int.reduceEq, Int.reduceLT, Int.reduceLE, Bool.false_eq_true, decide_true, decide_false, ge_iff_le, gt_iff_lt, set_get', p0, z1, hgf, Fn.cells, hcv]; rfl) ?_))
    show Wc T _ _ _
    refine Wc_cond false (by simp [ev, upd, dstUpd]) (fun h => by cases h) (fun _ => Wc_skip ?_)
    have : putL f k = [] := by simp only [putL]; rw [if_neg (by omega)]
    rw [this, List.append_nil]
    exact ⟨.inl rfl, rfl, [], rfl, rfl, hC, Nat.le_refl _, fun _ _ _ => rfl⟩
  have p1 : decide (k < (f.code.length : Int)) = true := by simpa using q1
  have hput : putL f k = [k] := by simp only [putL]; rw [if_pos (by omega)]
  refine Wc_seq (Wc_ops (Wo_run (fun call => by simp only [List.drop_succ_cons, List.drop_zero, iops_nil, iops_op, iops_grd, iK_some, iG_true, iG_false, gval_bool, beq_true, beq_false, Bool.not_true, Bool.not_false, iop, ev, upd, dstUpd, binV, binI, unV, ptr, Heap.cell, Heap.write, cellsOf, put, args0, partL, List.getD_cons_zero, List.getD_cons_succ, List.length_cons, List.length_nil, List.set_cons_zero, List.set_cons_succ, List.getElem?_cons_zero, List.getElem?_cons_succ, reduceIte, Nat.reduceEqDiff, Nat.reduceAdd, Nat.reduceMul, Nat.reduceLeDiff, Nat.zero_add, Nat.add_zero, Option.map_some, Int.reduceEq, Int.reduceLT, Int.reduceLE, Bool.false_eq_true, decide_true, decide_false, ge_iff_le, gt_iff_lt, set_get', p0, p1, hgf, Fn.cells, hcv]; rfl) ?_))
  show Wc T _ _ _
  refine Wc_cond true (by simp [ev, upd, dstUpd]) (fun _ => ?_) (fun h => by cases h)
  refine Wc_ops (Wo_pre 3 (fun call => by simp only [List.take_succ_cons, List.take_zero, List.drop_succ_cons, List.drop_zero, iops_nil, iops_op, iops_grd, iK_some, iG_true, iG_false, gval_bool, beq_true, beq_false, Bool.not_true, Bool.not_false, iop, ev, upd, dstUpd, binV, binI, unV, ptr, Heap.cell, Heap.write, cellsOf, put, args0, partL, List.getD_cons_zero, List.getD_cons_succ, List.length_cons, List.length_nil, List.set_cons_zero, List.set_cons_succ, List.getElem?_cons_zero, List.getElem?_cons_succ, reduceIte, Nat.reduceEqDiff, Nat.reduceAdd, Nat.reduceMul, Nat.reduceLeDiff, Nat.zero_add, Nat.add_zero, Option.map_some, Int.reduceEq, Int.reduceLT, Int.reduceLE, Bool.false_eq_true, decide_true, decide_false, ge_iff_le, gt_iff_lt, set_get', hgl]; rfl) ?_)
  have hkE : Kept h (h.new (.cells [.int .i64 k] true 1)) := (Kept.refl h).new _
  have hel : elemsOf (h.new (.cells [.int .i64 k] true 1)) 1 (.slice (some ⟨h.next, 0, none⟩) 1 1) = some ([k].length, ints64 [k]) :=
    intsAt.elems (l := [k]) (.inr ⟨h.next, 1, rfl, Nat.lt_succ_self _, .inr ⟨_, _, new_get' _ _⟩⟩)
  have ho2 : ownI n0 (h.new (.cells [.int .i64 k] true 1)) v l := ho.keep (Nat.le_succ _) (fun b _ hb => hkE.get b hb)
  obtain ⟨v', h5, ha, hbs, hown, hnew⟩ := append_own ho2 (Nat.le_trans hn (Nat.le_succ _)) hel (by rw [List.length_singleton]; omega)
  have hap : ∀ e' : Env, e' 13 = v → e' 15 = .slice (some ⟨h.next, 0, none⟩) 1 1 → iop (.append 1 8 (.t 13) (.t 15)) e' (h.new (.cells [.int .i64 k] true 1)) = some (v', h5) := by
    intro e' h1' h2'
    simp only [iop, ev, h1', h2']
    exact ha
  have old : ∀ b, b < n0 → h5.get b = h.get b := fun b hb => by rw [hbs.at ho2 hb (by have := hkE.next; omega), hkE.get _ (by omega)]
  have hcv' : cellsOf v' = some [v'] := by
    rcases hown with ⟨_, e⟩ | ⟨b, _, _, e, _⟩ <;> rw [e] <;> rfl
  refine Wo_op (hap _ (by simp only [upd, dstUpd, reduceIte, Nat.reduceEqDiff]) rfl) (Wo_op (iop_store1 (b := lb) (esz := 0) (v := v') (x := v) (by simp only [upd, dstUpd, reduceIte, Nat.reduceEqDiff, args0, List.getD_cons_succ, List.getD_cons_zero]; rfl) (by simp only [upd, dstUpd, reduceIte, Nat.reduceEqDiff, ev]; exact hcv') (by rw [old lb hlb]; exact hgl)) (Wo_nil ?_))
  refine ⟨.inl rfl, rfl, [], rfl, rfl, ⟨v', set_get' _ _ _, ?_⟩, ?_, fun b hb hbl => ?_⟩
  · rw [hput]
    exact hown.keep (Nat.le_refl _) (fun b hb _ => set_get_ne' _ _ (by omega))
  · show h.next ≤ h5.next
    have := hbs.next; have := hkE.next; omega
  · rw [set_get_ne' _ _ hbl]; exact old b hb

def nextI (f : Fn) (at' : Int) : List Int :=
  if at' < 0 ∨ (f.code.length : Int) ≤ at' then [] else match f.code[at'.toNat]? with
    | none => []
    | some x => cmpt (srt ((if x.op = 21 ∨ x.op = 22 then putL f x.k else []) ++ (if x.op ≠ 21 ∧ x.op ≠ 24 ∧ x.op ≠ 25 then putL f (at' + 1) else [])))

theorem putL_len (f : Fn) (k : Int) : (putL f k).length ≤ 1 := by
  unfold putL; split <;> simp

theorem next16 {T : Tbl} (hT : T.fn 16 = some C16) (h29 : T.fn 29 = some C29) (h30 : T.fn 30 = some C30) (h44 : ∀ (n : Nat) (h : Heap) (K : Out → Heap → Prop), n ≤ 2 → (∀ m : Int, K (.ret (.int .i64 m)) h) → Wk T (.fn 44) [.int .u64 n] h K) (h43 : T.fn 43 = some C43) (h48 : T.fn 48 = some C48) (h54 : T.fn 54 = some C54) (h65 : T.fn 65 = some C65) (h31 : T.fn 31 = some C31)
    {h : Heap} {f : Fn} {at' : Int} (hf : f.Ok h) : Wk T (.fn 16) [.agg f.cells.toArray, .int .i64 at'] h (fun o h' => Kept h h' ∧ ∃ v', o = .ret v' ∧ intRd h' v' (nextI f at')) := by
  obtain ⟨pc, cc, hcv⟩ := hf.code.len
  have hfl := hf.len
  refine Wk_fn hT (by simp [C16]) ?_
  simp only [C16]
  have hbx : iop (.box (.t 0)) (args0 [.agg f.cells.toArray, .int .i64 at']) h = some (ptr h.next 0, h.new (.cells f.cells true 0)) := by simp [iop, ev, args0, cellsOf]
  refine Wc_seq (Wc_ops (Wo_op hbx (Wo_run (fun call => by simp only [List.drop_succ_cons, List.drop_zero, iops_nil, iops_op, iops_grd, iK_some, iG_true, iG_false, gval_bool, beq_true, beq_false, Bool.not_true, Bool.not_false, iop, ev, upd, dstUpd, binV, binI, unV, ptr, Heap.cell, Heap.write, cellsOf, put, args0, partL, List.getD_cons_zero, List.getD_cons_succ, List.length_cons, List.length_nil, List.set_cons_zero, List.set_cons_succ, List.getElem?_cons_zero, List.getElem?_cons_succ, reduceIte, Nat.reduceEqDiff, Nat.reduceAdd, Nat.reduceMul, Nat.reduceLeDiff, Nat.zero_add, Nat.add_zero, Option.map_some, Int.reduceEq, Int.reduceLT, Int.reduceLE, Bool.false_eq_true, decide_true, decide_false, ge_iff_le, gt_iff_lt, set_get']; rfl) ?_)))
  show Wc T _ _ _
  have hg : (h.new (.cells f.cells true 0)).get h.next = some (.cells f.cells true 0) := new_get' _ _
  have hk : Kept h (h.new (.cells f.cells true 0)) := (Kept.refl h).new _
  have hn : (h.new (.cells f.cells true 0)).next = h.next + 1 := rfl
  generalize h.new (.cells f.cells true 0) = h1 at hg hk hn ⊢
  have nil : ∀ (e : Env), e 4 = .slice none 0 0 → nextI f at' = [] → ((Ex.ret = .normal ∨ Ex.ret = .ret) ∧ some ([] : List Dfr) = some [] ∧ ∃ vs, resAll e h1 [.tmp 4] = some vs ∧ Kept h h1 ∧ ∃ v', Out.ret (tup vs) = .ret v' ∧ intRd h1 v' (nextI f at')) := by
    intro e h4 hn'
    refine ⟨.inr rfl, rfl, [.slice none 0 0], by simp only [resAll, resV, h4], hk, _, rfl, ?_⟩
    rw [hn']
    exact intsAt.rd (.inl ⟨rfl, rfl⟩)
  by_cases q0 : at' < 0
  · have z0 : decide (at' < 0) = true := by simpa using q0
    refine Wc_seq (Wc_seq (Wc_ops (Wo_run (fun call => by simp only [List.drop_succ_cons, List.drop_zero, iops_nil, iops_op, iops_grd, iK_some, iG_true, iG_false, gval_bool, beq_true, beq_false, Bool.not_true, Bool.not_false, iop, ev, upd, dstUpd, binV, binI, unV, ptr, Heap.cell, Heap.write, cellsOf, put, args0, partL, List.getD_cons_zero, List.getD_cons_succ, List.length_cons, List.length_nil, List.set_cons_zero, List.set_cons_succ, List.getElem?_cons_zero, List.getElem?_cons_succ, reduceIte, Nat.reduceEqDiff, Nat.reduceAdd, Nat.reduceMul, Nat.reduceLeDiff, Nat.zero_add, Nat.add_zero, Option.map_some, Int.reduceEq, Int.reduceLT, Int.reduceLE, Bool.false_eq_true, decide_true, decide_false, ge_iff_le, gt_iff_lt, set_get', z0]; rfl) ?_)))
    show Wc T _ _ _
    refine Wc_cond true (by simp [ev, upd, dstUpd]) (fun _ => ?_) (fun h => by cases h)
    refine Wc_seq (Wc_ops (Wo_run (fun call => by simp only [List.drop_succ_cons, List.drop_zero, iops_nil, iops_op, iops_grd, iK_some, iG_true, iG_false, gval_bool, beq_true, beq_false, Bool.not_true, Bool.not_false, iop, ev, upd, dstUpd, binV, binI, unV, ptr, Heap.cell, Heap.write, cellsOf, put, args0, partL, List.getD_cons_zero, List.getD_cons_succ, List.length_cons, List.length_nil, List.set_cons_zero, List.set_cons_succ, List.getElem?_cons_zero, List.getElem?_cons_succ, reduceIte, Nat.reduceEqDiff, Nat.reduceAdd, Nat.reduceMul, Nat.reduceLeDiff, Nat.zero_add, Nat.add_zero, Option.map_some, Int.reduceEq, Int.reduceLT, Int.reduceLE, Bool.false_eq_true, decide_true, decide_false, ge_iff_le, gt_iff_lt, set_get']; rfl) ?_))
    exact Wc_ret (nil _ (by simp [upd, dstUpd]) (by simp only [nextI, if_pos (Or.inl q0)]))
  have p0 : decide (at' < 0) = false := by simpa using q0
  by_cases q1 : (f.code.length : Int) ≤ at'
  · have z1 : decide ((f.code.length : Int) ≤ at') = true := by simpa using q1
    refine Wc_seq (Wc_seq (Wc_ops (Wo_run (fun call => by simp only [List.drop_succ_cons, List.drop_zero, iops_nil, iops_op, iops_grd, iK_some, iG_true, iG_false, gval_bool, beq_true, beq_false, Bool.not_true, Bool.not_false, iop, ev, upd, dstUpd, binV, binI, unV, ptr, Heap.cell, Heap.write, cellsOf, put, args0, partL, List.getD_cons_zero, List.getD_cons_succ, List.length_cons, List.length_nil, List.set_cons_zero, List.set_cons_succ, List.getElem?_cons_zero, List.getElem?_cons_succ, reduceIte, Nat.reduceEqDiff, Nat.reduceAdd, Nat.reduceMul, Nat.reduceLeDiff, Nat.zero_add, Nat.add_zero, Option.map_some, Int.reduceEq, Int.reduceLT, Int.reduceLE, Bool.false_eq_true, decide_true, decide_false, ge_iff_le, gt_iff_lt, set_get', p0, z1, hg, Fn.cells, hcv]; rfl) ?_)))
    show Wc T _ _ _
    refine Wc_cond true (by simp [ev, upd, dstUpd]) (fun _ => ?_) (fun h => by cases h)
    refine Wc_seq (Wc_ops (Wo_run (fun call => by simp only [List.drop_succ_cons, List.drop_zero, iops_nil, iops_op, iops_grd, iK_some, iG_true, iG_false, gval_bool, beq_true, beq_false, Bool.not_true, Bool.not_false, iop, ev, upd, dstUpd, binV, binI, unV, ptr, Heap.cell, Heap.write, cellsOf, put, args0, partL, List.getD_cons_zero, List.getD_cons_succ, List.length_cons, List.length_nil, List.set_cons_zero, List.set_cons_succ, List.getElem?_cons_zero, List.getElem?_cons_succ, reduceIte, Nat.reduceEqDiff, Nat.reduceAdd, Nat.reduceMul, Nat.reduceLeDiff, Nat.zero_add, Nat.add_zero, Option.map_some, Int.reduceEq, Int.reduceLT, Int.reduceLE, Bool.false_eq_true, decide_true, decide_false, ge_iff_le, gt_iff_lt, set_get']; rfl) ?_))
    exact Wc_ret (nil _ (by simp [upd, dstUpd]) (by simp only [nextI, if_pos (Or.inr q1)]))
  have p1 : decide ((f.code.length : Int) ≤ at') = false := by simpa using q1
  clear nil
  refine Wc_seq (Wc_seq (Wc_ops (Wo_run (fun call => by simp only [List.drop_succ_cons, List.drop_zero, iops_nil, iops_op, iops_grd, iK_some, iG_true, iG_false, gval_bool, beq_true, beq_false, Bool.not_true, Bool.not_false, iop, ev, upd, dstUpd, binV, binI, unV, ptr, Heap.cell, Heap.write, cellsOf, put, args0, partL, List.getD_cons_zero, List.getD_cons_succ, List.length_cons, List.length_nil, List.set_cons_zero, List.set_cons_succ, List.getElem?_cons_zero, List.getElem?_cons_succ, reduceIte, Nat.reduceEqDiff, Nat.reduceAdd, Nat.reduceMul, Nat.reduceLeDiff, Nat.zero_add, Nat.add_zero, Option.map_some, Int.reduceEq, Int.reduceLT, Int.reduceLE, Bool.false_eq_true, decide_true, decide_false, ge_iff_le, gt_iff_lt, set_get', p0, p1, hg, Fn.cells, hcv]; rfl) ?_)))
  show Wc T _ _ _
  refine Wc_cond false (by simp [ev, upd, dstUpd]) (fun h => by cases h) (fun _ => Wc_skip ?_)
  show Wc T _ _ _
  obtain ⟨j, rfl⟩ : ∃ j : Nat, at' = j := ⟨at'.toNat, by omega⟩
  have hjl : j < f.code.length := by omega
  obtain ⟨x, hx⟩ : ∃ x, f.code[j]? = some x := ⟨_, List.getElem?_eq_getElem hjl⟩
  have hspec : nextI f j = cmpt (srt ((if x.op = 21 ∨ x.op = 22 then putL f x.k else []) ++ (if x.op ≠ 21 ∧ x.op ≠ 24 ∧ x.op ≠ 25 then putL f ((j : Int) + 1) else []))) := by
    simp only [nextI]
    rw [if_neg (by omega)]
    simp only [Int.toNat_natCast, hx]
  rw [hspec]
  -- the cell, the closure, the instruction
  refine Wc_seq (Wc_ops (Wo_run (fun call => by simp only [List.drop_succ_cons, List.drop_zero, iops_nil, iops_op, iops_grd, iK_some, iG_true, iG_false, gval_bool, beq_true, beq_false, Bool.not_true, Bool.not_false, iop, ev, upd, dstUpd, binV, binI, unV, ptr, Heap.cell, Heap.write, cellsOf, put, args0, partL, List.getD_cons_zero, List.getD_cons_succ, List.length_cons, List.length_nil, List.set_cons_zero, List.set_cons_succ, List.getElem?_cons_zero, List.getElem?_cons_succ, reduceIte, Nat.reduceEqDiff, Nat.reduceAdd, Nat.reduceMul, Nat.reduceLeDiff, Nat.zero_add, Nat.add_zero, Option.map_some, Int.reduceEq, Int.reduceLT, Int.reduceLE, Bool.false_eq_true, decide_true, decide_false, ge_iff_le, gt_iff_lt, set_get']; rfl) ?_))
  show Wc T _ _ _
  have hk2 : Kept h1 (h1.new (.cells [.slice none 0 0] true 0)) := (Kept.refl h1).new _
  have hgl : (h1.new (.cells [.slice none 0 0] true 0)).get h1.next = some (.cells [.slice none 0 0] true 0) := new_get' _ _
  have hn2 : (h1.new (.cells [.slice none 0 0] true 0)).next = h.next + 2 := by rw [new_next, hn]
  generalize h1.new (.cells [.slice none 0 0] true 0) = h2 at hk2 hgl hn2 ⊢
  rw [hn] at hgl
  refine Wc_seq (Wc_ops (Wo_run (fun call => by simp only [List.drop_succ_cons, List.drop_zero, iops_nil, iops_op, iops_grd, iK_some, iG_true, iG_false, gval_bool, beq_true, beq_false, Bool.not_true, Bool.not_false, iop, ev, upd, dstUpd, binV, binI, unV, ptr, Heap.cell, Heap.write, cellsOf, put, args0, partL, List.getD_cons_zero, List.getD_cons_succ, List.length_cons, List.length_nil, List.set_cons_zero, List.set_cons_succ, List.getElem?_cons_zero, List.getElem?_cons_succ, reduceIte, Nat.reduceEqDiff, Nat.reduceAdd, Nat.reduceMul, Nat.reduceLeDiff, Nat.zero_add, Nat.add_zero, Option.map_some, Int.reduceEq, Int.reduceLT, Int.reduceLE, Bool.false_eq_true, decide_true, decide_false, ge_iff_le, gt_iff_lt, set_get']; rfl) ?_))
  show Wc T _ _ _
  have hg2 : h2.get h.next = some (.cells f.cells true 0) := by rw [hk2.get _ (by omega)]; exact hg
  obtain ⟨bx, cx, hva, hbx', _, hcx, hxin⟩ := (((hf.keep hk).keep hk2).code).load insCells_len hx
  refine Wc_seq (Wc_ops (Wo_pre 3 (fun call => by simp only [List.take_succ_cons, List.take_zero, List.drop_succ_cons, List.drop_zero, iops_nil, iops_op, iops_grd, iK_some, iG_true, iG_false, gval_bool, beq_true, beq_false, Bool.not_true, Bool.not_false, iop, ev, upd, dstUpd, binV, binI, unV, ptr, Heap.cell, Heap.write, cellsOf, put, args0, partL, List.getD_cons_zero, List.getD_cons_succ, List.length_cons, List.length_nil, List.set_cons_zero, List.set_cons_succ, List.getElem?_cons_zero, List.getElem?_cons_succ, reduceIte, Nat.reduceEqDiff, Nat.reduceAdd, Nat.reduceMul, Nat.reduceLeDiff, Nat.zero_add, Nat.add_zero, Option.map_some, Int.reduceEq, Int.reduceLT, Int.reduceLE, Bool.false_eq_true, decide_true, decide_false, ge_iff_le, gt_iff_lt, set_get', hg2, Fn.cells]; rfl) ?_))
  refine Wo_op (iop_iaddr (b := bx) (len := f.code.length) (c := cx) (i := j) (by simp only [upd, dstUpd, reduceIte, Nat.reduceEqDiff]; exact hva) (by simp only [upd, dstUpd, reduceIte, Nat.reduceEqDiff, args0, List.getD_cons_succ, List.getD_cons_zero]) hjl) (Wo_op (iop_load (b := bx) (o := j * 6) (cs := x.cells) (by simp only [upd, dstUpd, reduceIte, Nat.reduceEqDiff]) hcx) (Wo_op rfl (Wo_op (iop_store (b := h2.next) (esz := 0) (cs := x.cells) (z := [(.int .i64 0), (.int .i64 0), (.int .i64 0), (.int .i64 0), (.int .i64 0), (.slice none 0 0)]) (by simp only [upd, dstUpd, reduceIte, Nat.reduceEqDiff]) (by simp only [upd, dstUpd, reduceIte, Nat.reduceEqDiff]) rfl (new_get' _ _) rfl) (Wo_nil ?_))))
  show Wc T _ _ _
  have hk3 : Kept h2 ((h2.new (.cells [(.int .i64 0), (.int .i64 0), (.int .i64 0), (.int .i64 0), (.int .i64 0), (.slice none 0 0)] true 0)).set h2.next (.cells x.cells true 0)) := ((Kept.refl h2).new _).set (Nat.le_refl _) _
  have g7 : ((h2.new (.cells [(.int .i64 0), (.int .i64 0), (.int .i64 0), (.int .i64 0), (.int .i64 0), (.slice none 0 0)] true 0)).set h2.next (.cells x.cells true 0)).get h2.next = some (.cells x.cells true 0) := set_get' _ _ _
  have hn3 : ((h2.new (.cells [(.int .i64 0), (.int .i64 0), (.int .i64 0), (.int .i64 0), (.int .i64 0), (.slice none 0 0)] true 0)).set h2.next (.cells x.cells true 0)).next = h.next + 3 := by rw [set_next, new_next, hn2]
  generalize (h2.new (.cells [(.int .i64 0), (.int .i64 0), (.int .i64 0), (.int .i64 0), (.int .i64 0), (.slice none 0 0)] true 0)).set h2.next (.cells x.cells true 0) = h3 at hk3 g7 hn3 ⊢
  rw [hn2] at g7
  have g2 : h3.get h.next = some (.cells f.cells true 0) := by rw [hk3.get _ (by omega)]; exact hg2
  have hC0 : Cell29 (h.next + 3) (h.next + 1) h3 [] := ⟨_, by rw [hk3.get _ (by omega)]; exact hgl, .inl ⟨rfl, rfl⟩⟩
  have hk03 : Kept h h3 := (hk.trans hk2).trans hk3
  -- what holds at each put
  have e1' : IntKind.i64.wrap ((j : Int) + 1) = (j : Int) + 1 := by
    unfold maxLen at hfl
    rw [wrap64] <;> omega
  refine Wc_mid (fun s => s.d = some [] ∧ s.e 1 = .int .i64 j ∧ s.e 5 = ptr (h.next + 1) 0 ∧ s.e 6 = .func (.func 29) #[] #[ptr h.next 0, ptr (h.next + 1) 0] ∧ s.e 7 = ptr (h.next + 2) 0 ∧ Kept h s.h ∧ h.next + 3 ≤ s.h.next ∧ s.h.get h.next = some (.cells f.cells true 0) ∧ s.h.get (h.next + 2) = some (.cells x.cells true 0) ∧
      Cell29 (h.next + 3) (h.next + 1) s.h (if x.op = 21 ∨ x.op = 22 then putL f x.k else [])) ?_ ?_
  · have no : ∀ (e : Env), x.op ≠ 21 → x.op ≠ 22 → e 1 = .int .i64 j → e 5 = ptr (h.next + 1) 0 → e 6 = .func (.func 29) #[] #[ptr h.next 0, ptr (h.next + 1) 0] → e 7 = ptr (h.next + 2) 0 → ((some ([] : List Dfr) = some [] ∧ e 1 = .int .i64 j ∧ e 5 = ptr (h.next + 1) 0 ∧ e 6 = .func (.func 29) #[] #[ptr h.next 0, ptr (h.next + 1) 0] ∧ e 7 = ptr (h.next + 2) 0 ∧ Kept h h3 ∧ h.next + 3 ≤ h3.next ∧ h3.get h.next = some (.cells f.cells true 0) ∧ h3.get (h.next + 2) = some (.cells x.cells true 0) ∧
      Cell29 (h.next + 3) (h.next + 1) h3 (if x.op = 21 ∨ x.op = 22 then putL f x.k else []))) := by
      intro e a b c d q r
      refine ⟨rfl, c, d, q, r, hk03, by omega, g2, g7, ?_⟩
      rw [if_neg (by omega)]; exact hC0
    have yes : ∀ (e : Env), (x.op = 21 ∨ x.op = 22) → e 1 = .int .i64 j → e 5 = ptr (h.next + 1) 0 → e 6 = .func (.func 29) #[] #[ptr h.next 0, ptr (h.next + 1) 0] → e 7 = ptr (h.next + 2) 0 →
        Wc T (.ops [⟨(some 31), .op (.mov (.t 6)), none⟩, ⟨(some 32), .op (.faddr 4 (.t 7)), none⟩, ⟨(some 33), .op (.load none (.t 32)), none⟩, ⟨(some 34), .callv (.t 31) [(.t 33)], none⟩]) ⟨e, h3, some []⟩ (fun ex s => match ex with
          | .normal => s.d = some [] ∧ s.e 1 = .int .i64 j ∧ s.e 5 = ptr (h.next + 1) 0 ∧ s.e 6 = .func (.func 29) #[] #[ptr h.next 0, ptr (h.next + 1) 0] ∧ s.e 7 = ptr (h.next + 2) 0 ∧ Kept h s.h ∧ h.next + 3 ≤ s.h.next ∧ s.h.get h.next = some (.cells f.cells true 0) ∧ s.h.get (h.next + 2) = some (.cells x.cells true 0) ∧
            Cell29 (h.next + 3) (h.next + 1) s.h (if x.op = 21 ∨ x.op = 22 then putL f x.k else [])
          | _ => False) := by
      intro e hop c d q r
      refine Wc_ops (Wo_pre 3 (fun call => by simp only [List.take_succ_cons, List.take_zero, List.drop_succ_cons, List.drop_zero, iops_nil, iops_op, iops_grd, iK_some, iG_true, iG_false, gval_bool, beq_true, beq_false, Bool.not_true, Bool.not_false, iop, ev, upd, dstUpd, binV, binI, unV, ptr, Heap.cell, Heap.write, cellsOf, put, args0, partL, List.getD_cons_zero, List.getD_cons_succ, List.length_cons, List.length_nil, List.set_cons_zero, List.set_cons_succ, List.getElem?_cons_zero, List.getElem?_cons_succ, reduceIte, Nat.reduceEqDiff, Nat.reduceAdd, Nat.reduceMul, Nat.reduceLeDiff, Nat.zero_add, Nat.add_zero, Option.map_some, Int.reduceEq, Int.reduceLT, Int.reduceLE, Bool.false_eq_true, decide_true, decide_false, ge_iff_le, gt_iff_lt, set_get', q, r, g7, Ins.cells]; rfl) ?_)
      refine Wo_callv (c := .fn 29) (vs := [.int .i64 x.k, ptr h.next 0, ptr (h.next + 1) 0]) (by simp only [ev, upd, dstUpd, reduceIte, Nat.reduceEqDiff]; rfl) ?_
      refine (put29 h29 hfl ⟨pc, cc, hcv⟩ g2 hC0 (by omega) (by omega) (by omega) (by omega) (by simp)).mono fun o h4 ⟨u1, u2, u3, u4⟩ => ?_
      subst u1
      show Wo T _ _ _
      refine Wo_nil ?_
      refine ⟨rfl, by simp [upd, dstUpd, c], by simp [upd, dstUpd, d], by simp [upd, dstUpd, q], by simp [upd, dstUpd, r], ?_, by show h.next + 3 ≤ h4.next; omega, by show h4.get h.next = _; rw [u4 _ (by omega) (by omega)]; exact g2, by show h4.get (h.next + 2) = _; rw [u4 _ (by omega) (by omega)]; exact g7, ?_⟩
      · refine ⟨by show h.next ≤ h4.next; omega, fun b hb => ?_⟩
        show h4.get b = _
        rw [u4 b (by omega) (by omega), hk03.get b hb]
      · show Cell29 _ _ h4 _
        rw [if_pos hop]
        exact u2
    by_cases o21 : x.op = 21
    · have d21 : (x.op == 21) = true := by simpa using o21
      refine Wc_seq (Wc_ops (Wo_run (fun call => by simp only [List.drop_succ_cons, List.drop_zero, iops_nil, iops_op, iops_grd, iK_some, iG_true, iG_false, gval_bool, beq_true, beq_false, Bool.not_true, Bool.not_false, iop, ev, upd, dstUpd, binV, binI, unV, ptr, Heap.cell, Heap.write, cellsOf, put, args0, partL, List.getD_cons_zero, List.getD_cons_succ, List.length_cons, List.length_nil, List.set_cons_zero, List.set_cons_succ, List.getElem?_cons_zero, List.getElem?_cons_succ, reduceIte, Nat.reduceEqDiff, Nat.reduceAdd, Nat.reduceMul, Nat.reduceLeDiff, Nat.zero_add, Nat.add_zero, Option.map_some, Int.reduceEq, Int.reduceLT, Int.reduceLE, Bool.false_eq_true, decide_true, decide_false, ge_iff_le, gt_iff_lt, set_get', hn2, g7, Ins.cells, d21]; rfl) ?_))
      show Wc T _ _ _
      refine Wc_cond true (by simp [ev, upd, dstUpd]) (fun _ => ?_) (fun h => by cases h)
      refine (yes _ (.inl o21) (by simp [upd, dstUpd, args0]) (by simp [upd, dstUpd, ptr, hn]) (by simp [upd, dstUpd, ptr, hn, ev]) (by simp [upd, dstUpd, ptr, hn2])).mono fun ex s hq => ?_
      cases ex <;> first | exact hq | exact hq.elim
    have d21 : (x.op == 21) = false := by simpa using o21
    by_cases o22 : x.op = 22
    · have d22 : (x.op == 22) = true := by simpa using o22
      refine Wc_seq (Wc_ops (Wo_run (fun call => by simp only [List.drop_succ_cons, List.drop_zero, iops_nil, iops_op, iops_grd, iK_some, iG_true, iG_false, gval_bool, beq_true, beq_false, Bool.not_true, Bool.not_false, iop, ev, upd, dstUpd, binV, binI, unV, ptr, Heap.cell, Heap.write, cellsOf, put, args0, partL, List.getD_cons_zero, List.getD_cons_succ, List.length_cons, List.length_nil, List.set_cons_zero, List.set_cons_succ, List.getElem?_cons_zero, List.getElem?_cons_succ, reduceIte, Nat.reduceEqDiff, Nat.reduceAdd, Nat.reduceMul, Nat.reduceLeDiff, Nat.zero_add, Nat.add_zero, Option.map_some, Int.reduceEq, Int.reduceLT, Int.reduceLE, Bool.false_eq_true, decide_true, decide_false, ge_iff_le, gt_iff_lt, set_get', hn2, g7, Ins.cells, d21, d22]; rfl) ?_))
      show Wc T _ _ _
      refine Wc_cond true (by simp [ev, upd, dstUpd]) (fun _ => ?_) (fun h => by cases h)
      refine (yes _ (.inr o22) (by simp [upd, dstUpd, args0]) (by simp [upd, dstUpd, ptr, hn]) (by simp [upd, dstUpd, ptr, hn, ev]) (by simp [upd, dstUpd, ptr, hn2])).mono fun ex s hq => ?_
      cases ex <;> first | exact hq | exact hq.elim
    have d22 : (x.op == 22) = false := by simpa using o22
    refine Wc_seq (Wc_ops (Wo_run (fun call => by simp only [List.drop_succ_cons, List.drop_zero, iops_nil, iops_op, iops_grd, iK_some, iG_true, iG_false, gval_bool, beq_true, beq_false, Bool.not_true, Bool.not_false, iop, ev, upd, dstUpd, binV, binI, unV, ptr, Heap.cell, Heap.write, cellsOf, put, args0, partL, List.getD_cons_zero, List.getD_cons_succ, List.length_cons, List.length_nil, List.set_cons_zero, List.set_cons_succ, List.getElem?_cons_zero, List.getElem?_cons_succ, reduceIte, Nat.reduceEqDiff, Nat.reduceAdd, Nat.reduceMul, Nat.reduceLeDiff, Nat.zero_add, Nat.add_zero, Option.map_some, Int.reduceEq, Int.reduceLT, Int.reduceLE, Bool.false_eq_true, decide_true, decide_false, ge_iff_le, gt_iff_lt, set_get', hn2, g7, Ins.cells, d21, d22]; rfl) ?_))
    show Wc T _ _ _
    refine Wc_cond false (by simp [ev, upd, dstUpd]) (fun h => by cases h) (fun _ => Wc_skip ?_)
    exact no _ o21 o22 (by simp [upd, dstUpd, args0]) (by simp [upd, dstUpd, ptr, hn]) (by simp [upd, dstUpd, ptr, hn, ev]) (by simp [upd, dstUpd, ptr, hn2])
  clear hC0
  rintro ⟨e, h4, d⟩ ⟨hd, k1, k5, k6, k7, hk4, hn4, g2', g7'', hC⟩
  simp only at hd k1 k5 k6 k7 hk4 hn4 g2' g7'' hC
  subst hd
  generalize hA : (if x.op = 21 ∨ x.op = 22 then putL f x.k else []) = A at hC ⊢
  have hAl : A.length ≤ 1 := by
    rw [← hA]; split
    · exact putL_len _ _
    · simp
  refine Wc_mid (fun s => s.d = some [] ∧ s.e 5 = ptr (h.next + 1) 0 ∧ Kept h s.h ∧ h.next + 3 ≤ s.h.next ∧ Cell29 (h.next + 3) (h.next + 1) s.h (A ++ if x.op ≠ 21 ∧ x.op ≠ 24 ∧ x.op ≠ 25 then putL f ((j : Int) + 1) else [])) ?_ ?_
  · have no : ∀ (e' : Env), ¬ (x.op ≠ 21 ∧ x.op ≠ 24 ∧ x.op ≠ 25) → e' 5 = ptr (h.next + 1) 0 → (some ([] : List Dfr) = some [] ∧ e' 5 = ptr (h.next + 1) 0 ∧ Kept h h4 ∧ h.next + 3 ≤ h4.next ∧ Cell29 (h.next + 3) (h.next + 1) h4 (A ++ if x.op ≠ 21 ∧ x.op ≠ 24 ∧ x.op ≠ 25 then putL f ((j : Int) + 1) else [])) := by
      intro e' hop c
      refine ⟨rfl, c, hk4, hn4, ?_⟩
      rw [if_neg hop, List.append_nil]; exact hC
    by_cases o21 : x.op = 21
    · have d21 : (x.op != 21) = false := by simpa using o21
      refine Wc_seq (Wc_ops (Wo_run (fun call => by simp only [List.drop_succ_cons, List.drop_zero, iops_nil, iops_op, iops_grd, iK_some, iG_true, iG_false, gval_bool, beq_true, beq_false, Bool.not_true, Bool.not_false, iop, ev, upd, dstUpd, binV, binI, unV, ptr, Heap.cell, Heap.write, cellsOf, put, args0, partL, List.getD_cons_zero, List.getD_cons_succ, List.length_cons, List.length_nil, List.set_cons_zero, List.set_cons_succ, List.getElem?_cons_zero, List.getElem?_cons_succ, reduceIte, Nat.reduceEqDiff, Nat.reduceAdd, Nat.reduceMul, Nat.reduceLeDiff, Nat.zero_add, Nat.add_zero, Option.map_some, Int.reduceEq, Int.reduceLT, Int.reduceLE, Bool.false_eq_true, decide_true, decide_false, ge_iff_le, gt_iff_lt, set_get', k7, g7'', Ins.cells, d21]; rfl) ?_))
      show Wc T _ _ _
      refine Wc_cond false (by simp [ev, upd, dstUpd]) (fun h => by cases h) (fun _ => Wc_skip ?_)
      exact no _ (by simp [o21]) (by simp [upd, dstUpd, k5])
    have d21 : (x.op != 21) = true := by simpa using o21
    by_cases o24 : x.op = 24
    · have d24 : (x.op != 24) = false := by simpa using o24
      refine Wc_seq (Wc_ops (Wo_run (fun call => by simp only [List.drop_succ_cons, List.drop_zero, iops_nil, iops_op, iops_grd, iK_some, iG_true, iG_false, gval_bool, beq_true, beq_false, Bool.not_true, Bool.not_false, iop, ev, upd, dstUpd, binV, binI, unV, ptr, Heap.cell, Heap.write, cellsOf, put, args0, partL, List.getD_cons_zero, List.getD_cons_succ, List.length_cons, List.length_nil, List.set_cons_zero, List.set_cons_succ, List.getElem?_cons_zero, List.getElem?_cons_succ, reduceIte, Nat.reduceEqDiff, Nat.reduceAdd, Nat.reduceMul, Nat.reduceLeDiff, Nat.zero_add, Nat.add_zero, Option.map_some, Int.reduceEq, Int.reduceLT, Int.reduceLE, Bool.false_eq_true, decide_true, decide_false, ge_iff_le, gt_iff_lt, set_get', k7, g7'', Ins.cells, d21, d24]; rfl) ?_))
      show Wc T _ _ _
      refine Wc_cond false (by simp [ev, upd, dstUpd]) (fun h => by cases h) (fun _ => Wc_skip ?_)
      exact no _ (by simp [o24]) (by simp [upd, dstUpd, k5])
    have d24 : (x.op != 24) = true := by simpa using o24
    by_cases o25 : x.op = 25
    · have d25 : (x.op != 25) = false := by simpa using o25
      refine Wc_seq (Wc_ops (Wo_run (fun call => by simp only [List.drop_succ_cons, List.drop_zero, iops_nil, iops_op, iops_grd, iK_some, iG_true, iG_false, gval_bool, beq_true, beq_false, Bool.not_true, Bool.not_false, iop, ev, upd, dstUpd, binV, binI, unV, ptr, Heap.cell, Heap.write, cellsOf, put, args0, partL, List.getD_cons_zero, List.getD_cons_succ, List.length_cons, List.length_nil, List.set_cons_zero, List.set_cons_succ, List.getElem?_cons_zero, List.getElem?_cons_succ, reduceIte, Nat.reduceEqDiff, Nat.reduceAdd, Nat.reduceMul, Nat.reduceLeDiff, Nat.zero_add, Nat.add_zero, Option.map_some, Int.reduceEq, Int.reduceLT, Int.reduceLE, Bool.false_eq_true, decide_true, decide_false, ge_iff_le, gt_iff_lt, set_get', k7, g7'', Ins.cells, d21, d24, d25]; rfl) ?_))
      show Wc T _ _ _
      refine Wc_cond false (by simp [ev, upd, dstUpd]) (fun h => by cases h) (fun _ => Wc_skip ?_)
      exact no _ (by simp [o25]) (by simp [upd, dstUpd, k5])
    have d25 : (x.op != 25) = true := by simpa using o25
    refine Wc_seq (Wc_ops (Wo_run (fun call => by simp only [List.drop_succ_cons, List.drop_zero, iops_nil, iops_op, iops_grd, iK_some, iG_true, iG_false, gval_bool, beq_true, beq_false, Bool.not_true, Bool.not_false, iop, ev, upd, dstUpd, binV, binI, unV, ptr, Heap.cell, Heap.write, cellsOf, put, args0, partL, List.getD_cons_zero, List.getD_cons_succ, List.length_cons, List.length_nil, List.set_cons_zero, List.set_cons_succ, List.getElem?_cons_zero, List.getElem?_cons_succ, reduceIte, Nat.reduceEqDiff, Nat.reduceAdd, Nat.reduceMul, Nat.reduceLeDiff, Nat.zero_add, Nat.add_zero, Option.map_some, Int.reduceEq, Int.reduceLT, Int.reduceLE, Bool.false_eq_true, decide_true, decide_false, ge_iff_le, gt_iff_lt, set_get', k7, g7'', Ins.cells, d21, d24, d25]; rfl) ?_))
    show Wc T _ _ _
    refine Wc_cond true (by simp [ev, upd, dstUpd]) (fun _ => ?_) (fun h => by cases h)
    refine Wc_ops (Wo_pre 3 (fun call => by simp only [List.take_succ_cons, List.take_zero, List.drop_succ_cons, List.drop_zero, iops_nil, iops_op, iops_grd, iK_some, iG_true, iG_false, gval_bool, beq_true, beq_false, Bool.not_true, Bool.not_false, iop, ev, upd, dstUpd, binV, binI, unV, ptr, Heap.cell, Heap.write, cellsOf, put, args0, partL, List.getD_cons_zero, List.getD_cons_succ, List.length_cons, List.length_nil, List.set_cons_zero, List.set_cons_succ, List.getElem?_cons_zero, List.getElem?_cons_succ, reduceIte, Nat.reduceEqDiff, Nat.reduceAdd, Nat.reduceMul, Nat.reduceLeDiff, Nat.zero_add, Nat.add_zero, Option.map_some, Int.reduceEq, Int.reduceLT, Int.reduceLE, Bool.false_eq_true, decide_true, decide_false, ge_iff_le, gt_iff_lt, set_get', k6, k1, e1']; rfl) ?_)
    refine Wo_callv (c := .fn 29) (vs := [.int .i64 ((j : Int) + 1), ptr h.next 0, ptr (h.next + 1) 0]) (by simp only [ev, upd, dstUpd, reduceIte, Nat.reduceEqDiff]; rfl) ?_
    refine (put29 h29 hfl ⟨pc, cc, hcv⟩ g2' hC (by omega) (by omega) (by omega) (by omega) (by omega)).mono fun o h5 ⟨u1, u2, u3, u4⟩ => ?_
    subst u1
    show Wo T _ _ _
    refine Wo_nil ?_
    refine ⟨rfl, by simp [upd, dstUpd, k5], ?_, by show h.next + 3 ≤ h5.next; omega, ?_⟩
    · refine ⟨by show h.next ≤ h5.next; omega, fun b hb => ?_⟩
      show h5.get b = _
      rw [u4 b (by omega) (by omega), hk4.get b hb]
    · show Cell29 _ _ h5 _
      rw [if_pos ⟨o21, o24, o25⟩]
      exact u2
  clear k1 k5 k6 k7 hk4 hn4 g2' g7'' hC
  rintro ⟨e', h5, d⟩ ⟨hd, k5, hk5, hn5, hC⟩
  simp only at hd k5 hk5 hn5 hC
  subst hd
  generalize hL : (A ++ if x.op ≠ 21 ∧ x.op ≠ 24 ∧ x.op ≠ 25 then putL f ((j : Int) + 1) else []) = L at hC ⊢
  have hLl : L.length ≤ 2 := by
    rw [← hL, List.length_append]
    have : (if x.op ≠ 21 ∧ x.op ≠ 24 ∧ x.op ≠ 25 then putL f ((j : Int) + 1) else []).length ≤ 1 := by
      split
      · exact putL_len _ _
      · simp
    omega
  obtain ⟨v, hgl, ho⟩ := hC.ex
  refine Wc_seq (Wc_ops (Wo_pre 1 (fun call => by simp only [List.take_succ_cons, List.take_zero, List.drop_succ_cons, List.drop_zero, iops_nil, iops_op, iops_grd, iK_some, iG_true, iG_false, gval_bool, beq_true, beq_false, Bool.not_true, Bool.not_false, iop, ev, upd, dstUpd, binV, binI, unV, ptr, Heap.cell, Heap.write, cellsOf, put, args0, partL, List.getD_cons_zero, List.getD_cons_succ, List.length_cons, List.length_nil, List.set_cons_zero, List.set_cons_succ, List.getElem?_cons_zero, List.getElem?_cons_succ, reduceIte, Nat.reduceEqDiff, Nat.reduceAdd, Nat.reduceMul, Nat.reduceLeDiff, Nat.zero_add, Nat.add_zero, Option.map_some, Int.reduceEq, Int.reduceLT, Int.reduceLE, Bool.false_eq_true, decide_true, decide_false, ge_iff_le, gt_iff_lt, set_get', k5, hgl]; rfl) ?_))
  refine Wo_call ?_
  show Wk T (.fn 30) [v] h5 _
  refine (sort30 h30 h44 h43 h48 h54 h65 hLl ho).mono fun o h6 ⟨u1, u2, u3⟩ => ?_
  subst u1
  show Wo T _ _ _
  refine Wo_nil ?_
  show Wc T _ _ _
  have hgl6 : h6.get (h.next + 1) = some (.cells [v] true 0) := by rw [u2.at ho (by omega) (by omega)]; exact hgl
  refine Wc_seq (Wc_ops (Wo_pre 1 (fun call => by simp only [List.take_succ_cons, List.take_zero, List.drop_succ_cons, List.drop_zero, iops_nil, iops_op, iops_grd, iK_some, iG_true, iG_false, gval_bool, beq_true, beq_false, Bool.not_true, Bool.not_false, iop, ev, upd, dstUpd, binV, binI, unV, ptr, Heap.cell, Heap.write, cellsOf, put, args0, partL, List.getD_cons_zero, List.getD_cons_succ, List.length_cons, List.length_nil, List.set_cons_zero, List.set_cons_succ, List.getElem?_cons_zero, List.getElem?_cons_succ, reduceIte, Nat.reduceEqDiff, Nat.reduceAdd, Nat.reduceMul, Nat.reduceLeDiff, Nat.zero_add, Nat.add_zero, Option.map_some, Int.reduceEq, Int.reduceLT, Int.reduceLE, Bool.false_eq_true, decide_true, decide_false, ge_iff_le, gt_iff_lt, set_get', k5, hgl6]; rfl) ?_))
  refine Wo_call ?_
  show Wk T (.fn 31) [v] h6 _
  refine (compact31 h31 (by rw [srt_len]; exact hLl) u3).mono fun o h7 ⟨w1, v', w2, w3⟩ => ?_
  subst w2
  show Wo T _ _ _
  refine (Wo_run (fun call => by simp only [List.drop_succ_cons, List.drop_zero, iops_nil, iops_op, iops_grd, iK_some, iG_true, iG_false, gval_bool, beq_true, beq_false, Bool.not_true, Bool.not_false, iop, ev, upd, dstUpd, binV, binI, unV, ptr, Heap.cell, Heap.write, cellsOf, put, args0, partL, List.getD_cons_zero, List.getD_cons_succ, List.length_cons, List.length_nil, List.set_cons_zero, List.set_cons_succ, List.getElem?_cons_zero, List.getElem?_cons_succ, reduceIte, Nat.reduceEqDiff, Nat.reduceAdd, Nat.reduceMul, Nat.reduceLeDiff, Nat.zero_add, Nat.add_zero, Option.map_some, Int.reduceEq, Int.reduceLT, Int.reduceLE, Bool.false_eq_true, decide_true, decide_false, ge_iff_le, gt_iff_lt, set_get']; rfl) ?_)
  refine Wc_ret ⟨.inr rfl, rfl, [v'], by simp [resAll, resV, upd, dstUpd], ?_, v', rfl, w3⟩
  have q6 : Kept h h6 := u2.kept ho (by omega) hk5
  exact w1.kept u3 (by omega) q6

end Go.Idl
end

section
/- The reference's Next; the law. -/
namespace Go.Idl
set_option linter.unusedVariables false
set_option linter.unusedSimpArgs false
set_option maxRecDepth 100000
open Go.Proofs

def tgt (x : Ins) (j : Nat) : List Int :=
  if x.op = 21 then [x.k] else if x.op = 22 then (if x.k = (j : Int) + 1 then [(j : Int) + 1] else if x.k ≤ j then [x.k, (j : Int) + 1] else [(j : Int) + 1, x.k]) else if x.op = 24 ∨ x.op = 25 then [] else [(j : Int) + 1]
theorem tgt_len (x : Ins) (j : Nat) : (tgt x j).length ≤ 2 := by
  unfold tgt; repeat' split
  all_goals simp

def nextR (f : Fn) (at' : Int) : List Int :=
  if at' < 0 ∨ (f.code.length : Int) ≤ at' then [] else match f.code[at'.toNat]? with
    | none => []
    | some x => (tgt x at'.toNat).flatMap (putL f)

theorem short_id {l : List Int} (h : l.length ≤ 1) : cmpt (srt l) = l := by
  match l, h with
  | [], _ => rfl
  | [_], _ => rfl

theorem next_eq (f : Fn) (at' : Int) : nextI f at' = nextR f at' := by
  unfold nextI nextR
  by_cases h0 : at' < 0 ∨ (f.code.length : Int) ≤ at'
  · rw [if_pos h0, if_pos h0]
  rw [if_neg h0, if_neg h0]
  cases f.code[at'.toNat]? with
  | none => rfl
  | some x =>
    obtain ⟨j, rfl⟩ : ∃ j : Nat, at' = j := ⟨at'.toNat, by omega⟩
    simp only [Int.toNat_natCast]
    unfold tgt
    by_cases o21 : x.op = 21
    · rw [if_pos (Or.inl o21), if_pos o21, if_neg (by omega), List.append_nil, short_id (putL_len _ _)]
      simp
    by_cases o22 : x.op = 22
    · rw [if_pos (Or.inr o22), if_pos (by omega), if_neg o21, if_pos o22]
      by_cases e1 : x.k = (j : Int) + 1
      · rw [if_pos e1, e1]
        by_cases hp : 0 ≤ (j : Int) + 1 ∧ (j : Int) + 1 < f.code.length
        · simp [putL, hp, srt, cmpt]
        · simp [putL, hp, srt, cmpt]
      rw [if_neg e1]
      by_cases e2 : x.k ≤ j
      · rw [if_pos e2]
        by_cases hp : 0 ≤ (j : Int) + 1 ∧ (j : Int) + 1 < f.code.length <;> by_cases hq : 0 ≤ x.k ∧ x.k < (f.code.length : Int)
        · simp only [putL, if_pos hp, if_pos hq, List.flatMap_cons, List.flatMap_nil, List.append_nil, List.cons_append, List.nil_append, srt]
          rw [if_neg (by omega)]
          simp only [cmpt]
          rw [if_neg (by omega)]
        · simp [putL, hp, hq, srt, cmpt]
        · simp [putL, hp, hq, srt, cmpt]
        · simp [putL, hp, hq, srt, cmpt]
      · rw [if_neg e2]
        by_cases hp : 0 ≤ (j : Int) + 1 ∧ (j : Int) + 1 < f.code.length <;> by_cases hq : 0 ≤ x.k ∧ x.k < (f.code.length : Int)
        · simp only [putL, if_pos hp, if_pos hq, List.flatMap_cons, List.flatMap_nil, List.append_nil, List.cons_append, List.nil_append, srt]
          rw [if_pos (by omega)]
          simp only [cmpt]
          rw [if_neg (by omega)]
        · simp [putL, hp, hq, srt, cmpt]
        · simp [putL, hp, hq, srt, cmpt]
        · simp [putL, hp, hq, srt, cmpt]
    rw [if_neg (by omega), if_neg o21, if_neg o22, List.nil_append]
    by_cases o2 : x.op = 24 ∨ x.op = 25
    · rw [if_neg (by omega), if_pos o2]
      rfl
    · rw [if_pos (by omega), if_neg o2, short_id (putL_len _ _)]
      simp

theorem nextR_len (f : Fn) (at' : Int) : (nextR f at').length < 4611686018427387904 := by
  have : ∀ l : List Int, (l.flatMap (putL f)).length ≤ l.length := by
    intro l
    induction l with
    | nil => simp
    | cons a l ih => rw [List.flatMap_cons, List.length_append, List.length_cons]; have := putL_len f a; omega
  unfold nextR
  split
  · simp
  · split
    · simp
    · rename_i x _
      have h1 := this (tgt x at'.toNat)
      have h2 := tgt_len x at'.toNat
      omega

theorem take_flatI {α β : Type} {l : List α} {k : Nat} {c : α} (f : α → List β) (h : l[k]? = some c) : (l.take (k + 1)).flatMap f = (l.take k).flatMap f ++ f c := by
  rw [List.take_add_one, h]
  simp

/-- Two numbers in a row that is new. -/
theorem rd_lit {h hp : Heap} {b n c : Nat} {cs : List Value} {l : List Int} {o : Bool} {z : Nat} (hl : l.length = n) (hb : b < hp.next) (hg : hp.get b = some (.cells cs o z)) (hc : ∀ (i : Nat) (k : Int), l[i]? = some k → cs[i]? = some (.int .i64 k)) : intRd hp (.slice (some ⟨b, 0, none⟩) n c) l := by
  subst hl
  exact ⟨⟨_, _, rfl⟩, fun i k hi => ⟨b, c, cs, o, z, rfl, hb, hg, hc i k hi⟩⟩

theorem next17 {T : Tbl} (hT : T.fn 17 = some C17) {h : Heap} {f : Fn} {at' : Int} (hf : f.Ok h) : Wk T (.fn 17) [.agg f.cells.toArray, .int .i64 at'] h (fun o h' => Kept h h' ∧ ∃ v', o = .ret v' ∧ intRd h' v' (nextR f at')) := by
  obtain ⟨pc, cc, hcv⟩ := hf.code.len
  have hfl := hf.len
  refine Wk_fn hT (by simp [C17]) ?_
  simp only [C17]
  have hbx : iop (.box (.t 0)) (args0 [.agg f.cells.toArray, .int .i64 at']) h = some (ptr h.next 0, h.new (.cells f.cells true 0)) := by simp [iop, ev, args0, cellsOf]
  refine Wc_seq (Wc_ops (Wo_op hbx (Wo_run (fun call => by simp only [List.drop_succ_cons, List.drop_zero, iops_nil, iops_op, iops_grd, iK_some, iG_true, iG_false, gval_bool, beq_true, beq_false, Bool.not_true, Bool.not_false, iop, ev, upd, dstUpd, binV, binI, unV, ptr, Heap.cell, Heap.write, cellsOf, put, args0, partL, List.getD_cons_zero, List.getD_cons_succ, List.length_cons, List.length_nil, List.set_cons_zero, List.set_cons_succ, List.getElem?_cons_zero, List.getElem?_cons_succ, reduceIte, Nat.reduceEqDiff, Nat.reduceAdd, Nat.reduceMul, Nat.reduceLeDiff, Nat.zero_add, Nat.add_zero, Option.map_some, Int.reduceEq, Int.reduceLT, Int.reduceLE, Bool.false_eq_true, decide_true, decide_false, ge_iff_le, gt_iff_lt, set_get']; rfl) ?_)))
  show Wc T _ _ _
  have hg : (h.new (.cells f.cells true 0)).get h.next = some (.cells f.cells true 0) := new_get' _ _
  have hk : Kept h (h.new (.cells f.cells true 0)) := (Kept.refl h).new _
  have hn : (h.new (.cells f.cells true 0)).next = h.next + 1 := rfl
  generalize h.new (.cells f.cells true 0) = h1 at hg hk hn ⊢
  have nil : ∀ (e : Env), e 4 = .slice none 0 0 → nextR f at' = [] → ((Ex.ret = .normal ∨ Ex.ret = .ret) ∧ some ([] : List Dfr) = some [] ∧ ∃ vs, resAll e h1 [.tmp 4] = some vs ∧ Kept h h1 ∧ ∃ v', Out.ret (tup vs) = .ret v' ∧ intRd h1 v' (nextR f at')) := by
    intro e h4 hn'
    refine ⟨.inr rfl, rfl, [.slice none 0 0], by simp only [resAll, resV, h4], hk, _, rfl, ?_⟩
    rw [hn']
    exact intsAt.rd (.inl ⟨rfl, rfl⟩)
  by_cases q0 : at' < 0
  · have z0 : decide (at' < 0) = true := by simpa using q0
    refine Wc_seq (Wc_seq (Wc_ops (Wo_run (fun call => by simp only [List.drop_succ_cons, List.drop_zero, iops_nil, iops_op, iops_grd, iK_some, iG_true, iG_false, gval_bool, beq_true, beq_false, Bool.not_true, Bool.not_false, iop, ev, upd, dstUpd, binV, binI, unV, ptr, Heap.cell, Heap.write, cellsOf, put, args0, partL, List.getD_cons_zero, List.getD_cons_succ, List.length_cons, List.length_nil, List.set_cons_zero, List.set_cons_succ, List.getElem?_cons_zero, List.getElem?_cons_succ, reduceIte, Nat.reduceEqDiff, Nat.reduceAdd, Nat.reduceMul, Nat.reduceLeDiff, Nat.zero_add, Nat.add_zero, Option.map_some, Int.reduceEq, Int.reduceLT, Int.reduceLE, Bool.false_eq_true, decide_true, decide_false, ge_iff_le, gt_iff_lt, set_get', z0]; rfl) ?_)))
    show Wc T _ _ _
    refine Wc_cond true (by simp [ev, upd, dstUpd]) (fun _ => ?_) (fun h => by cases h)
    refine Wc_seq (Wc_ops (Wo_run (fun call => by simp only [List.drop_succ_cons, List.drop_zero, iops_nil, iops_op, iops_grd, iK_some, iG_true, iG_false, gval_bool, beq_true, beq_false, Bool.not_true, Bool.not_false, iop, ev, upd, dstUpd, binV, binI, unV, ptr, Heap.cell, Heap.write, cellsOf, put, args0, partL, List.getD_cons_zero, List.getD_cons_succ, List.length_cons, List.length_nil, List.set_cons_zero, List.set_cons_succ, List.getElem?_cons_zero, List.getElem?_cons_succ, reduceIte, Nat.reduceEqDiff, Nat.reduceAdd, Nat.reduceMul, Nat.reduceLeDiff, Nat.zero_add, Nat.add_zero, Option.map_some, Int.reduceEq, Int.reduceLT, Int.reduceLE, Bool.false_eq_true, decide_true, decide_false, ge_iff_le, gt_iff_lt, set_get']; rfl) ?_))
    exact Wc_ret (nil _ (by simp [upd, dstUpd]) (by simp only [nextR, if_pos (Or.inl q0)]))
  have p0 : decide (at' < 0) = false := by simpa using q0
  by_cases q1 : (f.code.length : Int) ≤ at'
  · have z1 : decide ((f.code.length : Int) ≤ at') = true := by simpa using q1
    refine Wc_seq (Wc_seq (Wc_ops (Wo_run (fun call => by simp only [List.drop_succ_cons, List.drop_zero, iops_nil, iops_op, iops_grd, iK_some, iG_true, iG_false, gval_bool, beq_true, beq_false, Bool.not_true, Bool.not_false, iop, ev, upd, dstUpd, binV, binI, unV, ptr, Heap.cell, Heap.write, cellsOf, put, args0, partL, List.getD_cons_zero, List.getD_cons_succ, List.length_cons, List.length_nil, List.set_cons_zero, List.set_cons_succ, List.getElem?_cons_zero, List.getElem?_cons_succ, reduceIte, Nat.reduceEqDiff, Nat.reduceAdd, Nat.reduceMul, Nat.reduceLeDiff, Nat.zero_add, Nat.add_zero, Option.map_some, Int.reduceEq, Int.reduceLT, Int.reduceLE, Bool.false_eq_true, decide_true, decide_false, ge_iff_le, gt_iff_lt, set_get', p0, z1, hg, Fn.cells, hcv]; rfl) ?_)))
    show Wc T _ _ _
    refine Wc_cond true (by simp [ev, upd, dstUpd]) (fun _ => ?_) (fun h => by cases h)
    refine Wc_seq (Wc_ops (Wo_run (fun call => by simp only [List.drop_succ_cons, List.drop_zero, iops_nil, iops_op, iops_grd, iK_some, iG_true, iG_false, gval_bool, beq_true, beq_false, Bool.not_true, Bool.not_false, iop, ev, upd, dstUpd, binV, binI, unV, ptr, Heap.cell, Heap.write, cellsOf, put, args0, partL, List.getD_cons_zero, List.getD_cons_succ, List.length_cons, List.length_nil, List.set_cons_zero, List.set_cons_succ, List.getElem?_cons_zero, List.getElem?_cons_succ, reduceIte, Nat.reduceEqDiff, Nat.reduceAdd, Nat.reduceMul, Nat.reduceLeDiff, Nat.zero_add, Nat.add_zero, Option.map_some, Int.reduceEq, Int.reduceLT, Int.reduceLE, Bool.false_eq_true, decide_true, decide_false, ge_iff_le, gt_iff_lt, set_get']; rfl) ?_))
    exact Wc_ret (nil _ (by simp [upd, dstUpd]) (by simp only [nextR, if_pos (Or.inr q1)]))
  have p1 : decide ((f.code.length : Int) ≤ at') = false := by simpa using q1
  clear nil
  refine Wc_seq (Wc_seq (Wc_ops (Wo_run (fun call => by simp only [List.drop_succ_cons, List.drop_zero, iops_nil, iops_op, iops_grd, iK_some, iG_true, iG_false, gval_bool, beq_true, beq_false, Bool.not_true, Bool.not_false, iop, ev, upd, dstUpd, binV, binI, unV, ptr, Heap.cell, Heap.write, cellsOf, put, args0, partL, List.getD_cons_zero, List.getD_cons_succ, List.length_cons, List.length_nil, List.set_cons_zero, List.set_cons_succ, List.getElem?_cons_zero, List.getElem?_cons_succ, reduceIte, Nat.reduceEqDiff, Nat.reduceAdd, Nat.reduceMul, Nat.reduceLeDiff, Nat.zero_add, Nat.add_zero, Option.map_some, Int.reduceEq, Int.reduceLT, Int.reduceLE, Bool.false_eq_true, decide_true, decide_false, ge_iff_le, gt_iff_lt, set_get', p0, p1, hg, Fn.cells, hcv]; rfl) ?_)))
  show Wc T _ _ _
  refine Wc_cond false (by simp [ev, upd, dstUpd]) (fun h => by cases h) (fun _ => Wc_skip ?_)
  show Wc T _ _ _
  obtain ⟨j, rfl⟩ : ∃ j : Nat, at' = j := ⟨at'.toNat, by omega⟩
  have hjl : j < f.code.length := by omega
  obtain ⟨x, hx⟩ : ∃ x, f.code[j]? = some x := ⟨_, List.getElem?_eq_getElem hjl⟩
  have hspec : nextR f j = (tgt x j).flatMap (putL f) := by
    simp only [nextR]
    rw [if_neg (by omega)]
    simp only [Int.toNat_natCast, hx]
  rw [hspec]
  obtain ⟨bx, cx, hva, hbx', _, hcx, hxin⟩ := ((hf.keep hk).code).load insCells_len hx
  refine Wc_seq (Wc_ops (Wo_pre 3 (fun call => by simp only [List.take_succ_cons, List.take_zero, List.drop_succ_cons, List.drop_zero, iops_nil, iops_op, iops_grd, iK_some, iG_true, iG_false, gval_bool, beq_true, beq_false, Bool.not_true, Bool.not_false, iop, ev, upd, dstUpd, binV, binI, unV, ptr, Heap.cell, Heap.write, cellsOf, put, args0, partL, List.getD_cons_zero, List.getD_cons_succ, List.length_cons, List.length_nil, List.set_cons_zero, List.set_cons_succ, List.getElem?_cons_zero, List.getElem?_cons_succ, reduceIte, Nat.reduceEqDiff, Nat.reduceAdd, Nat.reduceMul, Nat.reduceLeDiff, Nat.zero_add, Nat.add_zero, Option.map_some, Int.reduceEq, Int.reduceLT, Int.reduceLE, Bool.false_eq_true, decide_true, decide_false, ge_iff_le, gt_iff_lt, set_get', hg, Fn.cells]; rfl) ?_))
  refine Wo_op (iop_iaddr (b := bx) (len := f.code.length) (c := cx) (i := j) (by simp only [upd, dstUpd, reduceIte, Nat.reduceEqDiff]; exact hva) (by simp only [upd, dstUpd, reduceIte, Nat.reduceEqDiff, args0, List.getD_cons_succ, List.getD_cons_zero]) hjl) (Wo_op (iop_load (b := bx) (o := j * 6) (cs := x.cells) (by simp only [upd, dstUpd, reduceIte, Nat.reduceEqDiff]) hcx) (Wo_op rfl (Wo_op (iop_store (b := h1.next) (esz := 0) (cs := x.cells) (z := [(.int .i64 0), (.int .i64 0), (.int .i64 0), (.int .i64 0), (.int .i64 0), (.slice none 0 0)]) (by simp only [upd, dstUpd, reduceIte, Nat.reduceEqDiff]) (by simp only [upd, dstUpd, reduceIte, Nat.reduceEqDiff]) rfl (new_get' _ _) rfl) (Wo_nil ?_))))
  show Wc T _ _ _
  have hk3 : Kept h1 ((h1.new (.cells [(.int .i64 0), (.int .i64 0), (.int .i64 0), (.int .i64 0), (.int .i64 0), (.slice none 0 0)] true 0)).set h1.next (.cells x.cells true 0)) := ((Kept.refl h1).new _).set (Nat.le_refl _) _
  have g5 : ((h1.new (.cells [(.int .i64 0), (.int .i64 0), (.int .i64 0), (.int .i64 0), (.int .i64 0), (.slice none 0 0)] true 0)).set h1.next (.cells x.cells true 0)).get h1.next = some (.cells x.cells true 0) := set_get' _ _ _
  have hn3 : ((h1.new (.cells [(.int .i64 0), (.int .i64 0), (.int .i64 0), (.int .i64 0), (.int .i64 0), (.slice none 0 0)] true 0)).set h1.next (.cells x.cells true 0)).next = h.next + 2 := by rw [set_next, new_next, hn]
  generalize (h1.new (.cells [(.int .i64 0), (.int .i64 0), (.int .i64 0), (.int .i64 0), (.int .i64 0), (.slice none 0 0)] true 0)).set h1.next (.cells x.cells true 0) = h3 at hk3 g5 hn3 ⊢
  rw [hn] at g5
  have g2 : h3.get h.next = some (.cells f.cells true 0) := by rw [hk3.get _ (by omega)]; exact hg
  have hk03 : Kept h h3 := hk.trans hk3
  have e1' : IntKind.i64.wrap ((j : Int) + 1) = (j : Int) + 1 := by
    unfold maxLen at hfl
    rw [wrap64] <;> omega
  refine Wc_seq (Wc_ops (Wo_run (fun call => by simp only [List.drop_succ_cons, List.drop_zero, iops_nil, iops_op, iops_grd, iK_some, iG_true, iG_false, gval_bool, beq_true, beq_false, Bool.not_true, Bool.not_false, iop, ev, upd, dstUpd, binV, binI, unV, ptr, Heap.cell, Heap.write, cellsOf, put, args0, partL, List.getD_cons_zero, List.getD_cons_succ, List.length_cons, List.length_nil, List.set_cons_zero, List.set_cons_succ, List.getElem?_cons_zero, List.getElem?_cons_succ, reduceIte, Nat.reduceEqDiff, Nat.reduceAdd, Nat.reduceMul, Nat.reduceLeDiff, Nat.zero_add, Nat.add_zero, Option.map_some, Int.reduceEq, Int.reduceLT, Int.reduceLE, Bool.false_eq_true, decide_true, decide_false, ge_iff_le, gt_iff_lt, set_get']; rfl) ?_))
  show Wc T _ _ _
  -- where it may go
  refine Wc_mid (fun s => s.d = some [] ∧ s.e 2 = ptr h.next 0 ∧ Kept h3 s.h ∧ intRd s.h (s.e 6) (tgt x j)) ?_ ?_
  · refine Wc_seq (Wc_ops (Wo_run (fun call => by simp only [List.drop_succ_cons, List.drop_zero, iops_nil, iops_op, iops_grd, iK_some, iG_true, iG_false, gval_bool, beq_true, beq_false, Bool.not_true, Bool.not_false, iop, ev, upd, dstUpd, binV, binI, unV, ptr, Heap.cell, Heap.write, cellsOf, put, args0, partL, List.getD_cons_zero, List.getD_cons_succ, List.length_cons, List.length_nil, List.set_cons_zero, List.set_cons_succ, List.getElem?_cons_zero, List.getElem?_cons_succ, reduceIte, Nat.reduceEqDiff, Nat.reduceAdd, Nat.reduceMul, Nat.reduceLeDiff, Nat.zero_add, Nat.add_zero, Option.map_some, Int.reduceEq, Int.reduceLT, Int.reduceLE, Bool.false_eq_true, decide_true, decide_false, ge_iff_le, gt_iff_lt, set_get', hn, g5, Ins.cells]; rfl) ?_))
    show Wc T _ _ _
    by_cases o21 : x.op = 21
    · have d21 : (x.op == 21) = true := by simpa using o21
      refine Wc_block (Wc_seq (Wc_ops (Wo_run (fun call => by simp only [List.drop_succ_cons, List.drop_zero, iops_nil, iops_op, iops_grd, iK_some, iG_true, iG_false, gval_bool, beq_true, beq_false, Bool.not_true, Bool.not_false, iop, ev, upd, dstUpd, binV, binI, unV, ptr, Heap.cell, Heap.write, cellsOf, put, args0, partL, List.getD_cons_zero, List.getD_cons_succ, List.length_cons, List.length_nil, List.set_cons_zero, List.set_cons_succ, List.getElem?_cons_zero, List.getElem?_cons_succ, reduceIte, Nat.reduceEqDiff, Nat.reduceAdd, Nat.reduceMul, Nat.reduceLeDiff, Nat.zero_add, Nat.add_zero, Option.map_some, Int.reduceEq, Int.reduceLT, Int.reduceLE, Bool.false_eq_true, decide_true, decide_false, ge_iff_le, gt_iff_lt, set_get', d21]; rfl) ?_)))
      show Wc T _ _ _
      refine Wc_cond true (by simp [ev, upd, dstUpd]) (fun _ => ?_) (fun h => by cases h)
      refine Wc_ops (Wo_run (fun call => by simp only [List.drop_succ_cons, List.drop_zero, iops_nil, iops_op, iops_grd, iK_some, iG_true, iG_false, gval_bool, beq_true, beq_false, Bool.not_true, Bool.not_false, iop, ev, upd, dstUpd, binV, binI, unV, ptr, Heap.cell, Heap.write, cellsOf, put, args0, partL, List.getD_cons_zero, List.getD_cons_succ, List.length_cons, List.length_nil, List.set_cons_zero, List.set_cons_succ, List.getElem?_cons_zero, List.getElem?_cons_succ, reduceIte, Nat.reduceEqDiff, Nat.reduceAdd, Nat.reduceMul, Nat.reduceLeDiff, Nat.zero_add, Nat.add_zero, Option.map_some, Int.reduceEq, Int.reduceLT, Int.reduceLE, Bool.false_eq_true, decide_true, decide_false, ge_iff_le, gt_iff_lt, set_get', hn, g5, Ins.cells, evps, List.map_cons, List.map_nil, fillL, List.flatten, List.replicate, Nat.le_refl, and_self]; rfl) ?_)
      refine ⟨rfl, by simp [upd, dstUpd, ptr], (Kept.refl h3).new _, ?_⟩
      simp only [upd, dstUpd, reduceIte, Nat.reduceEqDiff, tgt, if_pos o21]
      refine rd_lit (h := h) rfl (Nat.lt_succ_self _) (new_get' _ _) fun i k hi => ?_
      match i, hi with
      | 0, hi => cases hi; rfl
      | i + 1, hi => simp at hi
    have d21 : (x.op == 21) = false := by simpa using o21
    refine Wc_block (Wc_seq (Wc_ops (Wo_run (fun call => by simp only [List.drop_succ_cons, List.drop_zero, iops_nil, iops_op, iops_grd, iK_some, iG_true, iG_false, gval_bool, beq_true, beq_false, Bool.not_true, Bool.not_false, iop, ev, upd, dstUpd, binV, binI, unV, ptr, Heap.cell, Heap.write, cellsOf, put, args0, partL, List.getD_cons_zero, List.getD_cons_succ, List.length_cons, List.length_nil, List.set_cons_zero, List.set_cons_succ, List.getElem?_cons_zero, List.getElem?_cons_succ, reduceIte, Nat.reduceEqDiff, Nat.reduceAdd, Nat.reduceMul, Nat.reduceLeDiff, Nat.zero_add, Nat.add_zero, Option.map_some, Int.reduceEq, Int.reduceLT, Int.reduceLE, Bool.false_eq_true, decide_true, decide_false, ge_iff_le, gt_iff_lt, set_get', d21]; rfl) ?_)))
    show Wc T _ _ _
    refine Wc_cond false (by simp [ev, upd, dstUpd]) (fun h => by cases h) (fun _ => ?_)
    by_cases o22 : x.op = 22
    · have d22 : (x.op == 22) = true := by simpa using o22
      refine Wc_seq (Wc_ops (Wo_run (fun call => by simp only [List.drop_succ_cons, List.drop_zero, iops_nil, iops_op, iops_grd, iK_some, iG_true, iG_false, gval_bool, beq_true, beq_false, Bool.not_true, Bool.not_false, iop, ev, upd, dstUpd, binV, binI, unV, ptr, Heap.cell, Heap.write, cellsOf, put, args0, partL, List.getD_cons_zero, List.getD_cons_succ, List.length_cons, List.length_nil, List.set_cons_zero, List.set_cons_succ, List.getElem?_cons_zero, List.getElem?_cons_succ, reduceIte, Nat.reduceEqDiff, Nat.reduceAdd, Nat.reduceMul, Nat.reduceLeDiff, Nat.zero_add, Nat.add_zero, Option.map_some, Int.reduceEq, Int.reduceLT, Int.reduceLE, Bool.false_eq_true, decide_true, decide_false, ge_iff_le, gt_iff_lt, set_get', d22]; rfl) ?_))
      show Wc T _ _ _
      refine Wc_cond true (by simp [ev, upd, dstUpd]) (fun _ => ?_) (fun h => by cases h)
      refine Wc_seq (Wc_ops (Wo_run (fun call => by simp only [List.drop_succ_cons, List.drop_zero, iops_nil, iops_op, iops_grd, iK_some, iG_true, iG_false, gval_bool, beq_true, beq_false, Bool.not_true, Bool.not_false, iop, ev, upd, dstUpd, binV, binI, unV, ptr, Heap.cell, Heap.write, cellsOf, put, args0, partL, List.getD_cons_zero, List.getD_cons_succ, List.length_cons, List.length_nil, List.set_cons_zero, List.set_cons_succ, List.getElem?_cons_zero, List.getElem?_cons_succ, reduceIte, Nat.reduceEqDiff, Nat.reduceAdd, Nat.reduceMul, Nat.reduceLeDiff, Nat.zero_add, Nat.add_zero, Option.map_some, Int.reduceEq, Int.reduceLT, Int.reduceLE, Bool.false_eq_true, decide_true, decide_false, ge_iff_le, gt_iff_lt, set_get', hn, g5, Ins.cells, evps, List.map_cons, List.map_nil, fillL, List.flatten, List.replicate, Nat.le_refl, and_self, e1']; rfl) ?_))
      show Wc T _ _ _
      have ht : tgt x j = if x.k = (j : Int) + 1 then [(j : Int) + 1] else if x.k ≤ j then [x.k, (j : Int) + 1] else [(j : Int) + 1, x.k] := by simp only [tgt, if_neg o21, if_pos o22]
      rw [ht]
      have hkA : Kept h3 (h3.new (.cells [.int .i64 ((j : Int) + 1), .int .i64 x.k] true 1)) := (Kept.refl h3).new _
      have gA : (h3.new (.cells [.int .i64 ((j : Int) + 1), .int .i64 x.k] true 1)).get h3.next = some (.cells [.int .i64 ((j : Int) + 1), .int .i64 x.k] true 1) := new_get' _ _
      have nA : (h3.new (.cells [.int .i64 ((j : Int) + 1), .int .i64 x.k] true 1)).next = h3.next + 1 := rfl
      have g5A : (h3.new (.cells [.int .i64 ((j : Int) + 1), .int .i64 x.k] true 1)).get (h.next + 1) = some (.cells x.cells true 0) := by rw [hkA.get _ (by omega)]; exact g5
      have hput : put (put (([.int .i64 0, .int .i64 0] : List Value)) 0 [.int .i64 ((j : Int) + 1)]) 1 [.int .i64 x.k] = [.int .i64 ((j : Int) + 1), .int .i64 x.k] := rfl
      show Wc T _ ⟨_, h3.new (.cells [.int .i64 ((j : Int) + 1), .int .i64 x.k] true 1), _⟩ _
      generalize h3.new (.cells [.int .i64 ((j : Int) + 1), .int .i64 x.k] true 1) = hA at hkA gA nA g5A ⊢
      by_cases e2 : x.k ≤ (j : Int)
      · have z2 : decide (x.k ≤ (j : Int)) = true := by simpa using e2
        have z3 : (x.k == (j : Int) + 1) = false := by simp only [beq_eq_false_iff_ne, ne_eq]; omega
        refine Wc_seq (Wc_seq (Wc_ops (Wo_run (fun call => by simp only [List.drop_succ_cons, List.drop_zero, iops_nil, iops_op, iops_grd, iK_some, iG_true, iG_false, gval_bool, beq_true, beq_false, Bool.not_true, Bool.not_false, iop, ev, upd, dstUpd, binV, binI, unV, ptr, Heap.cell, Heap.write, cellsOf, put, args0, partL, List.getD_cons_zero, List.getD_cons_succ, List.length_cons, List.length_nil, List.set_cons_zero, List.set_cons_succ, List.getElem?_cons_zero, List.getElem?_cons_succ, reduceIte, Nat.reduceEqDiff, Nat.reduceAdd, Nat.reduceMul, Nat.reduceLeDiff, Nat.zero_add, Nat.add_zero, Option.map_some, Int.reduceEq, Int.reduceLT, Int.reduceLE, Bool.false_eq_true, decide_true, decide_false, ge_iff_le, gt_iff_lt, set_get', hn, g5A, Ins.cells, z2]; rfl) ?_)))
        show Wc T _ _ _
        refine Wc_cond true (by simp [ev, upd, dstUpd]) (fun _ => ?_) (fun h => by cases h)
        refine Wc_ops (Wo_run (fun call => by simp only [List.drop_succ_cons, List.drop_zero, iops_nil, iops_op, iops_grd, iK_some, iG_true, iG_false, gval_bool, beq_true, beq_false, Bool.not_true, Bool.not_false, iop, ev, upd, dstUpd, binV, binI, unV, ptr, Heap.cell, Heap.write, cellsOf, put, args0, partL, List.getD_cons_zero, List.getD_cons_succ, List.length_cons, List.length_nil, List.set_cons_zero, List.set_cons_succ, List.getElem?_cons_zero, List.getElem?_cons_succ, reduceIte, Nat.reduceEqDiff, Nat.reduceAdd, Nat.reduceMul, Nat.reduceLeDiff, Nat.zero_add, Nat.add_zero, Option.map_some, Int.reduceEq, Int.reduceLT, Int.reduceLE, Bool.false_eq_true, decide_true, decide_false, ge_iff_le, gt_iff_lt, set_get', hn, g5A, Ins.cells, evps, List.map_cons, List.map_nil, fillL, List.flatten, List.replicate, Nat.le_refl, and_self, e1']; rfl) ?_)
        show Wc T _ _ _
        have hkB : Kept hA (hA.new (.cells [.int .i64 x.k, .int .i64 ((j : Int) + 1)] true 1)) := (Kept.refl hA).new _
        have gB : (hA.new (.cells [.int .i64 x.k, .int .i64 ((j : Int) + 1)] true 1)).get hA.next = some (.cells [.int .i64 x.k, .int .i64 ((j : Int) + 1)] true 1) := new_get' _ _
        have nB : (hA.new (.cells [.int .i64 x.k, .int .i64 ((j : Int) + 1)] true 1)).next = hA.next + 1 := rfl
        have g5B : (hA.new (.cells [.int .i64 x.k, .int .i64 ((j : Int) + 1)] true 1)).get (h.next + 1) = some (.cells x.cells true 0) := by rw [hkB.get _ (by omega)]; exact g5A
        show Wc T _ ⟨_, hA.new (.cells [.int .i64 x.k, .int .i64 ((j : Int) + 1)] true 1), _⟩ _
        generalize hA.new (.cells [.int .i64 x.k, .int .i64 ((j : Int) + 1)] true 1) = hB at hkB gB nB g5B ⊢
        refine Wc_seq (Wc_ops (Wo_run (fun call => by simp only [List.drop_succ_cons, List.drop_zero, iops_nil, iops_op, iops_grd, iK_some, iG_true, iG_false, gval_bool, beq_true, beq_false, Bool.not_true, Bool.not_false, iop, ev, upd, dstUpd, binV, binI, unV, ptr, Heap.cell, Heap.write, cellsOf, put, args0, partL, List.getD_cons_zero, List.getD_cons_succ, List.length_cons, List.length_nil, List.set_cons_zero, List.set_cons_succ, List.getElem?_cons_zero, List.getElem?_cons_succ, reduceIte, Nat.reduceEqDiff, Nat.reduceAdd, Nat.reduceMul, Nat.reduceLeDiff, Nat.zero_add, Nat.add_zero, Option.map_some, Int.reduceEq, Int.reduceLT, Int.reduceLE, Bool.false_eq_true, decide_true, decide_false, ge_iff_le, gt_iff_lt, set_get', hn, g5B, Ins.cells, e1', z3]; rfl) ?_))
        show Wc T _ _ _
        refine Wc_cond false (by simp [ev, upd, dstUpd]) (fun h => by cases h) (fun _ => Wc_skip ?_)
        refine ⟨rfl, by simp [upd, dstUpd, ptr], hkA.trans hkB, ?_⟩
        rw [if_neg (by omega), if_pos e2]
        simp only [upd, dstUpd, reduceIte, Nat.reduceEqDiff]
        refine rd_lit (h := h) rfl (by show hA.next < hB.next; omega) gB fun i k hi => ?_
        match i, hi with
        | 0, hi => cases hi; rfl
        | 1, hi => cases hi; rfl
        | i + 2, hi => simp at hi
      have z2 : decide (x.k ≤ (j : Int)) = false := by simpa using e2
      refine Wc_seq (Wc_seq (Wc_ops (Wo_run (fun call => by simp only [List.drop_succ_cons, List.drop_zero, iops_nil, iops_op, iops_grd, iK_some, iG_true, iG_false, gval_bool, beq_true, beq_false, Bool.not_true, Bool.not_false, iop, ev, upd, dstUpd, binV, binI, unV, ptr, Heap.cell, Heap.write, cellsOf, put, args0, partL, List.getD_cons_zero, List.getD_cons_succ, List.length_cons, List.length_nil, List.set_cons_zero, List.set_cons_succ, List.getElem?_cons_zero, List.getElem?_cons_succ, reduceIte, Nat.reduceEqDiff, Nat.reduceAdd, Nat.reduceMul, Nat.reduceLeDiff, Nat.zero_add, Nat.add_zero, Option.map_some, Int.reduceEq, Int.reduceLT, Int.reduceLE, Bool.false_eq_true, decide_true, decide_false, ge_iff_le, gt_iff_lt, set_get', hn, g5A, Ins.cells, z2]; rfl) ?_)))
      show Wc T _ _ _
      refine Wc_cond false (by simp [ev, upd, dstUpd]) (fun h => by cases h) (fun _ => Wc_skip ?_)
      show Wc T _ _ _
      by_cases e3 : x.k = (j : Int) + 1
      · have z3 : (x.k == (j : Int) + 1) = true := by simpa using e3
        refine Wc_seq (Wc_ops (Wo_run (fun call => by simp only [List.drop_succ_cons, List.drop_zero, iops_nil, iops_op, iops_grd, iK_some, iG_true, iG_false, gval_bool, beq_true, beq_false, Bool.not_true, Bool.not_false, iop, ev, upd, dstUpd, binV, binI, unV, ptr, Heap.cell, Heap.write, cellsOf, put, args0, partL, List.getD_cons_zero, List.getD_cons_succ, List.length_cons, List.length_nil, List.set_cons_zero, List.set_cons_succ, List.getElem?_cons_zero, List.getElem?_cons_succ, reduceIte, Nat.reduceEqDiff, Nat.reduceAdd, Nat.reduceMul, Nat.reduceLeDiff, Nat.zero_add, Nat.add_zero, Option.map_some, Int.reduceEq, Int.reduceLT, Int.reduceLE, Bool.false_eq_true, decide_true, decide_false, ge_iff_le, gt_iff_lt, set_get', hn, g5A, Ins.cells, e1', z3]; rfl) ?_))
        show Wc T _ _ _
        refine Wc_cond true (by simp [ev, upd, dstUpd]) (fun _ => ?_) (fun h => by cases h)
        have hok : okSzO hA 1 (some ⟨h3.next, 0, none⟩) = true := by simp [okSzO, okSz, gA]
        have b02 : bndV 0 2 (.int .i64 1) = some 1 := rfl
        refine Wc_ops (Wo_run (fun call => by simp only [List.drop_succ_cons, List.drop_zero, iops_nil, iops_op, iops_grd, iK_some, iG_true, iG_false, gval_bool, beq_true, beq_false, Bool.not_true, Bool.not_false, iop, ev, upd, dstUpd, binV, binI, unV, ptr, Heap.cell, Heap.write, cellsOf, put, args0, partL, List.getD_cons_zero, List.getD_cons_succ, List.length_cons, List.length_nil, List.set_cons_zero, List.set_cons_succ, List.getElem?_cons_zero, List.getElem?_cons_succ, reduceIte, Nat.reduceEqDiff, Nat.reduceAdd, Nat.reduceMul, Nat.reduceLeDiff, Nat.zero_add, Nat.add_zero, Option.map_some, Int.reduceEq, Int.reduceLT, Int.reduceLE, Bool.false_eq_true, decide_true, decide_false, ge_iff_le, gt_iff_lt, set_get', bndO, b02, hok, Option.isSome, Option.isNone, Bool.and_false, Bool.or_false, Bool.not_true, subSl, Option.getD_none]; rfl) ?_)
        refine ⟨rfl, by simp [upd, dstUpd, ptr], hkA, ?_⟩
        rw [if_pos e3]
        simp only [upd, dstUpd, reduceIte, Nat.reduceEqDiff]
        refine rd_lit (h := h) (l := [(j : Int) + 1]) rfl (by show h3.next < hA.next; omega) gA fun i k hi => ?_
        match i, hi with
        | 0, hi => cases hi; rfl
        | i + 1, hi => simp at hi
      · have z3 : (x.k == (j : Int) + 1) = false := by simpa using e3
        refine Wc_seq (Wc_ops (Wo_run (fun call => by simp only [List.drop_succ_cons, List.drop_zero, iops_nil, iops_op, iops_grd, iK_some, iG_true, iG_false, gval_bool, beq_true, beq_false, Bool.not_true, Bool.not_false, iop, ev, upd, dstUpd, binV, binI, unV, ptr, Heap.cell, Heap.write, cellsOf, put, args0, partL, List.getD_cons_zero, List.getD_cons_succ, List.length_cons, List.length_nil, List.set_cons_zero, List.set_cons_succ, List.getElem?_cons_zero, List.getElem?_cons_succ, reduceIte, Nat.reduceEqDiff, Nat.reduceAdd, Nat.reduceMul, Nat.reduceLeDiff, Nat.zero_add, Nat.add_zero, Option.map_some, Int.reduceEq, Int.reduceLT, Int.reduceLE, Bool.false_eq_true, decide_true, decide_false, ge_iff_le, gt_iff_lt, set_get', hn, g5A, Ins.cells, e1', z3]; rfl) ?_))
        show Wc T _ _ _
        refine Wc_cond false (by simp [ev, upd, dstUpd]) (fun h => by cases h) (fun _ => Wc_skip ?_)
        refine ⟨rfl, by simp [upd, dstUpd, ptr], hkA, ?_⟩
        rw [if_neg e3, if_neg e2]
        simp only [upd, dstUpd, reduceIte, Nat.reduceEqDiff]
        refine rd_lit (h := h) rfl (by show h3.next < hA.next; omega) gA fun i k hi => ?_
        match i, hi with
        | 0, hi => cases hi; rfl
        | 1, hi => cases hi; rfl
        | i + 2, hi => simp at hi
    have d22 : (x.op == 22) = false := by simpa using o22
    refine Wc_seq (Wc_ops (Wo_run (fun call => by simp only [List.drop_succ_cons, List.drop_zero, iops_nil, iops_op, iops_grd, iK_some, iG_true, iG_false, gval_bool, beq_true, beq_false, Bool.not_true, Bool.not_false, iop, ev, upd, dstUpd, binV, binI, unV, ptr, Heap.cell, Heap.write, cellsOf, put, args0, partL, List.getD_cons_zero, List.getD_cons_succ, List.length_cons, List.length_nil, List.set_cons_zero, List.set_cons_succ, List.getElem?_cons_zero, List.getElem?_cons_succ, reduceIte, Nat.reduceEqDiff, Nat.reduceAdd, Nat.reduceMul, Nat.reduceLeDiff, Nat.zero_add, Nat.add_zero, Option.map_some, Int.reduceEq, Int.reduceLT, Int.reduceLE, Bool.false_eq_true, decide_true, decide_false, ge_iff_le, gt_iff_lt, set_get', d22]; rfl) ?_))
    show Wc T _ _ _
    refine Wc_cond false (by simp [ev, upd, dstUpd]) (fun h => by cases h) (fun _ => ?_)
    have ht : tgt x j = if x.op = 24 ∨ x.op = 25 then [] else [(j : Int) + 1] := by simp only [tgt, if_neg o21, if_neg o22]
    rw [ht]
    by_cases o24 : x.op = 24
    · have d24 : (x.op == 24) = true := by simpa using o24
      refine Wc_seq (Wc_seq (Wc_ops (Wo_run (fun call => by simp only [List.drop_succ_cons, List.drop_zero, iops_nil, iops_op, iops_grd, iK_some, iG_true, iG_false, gval_bool, beq_true, beq_false, Bool.not_true, Bool.not_false, iop, ev, upd, dstUpd, binV, binI, unV, ptr, Heap.cell, Heap.write, cellsOf, put, args0, partL, List.getD_cons_zero, List.getD_cons_succ, List.length_cons, List.length_nil, List.set_cons_zero, List.set_cons_succ, List.getElem?_cons_zero, List.getElem?_cons_succ, reduceIte, Nat.reduceEqDiff, Nat.reduceAdd, Nat.reduceMul, Nat.reduceLeDiff, Nat.zero_add, Nat.add_zero, Option.map_some, Int.reduceEq, Int.reduceLT, Int.reduceLE, Bool.false_eq_true, decide_true, decide_false, ge_iff_le, gt_iff_lt, set_get', d24]; rfl) ?_)))
      show Wc T _ _ _
      refine Wc_cond true (by simp [ev, upd, dstUpd]) (fun _ => Wc_skip ?_) (fun h => by cases h)
      show Wc T _ _ _
      refine Wc_cond true (by simp [ev, upd, dstUpd]) (fun _ => Wc_skip ?_) (fun h => by cases h)
      refine ⟨rfl, by simp [upd, dstUpd, ptr], .refl _, ?_⟩
      rw [if_pos (Or.inl o24)]
      simp only [upd, dstUpd, reduceIte, Nat.reduceEqDiff]
      exact intsAt.rd (.inl ⟨rfl, rfl⟩)
    have d24 : (x.op == 24) = false := by simpa using o24
    refine Wc_seq (Wc_seq (Wc_ops (Wo_run (fun call => by simp only [List.drop_succ_cons, List.drop_zero, iops_nil, iops_op, iops_grd, iK_some, iG_true, iG_false, gval_bool, beq_true, beq_false, Bool.not_true, Bool.not_false, iop, ev, upd, dstUpd, binV, binI, unV, ptr, Heap.cell, Heap.write, cellsOf, put, args0, partL, List.getD_cons_zero, List.getD_cons_succ, List.length_cons, List.length_nil, List.set_cons_zero, List.set_cons_succ, List.getElem?_cons_zero, List.getElem?_cons_succ, reduceIte, Nat.reduceEqDiff, Nat.reduceAdd, Nat.reduceMul, Nat.reduceLeDiff, Nat.zero_add, Nat.add_zero, Option.map_some, Int.reduceEq, Int.reduceLT, Int.reduceLE, Bool.false_eq_true, decide_true, decide_false, ge_iff_le, gt_iff_lt, set_get', d24]; rfl) ?_)))
    show Wc T _ _ _
    refine Wc_cond false (by simp [ev, upd, dstUpd]) (fun h => by cases h) (fun _ => ?_)
    refine Wc_ops (Wo_run (fun call => by simp only [List.drop_succ_cons, List.drop_zero, iops_nil, iops_op, iops_grd, iK_some, iG_true, iG_false, gval_bool, beq_true, beq_false, Bool.not_true, Bool.not_false, iop, ev, upd, dstUpd, binV, binI, unV, ptr, Heap.cell, Heap.write, cellsOf, put, args0, partL, List.getD_cons_zero, List.getD_cons_succ, List.length_cons, List.length_nil, List.set_cons_zero, List.set_cons_succ, List.getElem?_cons_zero, List.getElem?_cons_succ, reduceIte, Nat.reduceEqDiff, Nat.reduceAdd, Nat.reduceMul, Nat.reduceLeDiff, Nat.zero_add, Nat.add_zero, Option.map_some, Int.reduceEq, Int.reduceLT, Int.reduceLE, Bool.false_eq_true, decide_true, decide_false, ge_iff_le, gt_iff_lt, set_get']; rfl) ?_)
    show Wc T _ _ _
    refine Wc_cond (x.op == 25) (by simp [ev, upd, dstUpd]) (fun h25 => Wc_skip ?_) (fun h25 => ?_)
    · refine ⟨rfl, by simp [upd, dstUpd, ptr], .refl _, ?_⟩
      rw [if_pos (Or.inr (by simpa using h25))]
      simp only [upd, dstUpd, reduceIte, Nat.reduceEqDiff]
      exact intsAt.rd (.inl ⟨rfl, rfl⟩)
    · refine Wc_ops (Wo_run (fun call => by simp only [List.drop_succ_cons, List.drop_zero, iops_nil, iops_op, iops_grd, iK_some, iG_true, iG_false, gval_bool, beq_true, beq_false, Bool.not_true, Bool.not_false, iop, ev, upd, dstUpd, binV, binI, unV, ptr, Heap.cell, Heap.write, cellsOf, put, args0, partL, List.getD_cons_zero, List.getD_cons_succ, List.length_cons, List.length_nil, List.set_cons_zero, List.set_cons_succ, List.getElem?_cons_zero, List.getElem?_cons_succ, reduceIte, Nat.reduceEqDiff, Nat.reduceAdd, Nat.reduceMul, Nat.reduceLeDiff, Nat.zero_add, Nat.add_zero, Option.map_some, Int.reduceEq, Int.reduceLT, Int.reduceLE, Bool.false_eq_true, decide_true, decide_false, ge_iff_le, gt_iff_lt, set_get', e1', evps, List.map_cons, List.map_nil, fillL, List.flatten, List.replicate, Nat.le_refl, and_self]; rfl) ?_)
      refine ⟨rfl, by simp [upd, dstUpd, ptr], (Kept.refl h3).new _, ?_⟩
      have o25 : ¬ x.op = 25 := by simpa using h25
      rw [if_neg (by omega)]
      simp only [upd, dstUpd, reduceIte, Nat.reduceEqDiff]
      refine rd_lit (h := h) rfl (Nat.lt_succ_self _) (new_get' _ _) fun i k hi => ?_
      match i, hi with
      | 0, hi => cases hi; rfl
      | i + 1, hi => simp at hi
  rintro ⟨e, hp, d⟩ ⟨hd, k2, hkp, hrd⟩
  simp only at hd k2 hkp hrd
  subst hd
  generalize hv6 : e 6 = v6 at hrd
  have hl2 := tgt_len x j
  generalize tgt x j = L at hrd hl2 ⊢
  obtain ⟨p6, c6, hvl⟩ := hrd.1
  have g2p : hp.get h.next = some (.cells f.cells true 0) := by rw [hkp.get _ (by omega)]; exact g2
  refine Wc_seq (Wc_ops (Wo_run (fun call => by simp only [List.drop_succ_cons, List.drop_zero, iops_nil, iops_op, iops_grd, iK_some, iG_true, iG_false, gval_bool, beq_true, beq_false, Bool.not_true, Bool.not_false, iop, ev, upd, dstUpd, binV, binI, unV, ptr, Heap.cell, Heap.write, cellsOf, put, args0, partL, List.getD_cons_zero, List.getD_cons_succ, List.length_cons, List.length_nil, List.set_cons_zero, List.set_cons_succ, List.getElem?_cons_zero, List.getElem?_cons_succ, reduceIte, Nat.reduceEqDiff, Nat.reduceAdd, Nat.reduceMul, Nat.reduceLeDiff, Nat.zero_add, Nat.add_zero, Option.map_some, Int.reduceEq, Int.reduceLT, Int.reduceLE, Bool.false_eq_true, decide_true, decide_false, ge_iff_le, gt_iff_lt, set_get']; rfl) ?_))
  show Wc T _ _ _
  refine Wc_mid (fun s => s.d = some [] ∧ Kept hp s.h ∧ ownI hp.next s.h (s.e 7) (L.flatMap (putL f))) ?_ ?_
  case refine_2 =>
    rintro ⟨e2, hq, d⟩ ⟨hd, hkq, how⟩
    simp only at hd hkq how
    subst hd
    refine Wc_seq (Wc_ops (Wo_run (fun call => by simp only [List.drop_succ_cons, List.drop_zero, iops_nil, iops_op, iops_grd, iK_some, iG_true, iG_false, gval_bool, beq_true, beq_false, Bool.not_true, Bool.not_false, iop, ev, upd, dstUpd, binV, binI, unV, ptr, Heap.cell, Heap.write, cellsOf, put, args0, partL, List.getD_cons_zero, List.getD_cons_succ, List.length_cons, List.length_nil, List.set_cons_zero, List.set_cons_succ, List.getElem?_cons_zero, List.getElem?_cons_succ, reduceIte, Nat.reduceEqDiff, Nat.reduceAdd, Nat.reduceMul, Nat.reduceLeDiff, Nat.zero_add, Nat.add_zero, Option.map_some, Int.reduceEq, Int.reduceLT, Int.reduceLE, Bool.false_eq_true, decide_true, decide_false, ge_iff_le, gt_iff_lt, set_get']; rfl) ?_))
    exact Wc_ret ⟨.inr rfl, rfl, [e2 7], by simp [resAll, resV, upd, dstUpd], (hk03.trans hkp).trans hkq, _, rfl, how.ints.rd⟩
  refine Wc_seq (Wc_ops (Wo_run (fun call => by simp only [List.drop_succ_cons, List.drop_zero, iops_nil, iops_op, iops_grd, iK_some, iG_true, iG_false, gval_bool, beq_true, beq_false, Bool.not_true, Bool.not_false, iop, ev, upd, dstUpd, binV, binI, unV, ptr, Heap.cell, Heap.write, cellsOf, put, args0, partL, List.getD_cons_zero, List.getD_cons_succ, List.length_cons, List.length_nil, List.set_cons_zero, List.set_cons_succ, List.getElem?_cons_zero, List.getElem?_cons_succ, reduceIte, Nat.reduceEqDiff, Nat.reduceAdd, Nat.reduceMul, Nat.reduceLeDiff, Nat.zero_add, Nat.add_zero, Option.map_some, Int.reduceEq, Int.reduceLT, Int.reduceLE, Bool.false_eq_true, decide_true, decide_false, ge_iff_le, gt_iff_lt, set_get', hv6, hvl]; rfl) ?_))
  show Wc T _ _ _
  refine Wc_block (Wc_loop (fun s => s.d = some [] ∧ Kept hp s.h ∧ s.e 2 = ptr h.next 0 ∧ s.e 60 = v6 ∧ s.e 61 = .int .i64 L.length ∧ ∃ i : Nat, i ≤ L.length ∧ s.e 62 = .int .i64 i ∧ ownI hp.next s.h (s.e 7) ((L.take i).flatMap (putL f)))
    (fun s => match s.e 62 with | .int _ i => (L.length - i).toNat | _ => 0) ?_ ?_)
  · exact ⟨rfl, .refl _, by simp [upd, k2], by simp [upd, hv6, hvl], by simp [upd], 0, Nat.zero_le _, by simp [upd], by simp only [upd, Nat.reduceEqDiff, reduceIte]; exact .inl ⟨rfl, rfl⟩⟩
  clear k2 hv6 e
  rintro ⟨e, hq, d⟩ ⟨hd, hkq, k2, k60, k61, i, hi, k62, how⟩
  simp only at hd hkq k2 k60 k61 k62 how
  subst hd
  rw [C17L0]
  refine Wc_seq (Wc_ops (Wo_run (fun call => by simp only [List.drop_succ_cons, List.drop_zero, iops_nil, iops_op, iops_grd, iK_some, iG_true, iG_false, gval_bool, beq_true, beq_false, Bool.not_true, Bool.not_false, iop, ev, upd, dstUpd, binV, binI, unV, ptr, Heap.cell, Heap.write, cellsOf, put, args0, partL, List.getD_cons_zero, List.getD_cons_succ, List.length_cons, List.length_nil, List.set_cons_zero, List.set_cons_succ, List.getElem?_cons_zero, List.getElem?_cons_succ, reduceIte, Nat.reduceEqDiff, Nat.reduceAdd, Nat.reduceMul, Nat.reduceLeDiff, Nat.zero_add, Nat.add_zero, Option.map_some, Int.reduceEq, Int.reduceLT, Int.reduceLE, Bool.false_eq_true, decide_true, decide_false, ge_iff_le, gt_iff_lt, set_get', k61, k62]; rfl) ?_))
  show Wc T _ _ _
  refine Wc_seq (Wc_cond (decide ((i : Int) < L.length)) (by simp [ev, upd, dstUpd]) (fun hlt => Wc_skip ?_) (fun hge => Wc_exit ?_))
  case refine_2 =>
    have : i = L.length := by have := of_decide_eq_false hge; omega
    subst this
    rw [List.take_length] at how
    exact ⟨rfl, hkq, by simpa only [upd, Nat.reduceEqDiff, reduceIte] using how⟩
  show Wc T _ _ _
  have hil : i < L.length := by have := of_decide_eq_true hlt; omega
  obtain ⟨k, hki⟩ : ∃ k, L[i]? = some k := ⟨_, List.getElem?_eq_getElem hil⟩
  obtain ⟨bL, cL, csL, oL, zL, hvL, hbL, hgL, hcL⟩ := (hrd.keep hkq).2 _ _ hki
  have g2q : hq.get h.next = some (.cells f.cells true 0) := by rw [hkq.get _ (by have := hkp.next; omega)]; exact g2p
  have w1 : IntKind.i64.wrap ((i : Int) + 1) = ((i + 1 : Nat) : Int) := by rw [wrap64] <;> omega
  refine Wc_seq (Wc_block (Wc_seq (Wc_ops (Wo_run (fun call => by simp only [List.drop_succ_cons, List.drop_zero, iops_nil, iops_op, iops_grd, iK_some, iG_true, iG_false, gval_bool, beq_true, beq_false, Bool.not_true, Bool.not_false, iop, ev, upd, dstUpd, binV, binI, unV, ptr, Heap.cell, Heap.write, cellsOf, put, args0, partL, List.getD_cons_zero, List.getD_cons_succ, List.length_cons, List.length_nil, List.set_cons_zero, List.set_cons_succ, List.getElem?_cons_zero, List.getElem?_cons_succ, reduceIte, Nat.reduceEqDiff, Nat.reduceAdd, Nat.reduceMul, Nat.reduceLeDiff, Nat.zero_add, Nat.add_zero, Option.map_some, Int.reduceEq, Int.reduceLT, Int.reduceLE, Bool.false_eq_true, decide_true, decide_false, ge_iff_le, gt_iff_lt, set_get', k60, hvL, k62, idx_ok hil, hgL, hcL, Nat.mul_one]; rfl) ?_))))
  show Wc T _ _ _
  have fin : ∀ (e' : Env) (hr : Heap), e' 2 = ptr h.next 0 → e' 60 = v6 → e' 61 = .int .i64 L.length → e' 62 = .int .i64 i → Kept hp hr → ownI hp.next hr (e' 7) ((L.take (i + 1)).flatMap (putL f)) →
      Wc T (.ops [⟨(some 79), .op (.bin .add (.t 62) (.c (.int .i64 1))), none⟩, ⟨(some 62), .op (.mov (.t 79)), none⟩]) ⟨e', hr, some []⟩ (fun ex s' => match ex with
        | .normal => (s'.d = some [] ∧ Kept hp s'.h ∧ s'.e 2 = ptr h.next 0 ∧ s'.e 60 = v6 ∧ s'.e 61 = .int .i64 L.length ∧ ∃ i : Nat, i ≤ L.length ∧ s'.e 62 = .int .i64 i ∧ ownI hp.next s'.h (s'.e 7) ((L.take i).flatMap (putL f))) ∧ (match s'.e 62 with | .int _ i => (L.length - i).toNat | _ => 0) < (match e 62 with | .int _ i => (L.length - i).toNat | _ => 0)
        | _ => False) := by
    intro e' hr a b c d' hkr how'
    refine Wc_ops (Wo_run (fun call => by simp only [List.drop_succ_cons, List.drop_zero, iops_nil, iops_op, iops_grd, iK_some, iG_true, iG_false, gval_bool, beq_true, beq_false, Bool.not_true, Bool.not_false, iop, ev, upd, dstUpd, binV, binI, unV, ptr, Heap.cell, Heap.write, cellsOf, put, args0, partL, List.getD_cons_zero, List.getD_cons_succ, List.length_cons, List.length_nil, List.set_cons_zero, List.set_cons_succ, List.getElem?_cons_zero, List.getElem?_cons_succ, reduceIte, Nat.reduceEqDiff, Nat.reduceAdd, Nat.reduceMul, Nat.reduceLeDiff, Nat.zero_add, Nat.add_zero, Option.map_some, Int.reduceEq, Int.reduceLT, Int.reduceLE, Bool.false_eq_true, decide_true, decide_false, ge_iff_le, gt_iff_lt, set_get', d', w1]; rfl) ?_)
    refine ⟨⟨rfl, hkr, by simp [upd, a], by simp [upd, b], by simp [upd, c], i + 1, by omega, by simp [upd], by simpa only [upd, Nat.reduceEqDiff, reduceIte] using how'⟩, ?_⟩
    simp only [upd, Nat.reduceEqDiff, reduceIte, k62]
    show ((L.length : Int) - ((i + 1 : Nat) : Int)).toNat < ((L.length : Int) - (i : Int)).toNat
    have hil' := hil
    clear w1 e1'
    omega
  have fin' : ∀ (e' : Env) (hr : Heap) (Q : Ex → St → Prop), (∀ s', ((s'.d = some [] ∧ Kept hp s'.h ∧ s'.e 2 = ptr h.next 0 ∧ s'.e 60 = v6 ∧ s'.e 61 = .int .i64 L.length ∧ ∃ i : Nat, i ≤ L.length ∧ s'.e 62 = .int .i64 i ∧ ownI hp.next s'.h (s'.e 7) ((L.take i).flatMap (putL f))) ∧ (match s'.e 62 with | .int _ i => (L.length - i).toNat | _ => 0) < (match e 62 with | .int _ i => (L.length - i).toNat | _ => 0)) → Q .normal s') → e' 2 = ptr h.next 0 → e' 60 = v6 → e' 61 = .int .i64 L.length → e' 62 = .int .i64 i → Kept hp hr → ownI hp.next hr (e' 7) ((L.take (i + 1)).flatMap (putL f)) →
      Wc T (.ops [⟨(some 79), .op (.bin .add (.t 62) (.c (.int .i64 1))), none⟩, ⟨(some 62), .op (.mov (.t 79)), none⟩]) ⟨e', hr, some []⟩ Q := by
    intro e' hr Q hQ a b c d' hkr how'
    refine (fin e' hr a b c d' hkr how').mono fun ex s' hq => ?_
    cases ex <;> first | exact hQ _ hq | exact hq.elim
  by_cases q0 : 0 ≤ k
  case neg =>
    have z0 : decide (0 ≤ k) = false := by simpa using q0
    refine Wc_seq (Wc_ops (Wo_run (fun call => by simp only [List.drop_succ_cons, List.drop_zero, iops_nil, iops_op, iops_grd, iK_some, iG_true, iG_false, gval_bool, beq_true, beq_false, Bool.not_true, Bool.not_false, iop, ev, upd, dstUpd, binV, binI, unV, ptr, Heap.cell, Heap.write, cellsOf, put, args0, partL, List.getD_cons_zero, List.getD_cons_succ, List.length_cons, List.length_nil, List.set_cons_zero, List.set_cons_succ, List.getElem?_cons_zero, List.getElem?_cons_succ, reduceIte, Nat.reduceEqDiff, Nat.reduceAdd, Nat.reduceMul, Nat.reduceLeDiff, Nat.zero_add, Nat.add_zero, Option.map_some, Int.reduceEq, Int.reduceLT, Int.reduceLE, Bool.false_eq_true, decide_true, decide_false, ge_iff_le, gt_iff_lt, set_get', z0]; rfl) ?_))
    show Wc T _ _ _
    refine Wc_cond false (by simp [ev, upd, dstUpd]) (fun h => by cases h) (fun _ => Wc_skip ?_)
    show Wc T _ _ _
    have hpl : putL f k = [] := by simp only [putL]; rw [if_neg (by omega)]
    refine fin' _ hq _ (fun s' hs => hs) (by simp [upd, dstUpd, k2]) (by simp [upd, dstUpd, k60]) (by simp [upd, dstUpd, k61]) (by simp [upd, dstUpd, k62]) hkq ?_
    rw [take_flatI _ hki, hpl, List.append_nil]
    simpa only [upd, dstUpd, Nat.reduceEqDiff, reduceIte] using how
  have p0' : decide (0 ≤ k) = true := by simpa using q0
  by_cases q1 : k < (f.code.length : Int)
  case neg =>
    have z1 : decide (k < (f.code.length : Int)) = false := by simpa using q1
    refine Wc_seq (Wc_ops (Wo_run (fun call => by simp only [List.drop_succ_cons, List.drop_zero, iops_nil, iops_op, iops_grd, iK_some, iG_true, iG_false, gval_bool, beq_true, beq_false, Bool.not_true, Bool.not_false, iop, ev, upd, dstUpd, binV, binI, unV, ptr, Heap.cell, Heap.write, cellsOf, put, args0, partL, List.getD_cons_zero, List.getD_cons_succ, List.length_cons, List.length_nil, List.set_cons_zero, List.set_cons_succ, List.getElem?_cons_zero, List.getElem?_cons_succ, reduceIte, Nat.reduceEqDiff, Nat.reduceAdd, Nat.reduceMul, Nat.reduceLeDiff, Nat.zero_add, Nat.add_zero, Option.map_some, Int.reduceEq, Int.reduceLT, Int.reduceLE, Bool.false_eq_true, decide_true, decide_false, ge_iff_le, gt_iff_lt, set_get', p0', z1, k2, g2q, Fn.cells, hcv]; rfl) ?_))
    show Wc T _ _ _
    refine Wc_cond false (by simp [ev, upd, dstUpd]) (fun h => by cases h) (fun _ => Wc_skip ?_)
    show Wc T _ _ _
    have hpl : putL f k = [] := by simp only [putL]; rw [if_neg (by omega)]
    refine fin' _ hq _ (fun s' hs => hs) (by simp [upd, dstUpd, k2]) (by simp [upd, dstUpd, k60]) (by simp [upd, dstUpd, k61]) (by simp [upd, dstUpd, k62]) hkq ?_
    rw [take_flatI _ hki, hpl, List.append_nil]
    simpa only [upd, dstUpd, Nat.reduceEqDiff, reduceIte] using how
  have p1' : decide (k < (f.code.length : Int)) = true := by simpa using q1
  have hpl : putL f k = [k] := by simp only [putL]; rw [if_pos (by omega)]
  refine Wc_seq (Wc_ops (Wo_run (fun call => by simp only [List.drop_succ_cons, List.drop_zero, iops_nil, iops_op, iops_grd, iK_some, iG_true, iG_false, gval_bool, beq_true, beq_false, Bool.not_true, Bool.not_false, iop, ev, upd, dstUpd, binV, binI, unV, ptr, Heap.cell, Heap.write, cellsOf, put, args0, partL, List.getD_cons_zero, List.getD_cons_succ, List.length_cons, List.length_nil, List.set_cons_zero, List.set_cons_succ, List.getElem?_cons_zero, List.getElem?_cons_succ, reduceIte, Nat.reduceEqDiff, Nat.reduceAdd, Nat.reduceMul, Nat.reduceLeDiff, Nat.zero_add, Nat.add_zero, Option.map_some, Int.reduceEq, Int.reduceLT, Int.reduceLE, Bool.false_eq_true, decide_true, decide_false, ge_iff_le, gt_iff_lt, set_get', p0', p1', k2, g2q, Fn.cells, hcv]; rfl) ?_))
  show Wc T _ _ _
  refine Wc_cond true (by simp [ev, upd, dstUpd]) (fun _ => ?_) (fun h => by cases h)
  refine Wc_ops (Wo_pre 3 (fun call => by simp only [List.take_succ_cons, List.take_zero, List.drop_succ_cons, List.drop_zero, iops_nil, iops_op, iops_grd, iK_some, iG_true, iG_false, gval_bool, beq_true, beq_false, Bool.not_true, Bool.not_false, iop, ev, upd, dstUpd, binV, binI, unV, ptr, Heap.cell, Heap.write, cellsOf, put, args0, partL, List.getD_cons_zero, List.getD_cons_succ, List.length_cons, List.length_nil, List.set_cons_zero, List.set_cons_succ, List.getElem?_cons_zero, List.getElem?_cons_succ, reduceIte, Nat.reduceEqDiff, Nat.reduceAdd, Nat.reduceMul, Nat.reduceLeDiff, Nat.zero_add, Nat.add_zero, Option.map_some, Int.reduceEq, Int.reduceLT, Int.reduceLE, Bool.false_eq_true, decide_true, decide_false, ge_iff_le, gt_iff_lt, set_get']; rfl) ?_)
  have hkE : Kept hq (hq.new (.cells [.int .i64 k] true 1)) := (Kept.refl hq).new _
  have hel : elemsOf (hq.new (.cells [.int .i64 k] true 1)) 1 (.slice (some ⟨hq.next, 0, none⟩) 1 1) = some ([k].length, ints64 [k]) :=
    intsAt.elems (l := [k]) (.inr ⟨hq.next, 1, rfl, Nat.lt_succ_self _, .inr ⟨_, _, new_get' _ _⟩⟩)
  have ho2 : ownI hp.next (hq.new (.cells [.int .i64 k] true 1)) (e 7) ((L.take i).flatMap (putL f)) := how.keep (Nat.le_succ _) (fun b _ hb => hkE.get b hb)
  have hfl2 : ((L.take i).flatMap (putL f)).length ≤ 10 := by
    have : ∀ l : List Int, (l.flatMap (putL f)).length ≤ l.length := by
      intro l
      induction l with
      | nil => simp
      | cons a l ih => rw [List.flatMap_cons, List.length_append, List.length_cons]; have := putL_len f a; omega
    have h1 := this (L.take i)
    rw [List.length_take] at h1
    omega
  obtain ⟨v', h5, ha, hbs, hown, hnew⟩ := append_own ho2 (by have := hkq.next; have := hkE.next; omega) hel (by rw [List.length_singleton]; omega)
  have hap : ∀ e' : Env, e' 75 = e 7 → e' 77 = .slice (some ⟨hq.next, 0, none⟩) 1 1 → iop (.append 1 8 (.t 75) (.t 77)) e' (hq.new (.cells [.int .i64 k] true 1)) = some (v', h5) := by
    intro e' h1' h2'
    simp only [iop, ev, h1', h2']
    exact ha
  refine Wo_op (hap _ rfl rfl) (Wo_run (fun call => by simp only [List.drop_succ_cons, List.drop_zero, iops_nil, iops_op, iops_grd, iK_some, iG_true, iG_false, gval_bool, beq_true, beq_false, Bool.not_true, Bool.not_false, iop, ev, upd, dstUpd, binV, binI, unV, ptr, Heap.cell, Heap.write, cellsOf, put, args0, partL, List.getD_cons_zero, List.getD_cons_succ, List.length_cons, List.length_nil, List.set_cons_zero, List.set_cons_succ, List.getElem?_cons_zero, List.getElem?_cons_succ, reduceIte, Nat.reduceEqDiff, Nat.reduceAdd, Nat.reduceMul, Nat.reduceLeDiff, Nat.zero_add, Nat.add_zero, Option.map_some, Int.reduceEq, Int.reduceLT, Int.reduceLE, Bool.false_eq_true, decide_true, decide_false, ge_iff_le, gt_iff_lt, set_get']; rfl) ?_)
  show Wc T _ _ _
  refine fin' _ h5 _ (fun s' hs => hs) (by simp [upd, dstUpd, k2]) (by simp [upd, dstUpd, k60]) (by simp [upd, dstUpd, k61]) (by simp [upd, dstUpd, k62]) (hbs.kept ho2 (Nat.le_refl _) (hkq.trans hkE)) ?_
  rw [take_flatI _ hki, hpl]
  simpa only [upd, dstUpd, Nat.reduceEqDiff, reduceIte] using hown

/-- The table with the number of bits. -/
noncomputable def T2 : Tbl := setPrim T1 44 (cprim T1 100 44)
theorem T2ok : TblOk Try.prog T2 := setPrim_ok T1ok (primOk_cprim T1ok 100 (calleeOk_mk Try.func44 (by kernel_rfl) (by kernel_rfl)))
theorem T2_5 : T2.fn 5 = some C5 := by
  have h : cfn Try.prog Try.f5 = some C5 := by kernel_rfl
  simp only [T2, T1, T0, Tb0, setPrim, Try.func5, Option.bind_some, h]; rfl
theorem T2_8 : T2.fn 8 = some C8 := by
  have h : cfn Try.prog Try.f8 = some C8 := by kernel_rfl
  simp only [T2, T1, T0, Tb0, setPrim, Try.func8, Option.bind_some, h]; rfl
theorem T2_11 : T2.fn 11 = some C11 := by
  have h : cfn Try.prog Try.f11 = some C11 := by kernel_rfl
  simp only [T2, T1, T0, Tb0, setPrim, Try.func11, Option.bind_some, h]; rfl
theorem T2_16 : T2.fn 16 = some C16 := by
  have h : cfn Try.prog Try.f16 = some C16 := by kernel_rfl
  simp only [T2, T1, T0, Tb0, setPrim, Try.func16, Option.bind_some, h]; rfl
theorem T2_17 : T2.fn 17 = some C17 := by
  have h : cfn Try.prog Try.f17 = some C17 := by kernel_rfl
  simp only [T2, T1, T0, Tb0, setPrim, Try.func17, Option.bind_some, h]; rfl
theorem T2_20 : T2.fn 20 = some C20 := by
  have h : cfn Try.prog Try.f20 = some C20 := by kernel_rfl
  simp only [T2, T1, T0, Tb0, setPrim, Try.func20, Option.bind_some, h]; rfl
theorem T2_29 : T2.fn 29 = some C29 := by
  have h : cfn Try.prog Try.f29 = some C29 := by kernel_rfl
  simp only [T2, T1, T0, Tb0, setPrim, Try.func29, Option.bind_some, h]; rfl
theorem T2_30 : T2.fn 30 = some C30 := by
  have h : cfn Try.prog Try.f30 = some C30 := by kernel_rfl
  simp only [T2, T1, T0, Tb0, setPrim, Try.func30, Option.bind_some, h]; rfl
theorem T2_31 : T2.fn 31 = some C31 := by
  have h : cfn Try.prog Try.f31 = some C31 := by kernel_rfl
  simp only [T2, T1, T0, Tb0, setPrim, Try.func31, Option.bind_some, h]; rfl
theorem T2_43 : T2.fn 43 = some C43 := by
  have h : cfn Try.prog Try.f43 = some C43 := by kernel_rfl
  simp only [T2, T1, T0, Tb0, setPrim, Try.func43, Option.bind_some, h]; rfl
theorem T2_48 : T2.fn 48 = some C48 := by
  have h : cfn Try.prog Try.f48 = some C48 := by kernel_rfl
  simp only [T2, T1, T0, Tb0, setPrim, Try.func48, Option.bind_some, h]; rfl
theorem T2_54 : T2.fn 54 = some C54 := by
  have h : cfn Try.prog Try.f54 = some C54 := by kernel_rfl
  simp only [T2, T1, T0, Tb0, setPrim, Try.func54, Option.bind_some, h]; rfl
theorem T2_65 : T2.fn 65 = some C65 := by
  have h : cfn Try.prog Try.f65 = some C65 := by kernel_rfl
  simp only [T2, T1, T0, Tb0, setPrim, Try.func65, Option.bind_some, h]; rfl

def isI : Option Value → Bool
  | some (.int .i64 _) => true
  | _ => false
theorem isI_eq {o : Option Value} (h : isI o = true) : ∃ m, o = some (.int .i64 m) := by
  unfold isI at h
  split at h
  · exact ⟨_, rfl⟩
  · cases h
theorem bits_run : ((List.range 3).all fun (k : Nat) => isI (cprim T1 100 44 [.int .u64 (k : Int)])) = true := by kernel_rfl
theorem bits44 (n : Nat) (h : Heap) (K : Out → Heap → Prop) (hn : n ≤ 2) (hK : ∀ m : Int, K (.ret (.int .i64 m)) h) : Wk T2 (.fn 44) [.int .u64 n] h K := by
  obtain ⟨m, hm⟩ := isI_eq (List.all_eq_true.1 bits_run n (List.mem_range.2 (by omega)))
  exact Wk_prim (p := cprim T1 100 44) (v := .int .i64 m) rfl rfl hm (hK m)
theorem wake7' {h : Heap} {K : Out → Heap → Prop} (hK : K (.ret (.bool true)) h) : Wk T2 (.fn 7) [] h K := Wk_prim (p := cprim T0 200 7) (v := .bool true) rfl rfl (isTV_eq awake_run) hK

theorem law5 {f : Fn} {at' : Int} {h : Heap} (hf : f.Ok h) (hsm : f.small) (hb : fnSize f < 5000000) : Wk T2 (.fn 5) [.agg f.cells.toArray, .int .i64 at'] h (fun o h' => o = .ret (.bool true)) := by
  refine Wk_fn T2_5 (by simp [C5]) ?_
  simp only [C5]
  have hb : iop (.box (.t 0)) (args0 [.agg f.cells.toArray, .int .i64 at']) h = some (ptr h.next 0, h.new (.cells f.cells true 0)) := by simp [iop, ev, args0, cellsOf]
  refine Wc_seq (Wc_ops (Wo_op hb (Wo_run (fun call => by simp only [List.drop_succ_cons, List.drop_zero, iops_nil, iops_op, iops_grd, iK_some, iG_true, iG_false, gval_bool, beq_true, beq_false, Bool.not_true, Bool.not_false, iop, ev, upd, dstUpd, binV, binI, unV, ptr, Heap.cell, Heap.write, cellsOf, put, args0, partL, List.getD_cons_zero, List.getD_cons_succ, List.length_cons, List.length_nil, List.set_cons_zero, List.set_cons_succ, List.getElem?_cons_zero, List.getElem?_cons_succ, reduceIte, Nat.reduceEqDiff, Nat.reduceAdd, Nat.reduceMul, Nat.reduceLeDiff, Nat.zero_add, Nat.add_zero, Option.map_some, Int.reduceEq, Int.reduceLT, Int.reduceLE, Bool.false_eq_true, decide_true, decide_false, ge_iff_le, gt_iff_lt, set_get']; rfl) ?_)))
  show Wc _ _ _ _
  have hg2 : (h.new (.cells f.cells true 0)).get h.next = some (.cells f.cells true 0) := new_get' _ _
  have hk : Kept h (h.new (.cells f.cells true 0)) := (Kept.refl h).new _
  have hn1 : (h.new (.cells f.cells true 0)).next = h.next + 1 := rfl
  generalize h.new (.cells f.cells true 0) = h1 at hg2 hk hn1 ⊢
  have hf1 := hf.keep hk
  have out : ∀ (e' : Env) (hp' : Heap), e' 4 = .bool true → ((Ex.ret = .normal ∨ Ex.ret = .ret) ∧ some ([] : List Dfr) = some [] ∧ ∃ vs, resAll e' hp' [.tmp 4] = some vs ∧ Out.ret (tup vs) = .ret (.bool true)) := by
    intro e' hp' h4
    exact ⟨.inr rfl, rfl, [.bool true], by simp only [resAll, resV, h4], rfl⟩
  have lx : ∀ {hq : Heap}, Kept h1 hq → hq.cells h.next 0 4 = some f.cells := fun hkq => cells_all (by rw [hkq.get _ (by omega)]; exact hg2) rfl
  refine Wc_seq (Wc_seq (Wc_ops (Wo_call (wake7' ?_))))
  show Wo _ _ _ _
  refine (Wo_run (fun call => by simp only [List.drop_succ_cons, List.drop_zero, iops_nil, iops_op, iops_grd, iK_some, iG_true, iG_false, gval_bool, beq_true, beq_false, Bool.not_true, Bool.not_false, iop, ev, upd, dstUpd, binV, binI, unV, ptr, Heap.cell, Heap.write, cellsOf, put, args0, partL, List.getD_cons_zero, List.getD_cons_succ, List.length_cons, List.length_nil, List.set_cons_zero, List.set_cons_succ, List.getElem?_cons_zero, List.getElem?_cons_succ, reduceIte, Nat.reduceEqDiff, Nat.reduceAdd, Nat.reduceMul, Nat.reduceLeDiff, Nat.zero_add, Nat.add_zero, Option.map_some, Int.reduceEq, Int.reduceLT, Int.reduceLE, Bool.false_eq_true, decide_true, decide_false, ge_iff_le, gt_iff_lt, set_get']; rfl) ?_)
  show Wc _ _ _ _
  refine Wc_cond false (by simp [ev, upd]) (fun h => by cases h) (fun _ => Wc_skip ?_)
  show Wc _ _ _ _
  -- few
  have hlit : ∀ e' : Env, e' 7 = .agg f.cells.toArray → iop (.lit 4 1 [(.string ⟨#[]⟩), (.int .i64 0), (.int .i64 0), (.slice none 0 0)] [(0, 4, (.t 7))]) e' h1 = some (.slice (some ⟨h1.next, 0, none⟩) 1 1, h1.new (.cells f.cells true 4)) := by
    intro e' he
    simp only [iop, evps, List.map_cons, List.map_nil, ev, he]
    rfl
  have hk2 : Kept h1 (h1.new (.cells f.cells true 4)) := (Kept.refl h1).new _
  have hgc : (h1.new (.cells f.cells true 4)).get h1.next = some (.cells f.cells true 4) := new_get' _ _
  refine Wc_seq (Wc_seq (Wc_ops (Wo_op (iop_load (b := h.next) (o := 0) (cs := f.cells) (by simp only [upd, dstUpd, reduceIte, Nat.reduceEqDiff, ptr]) (lx (.refl _))) (Wo_op (hlit _ (by simp only [upd, dstUpd, reduceIte, Nat.reduceEqDiff])) (Wo_pre 1 (fun call => by simp only [List.take_succ_cons, List.take_zero, List.drop_succ_cons, List.drop_zero, iops_nil, iops_op, iops_grd, iK_some, iG_true, iG_false, gval_bool, beq_true, beq_false, Bool.not_true, Bool.not_false, iop, ev, upd, dstUpd, binV, binI, unV, ptr, Heap.cell, Heap.write, cellsOf, put, args0, partL, List.getD_cons_zero, List.getD_cons_succ, List.length_cons, List.length_nil, List.set_cons_zero, List.set_cons_succ, List.getElem?_cons_zero, List.getElem?_cons_succ, reduceIte, Nat.reduceEqDiff, Nat.reduceAdd, Nat.reduceMul, Nat.reduceLeDiff, Nat.zero_add, Nat.add_zero, Option.map_some, Int.reduceEq, Int.reduceLT, Int.reduceLE, Bool.false_eq_true, decide_true, decide_false, ge_iff_le, gt_iff_lt, set_get', evps, List.map_cons, List.map_nil, fillL, Nat.le_refl, and_self]; rfl) ?_)))))
  have hn2 : (h1.new (.cells f.cells true 4)).next = h1.next + 1 := rfl
  generalize h1.new (.cells f.cells true 4) = h2 at hk2 hgc hn2 ⊢
  refine Wo_call ?_
  show Wk _ (.fn 8) [.agg (Cod.cells ⟨[f], .slice (some ⟨h1.next, 0, none⟩) 1 1, 0, 0⟩).toArray] h2 _
  have hcod : Cod.Ok h2 ⟨[f], .slice (some ⟨h1.next, 0, none⟩) 1 1, 0, 0⟩ := by
    refine ⟨⟨.inr ⟨h1.next, 1, rfl, by omega, .inr ⟨true, 4, by rw [hgc]; simp⟩⟩, fun g hg => by simp at hg; subst hg; exact hf1.keep hk2⟩, by show 1 ≤ maxLen; decide, by show i64ok 0; unfold i64ok; omega, by show i64ok 0; unfold i64ok; omega⟩
  refine (few8 T2_8 T2_20 _ h2 hcod ⟨by show 1 < _; decide, fun g hg => by simp at hg; subst hg; exact hsm⟩ (by show fnsSize [f] < _; simp only [fnsSize, List.map_cons, List.map_nil, List.sum_cons, List.sum_nil]; omega)).mono fun o h3 ⟨hk3, ho3⟩ => ?_
  subst ho3
  show Wo _ _ _ _
  cases decide (Cod.size ⟨[f], .slice (some ⟨h1.next, 0, none⟩) 1 1, 0, 0⟩ ≤ 2000) with
  | false =>
    refine (Wo_run (fun call => by simp only [List.drop_succ_cons, List.drop_zero, iops_nil, iops_op, iops_grd, iK_some, iG_true, iG_false, gval_bool, beq_true, beq_false, Bool.not_true, Bool.not_false, iop, ev, upd, dstUpd, binV, binI, unV, ptr, Heap.cell, Heap.write, cellsOf, put, args0, partL, List.getD_cons_zero, List.getD_cons_succ, List.length_cons, List.length_nil, List.set_cons_zero, List.set_cons_succ, List.getElem?_cons_zero, List.getElem?_cons_succ, reduceIte, Nat.reduceEqDiff, Nat.reduceAdd, Nat.reduceMul, Nat.reduceLeDiff, Nat.zero_add, Nat.add_zero, Option.map_some, Int.reduceEq, Int.reduceLT, Int.reduceLE, Bool.false_eq_true, decide_true, decide_false, ge_iff_le, gt_iff_lt, set_get']; rfl) ?_)
    show Wc _ _ _ _
    refine Wc_cond true (by simp [ev, upd]) (fun _ => ?_) (fun h => by cases h)
    refine Wc_seq (Wc_ops (Wo_run (fun call => by simp only [List.drop_succ_cons, List.drop_zero, iops_nil, iops_op, iops_grd, iK_some, iG_true, iG_false, gval_bool, beq_true, beq_false, Bool.not_true, Bool.not_false, iop, ev, upd, dstUpd, binV, binI, unV, ptr, Heap.cell, Heap.write, cellsOf, put, args0, partL, List.getD_cons_zero, List.getD_cons_succ, List.length_cons, List.length_nil, List.set_cons_zero, List.set_cons_succ, List.getElem?_cons_zero, List.getElem?_cons_succ, reduceIte, Nat.reduceEqDiff, Nat.reduceAdd, Nat.reduceMul, Nat.reduceLeDiff, Nat.zero_add, Nat.add_zero, Option.map_some, Int.reduceEq, Int.reduceLT, Int.reduceLE, Bool.false_eq_true, decide_true, decide_false, ge_iff_le, gt_iff_lt, set_get']; rfl) ?_))
    exact Wc_ret (out _ _ (by simp [upd, dstUpd]))
  | true =>
  refine (Wo_run (fun call => by simp only [List.drop_succ_cons, List.drop_zero, iops_nil, iops_op, iops_grd, iK_some, iG_true, iG_false, gval_bool, beq_true, beq_false, Bool.not_true, Bool.not_false, iop, ev, upd, dstUpd, binV, binI, unV, ptr, Heap.cell, Heap.write, cellsOf, put, args0, partL, List.getD_cons_zero, List.getD_cons_succ, List.length_cons, List.length_nil, List.set_cons_zero, List.set_cons_succ, List.getElem?_cons_zero, List.getElem?_cons_succ, reduceIte, Nat.reduceEqDiff, Nat.reduceAdd, Nat.reduceMul, Nat.reduceLeDiff, Nat.zero_add, Nat.add_zero, Option.map_some, Int.reduceEq, Int.reduceLT, Int.reduceLE, Bool.false_eq_true, decide_true, decide_false, ge_iff_le, gt_iff_lt, set_get']; rfl) ?_)
  show Wc _ _ _ _
  refine Wc_cond false (by simp [ev, upd]) (fun h => by cases h) (fun _ => Wc_skip ?_)
  show Wc _ _ _ _
  have hk13 := hk2.trans hk3
  have hlt3 : h.next < h3.next := by have := hk3.next; have := hk2.next; omega
  refine Wc_seq (Wc_drawK ?_)
  refine WdK_R rfl (iop_load (b := h.next) (o := 0) (cs := f.cells) (by simp only [upd, dstUpd, reduceIte, Nat.reduceEqDiff, ptr]) (lx hk13)) (by simp only [locOp, ev, upd, dstUpd, reduceIte, Nat.reduceEqDiff, Below]; exact hlt3) ?_
  refine WdK_P rfl rfl (WdK_call ?_)
  show Wk _ (.fn 16) [.agg f.cells.toArray, .int .i64 at'] h3 _
  refine (next16 T2_16 T2_29 T2_30 bits44 T2_43 T2_48 T2_54 T2_65 T2_31 (at' := at') (hf1.keep hk13)).mono fun o h4 ⟨hk4, va, ho4, hra⟩ => ?_
  subst ho4
  refine ⟨hk4, ?_⟩
  refine WdK_R rfl (iop_load (b := h.next) (o := 0) (cs := f.cells) (by simp only [upd, dstUpd, reduceIte, Nat.reduceEqDiff, ptr]) (lx (hk13.trans hk4))) (by simp only [locOp, ev, upd, dstUpd, reduceIte, Nat.reduceEqDiff, Below]; exact hlt3) ?_
  refine WdK_P rfl rfl (WdK_call ?_)
  show Wk _ (.fn 17) [.agg f.cells.toArray, .int .i64 at'] h4 _
  refine (next17 T2_17 (at' := at') (hf1.keep (hk13.trans hk4))).mono fun o h5 ⟨hk5, vb, ho5, hrb⟩ => ?_
  subst ho5
  refine ⟨hk5, WdK_call ?_⟩
  show Wk _ (.fn 11) [va, vb] h5 _
  refine (ints11R T2_11 (hra.keep hk5) hrb (by rw [next_eq]; exact nextR_len f at')).mono fun o h6 ⟨u1, u2⟩ => ?_
  subst u1 u2
  refine ⟨.refl _, WdK_P rfl rfl (WdK_nil ?_)⟩
  show Wc _ _ _ _
  refine Wc_ret (out _ _ ?_)
  simp only [upd, dstUpd, reduceIte, Nat.reduceEqDiff, ev]
  rw [next_eq]
  simp

end Go.Idl
end

section
/- IrNext: for any function and place (bulk at most 1048576, as the narrowed statement says) the law's call answers true and leaves its arguments as they were. -/
namespace Go.Proofs.Ytfdpknfndjllgaa.irNext
open Go.ChangeShapes Go.WideShapes Go.ChangeAt Go.RowKit Go.Idl
set_option linter.unusedVariables false
set_option linter.unusedSimpArgs false
set_option maxRecDepth 100000

theorem own : ownKnob Try.prog.godebug = none := by kernel_rfl

theorem kids : Kids Try.prog (· < Try.prog.types.size) := kids_rows (by kernel_rfl) (by kernel_rfl)
theorem full : ∀ t e, t < Try.prog.types.size → Try.prog.underlying t = some (.slice e) → 0 < Try.prog.cellsOf e := slices_full_of Try.prog (by kernel_rfl)
theorem rowed : (41 : Nat) < Try.prog.types.size := of_decide_eq_true (by kernel_rfl)

theorem insTy : Ty Try.prog insTD 34 := by
  simp only [insTD, Ty, TyL]
  refine ⟨_, Try.underlying34, ⟨_, _, rfl, rfl, Try.underlying3, by kernel_rfl, ⟨_, _, rfl, rfl, Try.underlying3, by kernel_rfl, ⟨_, _, rfl, rfl, Try.underlying3, by kernel_rfl, ⟨_, _, rfl, rfl, Try.underlying3, by kernel_rfl, ⟨_, _, rfl, rfl, Try.underlying2, by kernel_rfl, ⟨_, _, rfl, rfl, ⟨3, Try.underlying32, Try.underlying3, by kernel_rfl, by decide⟩, by kernel_rfl, rfl⟩⟩⟩⟩⟩⟩, by kernel_rfl⟩
theorem fnTy : Ty Try.prog fnTD 41 := by
  have hv : Ty Try.prog (.sl insTD) 39 := by
    rw [Ty]
    exact ⟨34, Try.underlying39, insTy, by kernel_rfl, by decide⟩
  unfold fnTD
  rw [Ty]
  simp only [TyL]
  exact ⟨_, Try.underlying41, ⟨_, _, rfl, rfl, by rw [Ty]; exact Try.underlying9, by kernel_rfl, ⟨_, _, rfl, rfl, by rw [Ty]; exact Try.underlying3, by kernel_rfl, ⟨_, _, rfl, rfl, by rw [Ty]; exact Try.underlying3, by kernel_rfl, ⟨_, _, rfl, rfl, hv, by kernel_rfl, rfl⟩⟩⟩⟩, by kernel_rfl⟩
mutual
theorem bulk_sum {H : Type} : ∀ (ds : List (DataW H)), (ds.map Rows.uptoBulk).sum = Rows.uptoBulkAll ds
  | [] => by simp [Rows.uptoBulkAll]
  | d :: ds => by simp [Rows.uptoBulkAll, bulk_sum ds]
end

theorem meas {H : Type} : Meas (Rows.uptoBulk (H := H)) :=
  ⟨fun b => by simp [Rows.uptoBulk], fun x => by cases x <;> simp [Rows.uptoBulk], fun es sp => by rw [bulk_sum]; simp only [Rows.uptoBulk]; omega, fun ds => by rw [bulk_sum]; simp only [Rows.uptoBulk]; omega⟩

theorem contract (H : Type) (enc : TypeId × Value → H) (W : World) (base : Nat) (args : Array Value) (ds gs : List (DataW H)) (before : List MemPlace)
    (hval : ∀ (j : Nat) t v, Try.f5.params[j]? = some t → args[j]? = some v → Value.okWide Try.prog W .any base t v)
    (hW : DataW.Whole enc Try.prog Try.f5.params.toList Rows.irNextSpec.vars false W args.toList ds gs before) (hk : Rows.uptoSmall H (ds ++ gs) = true) :
    Calls Try.prog 5 args W fun e W' => ∃ v, e = .returned v ∧ Rows.irNextSpec.post enc Try.prog Try.f5 false true false false W args v W' := by
  have hW' := hW
  obtain ⟨p, q, hA, hV, rfl, hfz, hnd⟩ := hW
  have hpar : Try.f5.params.toList = [41, 3] := by rw [Try.params5]
  rw [hpar] at hA
  have hagg : ∀ (j : Nat) t v, [41, 3][j]? = some t → args.toList[j]? = some v → ((∃ fs, Try.prog.underlying t = some (.struct fs)) ↔ ∃ cs, v = .agg cs) := by
    intro j t v ht hv
    have hok := hval j t v (by rw [Try.params5]; rw [← Array.getElem?_toList]; exact ht) (by simpa using hv)
    rcases j with _ | _ | j
    · simp at ht
      subst ht
      refine ⟨fun _ => ?_, fun _ => ⟨_, Try.underlying41⟩⟩
      cases v <;> first | exact ⟨_, rfl⟩ | (exfalso; simp [Value.okWide, Cell.okWide, Cell.ok, Try.underlying41] at hok)
    · simp at ht
      subst ht
      refine ⟨fun ⟨fs, h⟩ => (by rw [Try.underlying3] at h; cases h), fun ⟨cs, h⟩ => ?_⟩
      subst h
      exfalso; simp [Value.okWide, Cell.okWide, Cell.ok, Try.underlying3] at hok
    · simp at ht
  obtain ⟨ι, h, iargs, hok, hro, hla, hrep⟩ := layArgs0 [fnTD, .int .i64] ⟨41, [3], rfl, fnTy, ⟨3, [], rfl, by rw [Ty]; exact Try.underlying3, rfl⟩⟩ hA hagg
  simp only [LaysArgs] at hla
  obtain ⟨d, r, v, vr, rfl, rfl, ⟨cs, hl, hcs⟩, d2, r2, v2, vr2, rfl, rfl, ⟨cs2, hl2, hcs2⟩, rfl, rfl⟩ := hla
  obtain ⟨x, rfl, hx, hm⟩ := fn_of_lays hl
  have hvv : v = .agg x.cells.toArray := hcs
  subst hvv
  obtain ⟨n2, rfl, hw2, he2⟩ : ∃ n, d2 = .lit (.int .i64 n) ∧ (Lit.int .i64 n).wf = true ∧ cs2 = [.int .i64 n] := by simpa only [Lays] using hl2
  have hcs2' : cs2 = [v2] := hcs2
  rw [he2] at hcs2'
  obtain rfl : v2 = .int .i64 n2 := by simpa using hcs2'.symm
  have hb := hm _ meas
  have hbk : Rows.uptoBulkAll ([d, .lit (.int .i64 n2)] ++ gs) ≤ 1048576 := of_decide_eq_true hk
  have hbd : Rows.uptoBulk d ≤ 1048576 := by
    simp only [List.cons_append, List.nil_append, Rows.uptoBulkAll] at hbk; omega
  obtain ⟨s1, s2, s3⟩ := fnW_size x
  obtain ⟨n, out, h', hi, rfl⟩ := law5 (at' := n2) hx ⟨by unfold Idl.small; omega, fun y hy => by have := s3 y hy; unfold Idl.small; omega⟩ (by omega)
  have hc := calls_old T2ok hi hok hrep
  rw [show args.toList.toArray = args by simp] at hc
  refine hc.mono fun e W' ⟨⟨w, he, ι', hr⟩, h1, h2, h3, h4, h5⟩ => ?_
  have hw : w = .bool true := rep_ofbool hr
  subst hw
  exact ⟨_, he, post_old (tb := 4) hW' rfl (by kernel_rfl) Try.underlying4 rfl kids full (fun t ht => by
    rw [hpar] at ht
    simp only [List.mem_cons, List.not_mem_nil, or_false] at ht
    rcases ht with rfl | rfl <;> exact Nat.lt_of_le_of_lt (by decide) rowed) h1 h2 h3 h5⟩

theorem lifted (os : Os) (started : os.Started) (H : Type) (enc : TypeId × Value → H) (F : Stop.Interp) :
    ReturnsInHanded {} Try.checked os 5 .any ((Rows.OpenSpec.upto Rows.irNextSpec).pre6 enc Try.prog Try.f5 Rows.irNextUptoRow.domain false) (((Rows.OpenSpec.upto Rows.irNextSpec).at F).post enc Try.prog Try.f5 false true false false) := by
  refine returnsInHanded_of_cond (C := Try.checked) (s := Rows.OpenSpec.upto Rows.irNextSpec) (k := Rows.uptoSmall) rfl own started (by kernel_rfl) Try.func5
    (OpenSpec.witness (enc := enc) (C := Try.checked) (s := Rows.OpenSpec.upto Rows.irNextSpec) (k := Rows.uptoSmall) rfl false ⟨#[], #[.agg #[.string ⟨#[]⟩, .int .i64 0, .int .i64 0, .slice none 0 0], .int .i64 0], []⟩ 8 (by kernel_rfl) (by kernel_rfl) (by kernel_rfl)
      (x := ([.agg [.lit (.string []), .lit (.int .i64 0), .lit (.int .i64 0), .nil], .lit (.int .i64 0)], [], [])) (by kernel_rfl) rfl (by kernel_rfl)) ?_
  intro W base args ds gs before hval hW _ hk _
  exact contract H enc W base args ds gs before hval hW hk

theorem over : Rows.irNextUptoRow.holds Try.pinned (Rows.OpenSpec.upto Rows.irNextSpec) :=
  OpenClaim.holds_of_cond 5 Try.f5 rfl rfl rfl rfl rfl rfl rfl ⟨rfl, rfl, rfl, rfl, rfl⟩ rfl rfl rfl rfl rfl (by kernel_rfl) Try.func5 (by kernel_rfl)
    (of_decide_eq_true (by kernel_rfl)) (by unfold Func.isWrapper; first | (rw [if_pos (by decide +kernel)]; kernel_rfl) | (rw [if_neg (by decide +kernel)]; exact ⟨rfl, rfl⟩))
    (fun os started H enc _ F => lifted os started H enc F)

theorem proved : Rows.IrNextUptoSaid :=
  over

end Go.Proofs.Ytfdpknfndjllgaa.irNext
end
