/- tree.Same and the reference's Same. -/
import Derived.Test.YtlphecjgkknpnaaN3
import Derived.Test.YtlphecjgkknpnaaFsame
namespace Go.Idl
set_option linter.unusedVariables false
set_option linter.unusedSimpArgs false

def Nd.sig (x : Nd) : Int × ByteArray × List Int := (x.kind, x.text, x.kids)
def sameB (a b : List Nd) : Bool := decide (a.map Nd.sig = b.map Nd.sig)

theorem ints64_get {l : List Int} {i : Nat} {k : Int} (h : l[i]? = some k) : (ints64 l)[i]? = some (.int .i64 k) := by simp [ints64, h]

theorem take_eq_succ {α : Type} {a b : List α} {i : Nat} (h : a.take i = b.take i) {x : α} (ha : a[i]? = some x) (hb : b[i]? = some x) : a.take (i + 1) = b.take (i + 1) := by
  rw [List.take_add_one, List.take_add_one, h, ha, hb]
theorem ne_of_at {α : Type} {a b : List α} {i : Nat} {x y : α} (ha : a[i]? = some x) (hb : b[i]? = some y) (h : x ≠ y) : a ≠ b := by
  rintro rfl
  rw [ha] at hb; exact h (Option.some.inj hb)

/-- The kids of two nodes: the program's loop. -/
theorem kids16 {T : Tbl} {h0 hp : Heap} {ks ls : List Int} {xv yv : Value} {e : Env} {b7 : Nat} {o : Bool} {z : Nat} {q : List Value} {Q : Ex → St → Prop} (hx : intsAt h0 xv ks) (hy : intsAt h0 yv ls) (hk : Kept h0 hp)
    (hl : ls.length = ks.length) (hb : ks.length < 4611686018427387904) (h48 : e 48 = xv) (h49 : e 49 = .int .i64 ks.length) (h50 : e 50 = .int .i64 0) (h7 : e 7 = ptr b7 0)
    (hg7 : hp.get b7 = some (.cells q o z)) (hq : q[2]? = some yv)
    (hyes : ks = ls → ∀ e' : Env, (∀ t, t < 48 → t ≠ 8 → t ≠ 9 → e' t = e t) → Q (.brk 2) ⟨e', hp, some []⟩) (hno : ks ≠ ls → ∀ e' : Env, e' 4 = .bool false → Q .ret ⟨e', hp, some []⟩) : Wc T (.loop C16L0) ⟨e, hp, some []⟩ Q := by
  refine Wc_loop (fun s => s.d = some [] ∧ s.h = hp ∧ s.e 48 = xv ∧ s.e 49 = .int .i64 ks.length ∧ s.e 7 = ptr b7 0 ∧ (∀ t, t < 48 → t ≠ 8 → t ≠ 9 → s.e t = e t) ∧ ∃ i : Nat, i ≤ ks.length ∧ s.e 50 = .int .i64 i ∧ ks.take i = ls.take i)
    (fun s => match s.e 50 with | .int _ i => (ks.length - i).toNat | _ => 0) ?_ ?_
  · exact ⟨rfl, rfl, h48, h49, h7, fun _ _ _ _ => rfl, 0, Nat.zero_le _, h50, rfl⟩
  rintro ⟨f, hp', d⟩ ⟨hd, hh, g48, g49, g7, hf, i, hi, g50, ht⟩
  simp only at hd hh g48 g49 g7 hf g50
  subst hd hh
  rw [C16L0]
  refine Wc_seq (Wc_ops (Wo_run (fun call => by simp only [List.drop_succ_cons, List.drop_zero, iops_nil, iops_op, iops_grd, iK_some, iG_true, iG_false, gval_bool, beq_true, beq_false, Bool.not_true, Bool.not_false, iop, ev, upd, dstUpd, binV, binI, unV, ptr, Heap.cell, Heap.write, cellsOf, put, args0, partL, List.getD_cons_zero, List.getD_cons_succ, List.length_cons, List.length_nil, List.set_cons_zero, List.set_cons_succ, List.getElem?_cons_zero, List.getElem?_cons_succ, reduceIte, Nat.reduceEqDiff, Nat.reduceAdd, Nat.reduceMul, Nat.reduceLeDiff, Nat.zero_add, Nat.add_zero, Option.map_some, Int.reduceEq, Int.reduceLT, Int.reduceLE, Bool.false_eq_true, decide_true, decide_false, ge_iff_le, gt_iff_lt, set_get', g49, g50]; rfl) ?_))
  show Wc T _ _ _
  refine Wc_seq (Wc_cond (decide ((i : Int) < ks.length)) (by simp [ev, upd]) (fun hlt => Wc_skip ?_) (fun hge => Wc_exit ?_))
  case refine_2 =>
    have : i = ks.length := by simp at hge; omega
    subst this
    exact hyes (by rw [List.take_length, ← hl, List.take_length] at ht; exact ht) _ (fun t h1 h2 h3 => by simp only [upd]; rw [if_neg (by omega)]; exact hf t h1 h2 h3)
  show Wc T _ _ _
  have hil : i < ks.length := by simpa using hlt
  obtain ⟨x, hxi⟩ : ∃ x, ks[i]? = some x := ⟨_, List.getElem?_eq_getElem hil⟩
  obtain ⟨y, hyi⟩ : ∃ y, ls[i]? = some y := ⟨_, List.getElem?_eq_getElem (by omega)⟩
  obtain ⟨bx, cx, rfl, hbx, ⟨o1, z1, hgx⟩, hcx⟩ := hx.load hxi
  obtain ⟨by', cy, rfl, hby, ⟨o2, z2, hgy⟩, hcy⟩ := hy.load hyi
  have hgx' : hp'.get bx = some (.cells (ints64 ks) o1 z1) := by rw [hk.get bx hbx]; exact hgx
  have hgy' : hp'.get by' = some (.cells (ints64 ls) o2 z2) := by rw [hk.get by' hby]; exact hgy
  rw [Nat.zero_add, Nat.mul_one] at hcx hcy
  have e1 : IntKind.i64.wrap ((i : Int) + 1) = ((i + 1 : Nat) : Int) := by rw [wrap64] <;> omega
  rw [← hl] at hil
  have hil' : i < ks.length := by omega
  refine Wc_seq (Wc_block (Wc_seq (Wc_ops (Wo_run (fun call => by simp only [List.drop_succ_cons, List.drop_zero, iops_nil, iops_op, iops_grd, iK_some, iG_true, iG_false, gval_bool, beq_true, beq_false, Bool.not_true, Bool.not_false, iop, ev, upd, dstUpd, binV, binI, unV, ptr, Heap.cell, Heap.write, cellsOf, put, args0, partL, List.getD_cons_zero, List.getD_cons_succ, List.length_cons, List.length_nil, List.set_cons_zero, List.set_cons_succ, List.getElem?_cons_zero, List.getElem?_cons_succ, reduceIte, Nat.reduceEqDiff, Nat.reduceAdd, Nat.reduceMul, Nat.reduceLeDiff, Nat.zero_add, Nat.add_zero, Option.map_some, Int.reduceEq, Int.reduceLT, Int.reduceLE, Bool.false_eq_true, decide_true, decide_false, ge_iff_le, gt_iff_lt, set_get', g48, g50, idx_ok hil', hgx', hcx, Nat.mul_one]; rfl) ?_))))
  show Wc T _ _ _
  refine Wc_seq (Wc_ops (Wo_run (fun call => by simp only [List.drop_succ_cons, List.drop_zero, iops_nil, iops_op, iops_grd, iK_some, iG_true, iG_false, gval_bool, beq_true, beq_false, Bool.not_true, Bool.not_false, iop, ev, upd, dstUpd, binV, binI, unV, ptr, Heap.cell, Heap.write, cellsOf, put, args0, partL, List.getD_cons_zero, List.getD_cons_succ, List.length_cons, List.length_nil, List.set_cons_zero, List.set_cons_succ, List.getElem?_cons_zero, List.getElem?_cons_succ, reduceIte, Nat.reduceEqDiff, Nat.reduceAdd, Nat.reduceMul, Nat.reduceLeDiff, Nat.zero_add, Nat.add_zero, Option.map_some, Int.reduceEq, Int.reduceLT, Int.reduceLE, Bool.false_eq_true, decide_true, decide_false, ge_iff_le, gt_iff_lt, set_get', g7, hg7, hq, idx_ok hil, hgy', hcy, Nat.mul_one]; rfl) ?_))
  show Wc T _ _ _
  refine Wc_cond (y != x) (by simp [ev, upd]) (fun hne => ?_) (fun heq => Wc_skip ?_)
  · refine Wc_seq (Wc_ops (Wo_run (fun call => by simp only [List.drop_succ_cons, List.drop_zero, iops_nil, iops_op, iops_grd, iK_some, iG_true, iG_false, gval_bool, beq_true, beq_false, Bool.not_true, Bool.not_false, iop, ev, upd, dstUpd, binV, binI, unV, ptr, Heap.cell, Heap.write, cellsOf, put, args0, partL, List.getD_cons_zero, List.getD_cons_succ, List.length_cons, List.length_nil, List.set_cons_zero, List.set_cons_succ, List.getElem?_cons_zero, List.getElem?_cons_succ, reduceIte, Nat.reduceEqDiff, Nat.reduceAdd, Nat.reduceMul, Nat.reduceLeDiff, Nat.zero_add, Nat.add_zero, Option.map_some, Int.reduceEq, Int.reduceLT, Int.reduceLE, Bool.false_eq_true, decide_true, decide_false, ge_iff_le, gt_iff_lt, set_get']; rfl) ?_))
    refine Wc_ret ?_
    exact hno (ne_of_at hxi hyi (by simpa using fun h => (bne_iff_ne.1 hne) h.symm)) _ (by simp [upd, dstUpd])
  · show Wc T _ _ _
    have hxy : y = x := by simpa using heq
    subst hxy
    refine Wc_ops (Wo_run (fun call => by simp only [List.drop_succ_cons, List.drop_zero, iops_nil, iops_op, iops_grd, iK_some, iG_true, iG_false, gval_bool, beq_true, beq_false, Bool.not_true, Bool.not_false, iop, ev, upd, dstUpd, binV, binI, unV, ptr, Heap.cell, Heap.write, cellsOf, put, args0, partL, List.getD_cons_zero, List.getD_cons_succ, List.length_cons, List.length_nil, List.set_cons_zero, List.set_cons_succ, List.getElem?_cons_zero, List.getElem?_cons_succ, reduceIte, Nat.reduceEqDiff, Nat.reduceAdd, Nat.reduceMul, Nat.reduceLeDiff, Nat.zero_add, Nat.add_zero, Option.map_some, Int.reduceEq, Int.reduceLT, Int.reduceLE, Bool.false_eq_true, decide_true, decide_false, ge_iff_le, gt_iff_lt, set_get', g50, e1]; rfl) ?_)
    refine ⟨⟨rfl, rfl, ?_, ?_, ?_, fun t h1 h2 h3 => ?_, i + 1, by omega, ?_, take_eq_succ ht hxi hyi⟩, ?_⟩
    · simp only [upd, Nat.reduceEqDiff, reduceIte]; exact g48
    · simp only [upd, Nat.reduceEqDiff, reduceIte]; exact g49
    · simp only [upd, Nat.reduceEqDiff, reduceIte]; exact g7
    · simp only [upd]; repeat rw [if_neg (by omega)]
      exact hf t h1 h2 h3
    · simp only [upd, Nat.reduceEqDiff, reduceIte]
    · simp only [upd, Nat.reduceEqDiff, reduceIte, g50]; omega

/-- The kids of two nodes: the reference's loop. -/
theorem kids17 {T : Tbl} {h0 hp : Heap} {ks ls : List Int} {xv yv : Value} {e : Env} {b6 b7 : Nat} {o6 o : Bool} {z6 z : Nat} {q6 q : List Value} {Q : Ex → St → Prop} (hx : intsAt h0 xv ks) (hy : intsAt h0 yv ls) (hk : Kept h0 hp)
    (hl : ls.length = ks.length) (hb : ks.length < 4611686018427387904) (h50 : e 50 = .int .i64 ks.length) (h51 : e 51 = .int .i64 0) (h7 : e 7 = ptr b7 0) (h6 : e 6 = ptr b6 0)
    (hg6 : hp.get b6 = some (.cells q6 o6 z6)) (hq6 : q6[2]? = some xv) (hg7 : hp.get b7 = some (.cells q o z)) (hq : q[2]? = some yv)
    (hyes : ks = ls → ∀ e' : Env, (∀ t, t < 50 → t ≠ 8 → e' t = e t) → Q (.brk 2) ⟨e', hp, some []⟩) (hno : ks ≠ ls → ∀ e' : Env, e' 4 = .bool false → Q .ret ⟨e', hp, some []⟩) : Wc T (.loop C17L0) ⟨e, hp, some []⟩ Q := by
  refine Wc_loop (fun s => s.d = some [] ∧ s.h = hp ∧ s.e 50 = .int .i64 ks.length ∧ s.e 7 = ptr b7 0 ∧ s.e 6 = ptr b6 0 ∧ (∀ t, t < 50 → t ≠ 8 → s.e t = e t) ∧ ∃ i : Nat, i ≤ ks.length ∧ s.e 51 = .int .i64 i ∧ ks.take i = ls.take i)
    (fun s => match s.e 51 with | .int _ i => (ks.length - i).toNat | _ => 0) ?_ ?_
  · exact ⟨rfl, rfl, h50, h7, h6, fun _ _ _ => rfl, 0, Nat.zero_le _, h51, rfl⟩
  rintro ⟨f, hp', d⟩ ⟨hd, hh, g50, g7, g6, hf, i, hi, g51, ht⟩
  simp only at hd hh g50 g7 g6 hf g51
  subst hd hh
  rw [C17L0]
  refine Wc_seq (Wc_ops (Wo_run (fun call => by simp only [List.drop_succ_cons, List.drop_zero, iops_nil, iops_op, iops_grd, iK_some, iG_true, iG_false, gval_bool, beq_true, beq_false, Bool.not_true, Bool.not_false, iop, ev, upd, dstUpd, binV, binI, unV, ptr, Heap.cell, Heap.write, cellsOf, put, args0, partL, List.getD_cons_zero, List.getD_cons_succ, List.length_cons, List.length_nil, List.set_cons_zero, List.set_cons_succ, List.getElem?_cons_zero, List.getElem?_cons_succ, reduceIte, Nat.reduceEqDiff, Nat.reduceAdd, Nat.reduceMul, Nat.reduceLeDiff, Nat.zero_add, Nat.add_zero, Option.map_some, Int.reduceEq, Int.reduceLT, Int.reduceLE, Bool.false_eq_true, decide_true, decide_false, ge_iff_le, gt_iff_lt, set_get', g50, g51]; rfl) ?_))
  show Wc T _ _ _
  refine Wc_seq (Wc_cond (decide ((i : Int) < ks.length)) (by simp [ev, upd]) (fun hlt => Wc_skip ?_) (fun hge => Wc_exit ?_))
  case refine_2 =>
    have : i = ks.length := by simp at hge; omega
    subst this
    exact hyes (by rw [List.take_length, ← hl, List.take_length] at ht; exact ht) _ (fun t h1 h2 => by simp only [upd]; rw [if_neg (by omega)]; exact hf t h1 h2)
  show Wc T _ _ _
  have hil : i < ks.length := by simpa using hlt
  obtain ⟨x, hxi⟩ : ∃ x, ks[i]? = some x := ⟨_, List.getElem?_eq_getElem hil⟩
  obtain ⟨y, hyi⟩ : ∃ y, ls[i]? = some y := ⟨_, List.getElem?_eq_getElem (by omega)⟩
  obtain ⟨bx, cx, rfl, hbx, ⟨o1, z1, hgx⟩, hcx⟩ := hx.load hxi
  obtain ⟨by', cy, rfl, hby, ⟨o2, z2, hgy⟩, hcy⟩ := hy.load hyi
  have hgx' : hp'.get bx = some (.cells (ints64 ks) o1 z1) := by rw [hk.get bx hbx]; exact hgx
  have hgy' : hp'.get by' = some (.cells (ints64 ls) o2 z2) := by rw [hk.get by' hby]; exact hgy
  rw [Nat.zero_add, Nat.mul_one] at hcx hcy
  have e1 : IntKind.i64.wrap ((i : Int) + 1) = ((i + 1 : Nat) : Int) := by rw [wrap64] <;> omega
  rw [← hl] at hil
  have hil' : i < ks.length := by omega
  refine Wc_seq (Wc_block (Wc_seq (Wc_ops (Wo_run (fun call => by simp only [List.drop_succ_cons, List.drop_zero, iops_nil, iops_op, iops_grd, iK_some, iG_true, iG_false, gval_bool, beq_true, beq_false, Bool.not_true, Bool.not_false, iop, ev, upd, dstUpd, binV, binI, unV, ptr, Heap.cell, Heap.write, cellsOf, put, args0, partL, List.getD_cons_zero, List.getD_cons_succ, List.length_cons, List.length_nil, List.set_cons_zero, List.set_cons_succ, List.getElem?_cons_zero, List.getElem?_cons_succ, reduceIte, Nat.reduceEqDiff, Nat.reduceAdd, Nat.reduceMul, Nat.reduceLeDiff, Nat.zero_add, Nat.add_zero, Option.map_some, Int.reduceEq, Int.reduceLT, Int.reduceLE, Bool.false_eq_true, decide_true, decide_false, ge_iff_le, gt_iff_lt, set_get', g51]; rfl) ?_))))
  show Wc T _ _ _
  refine Wc_seq (Wc_draw_calm (by decide) (Wo_run (fun call => by simp only [iops_nil, iops_op, iK_some, iop, ev, upd, dstUpd, ptr, Heap.cell, binV, binI, Nat.reduceEqDiff, reduceIte, Nat.zero_add, Nat.mul_one, Option.map_some, g51, g6, g7, hg6, hq6, hg7, hq, idx_ok hil, idx_ok hil', hgx', hcx, hgy', hcy]; rfl) ⟨rfl, ?_⟩))
  show Wc T _ _ _
  refine Wc_cond (x != y) (by simp [ev, upd]) (fun hne => ?_) (fun heq => Wc_skip ?_)
  · refine Wc_seq (Wc_ops (Wo_run (fun call => by simp only [List.drop_succ_cons, List.drop_zero, iops_nil, iops_op, iops_grd, iK_some, iG_true, iG_false, gval_bool, beq_true, beq_false, Bool.not_true, Bool.not_false, iop, ev, upd, dstUpd, binV, binI, unV, ptr, Heap.cell, Heap.write, cellsOf, put, args0, partL, List.getD_cons_zero, List.getD_cons_succ, List.length_cons, List.length_nil, List.set_cons_zero, List.set_cons_succ, List.getElem?_cons_zero, List.getElem?_cons_succ, reduceIte, Nat.reduceEqDiff, Nat.reduceAdd, Nat.reduceMul, Nat.reduceLeDiff, Nat.zero_add, Nat.add_zero, Option.map_some, Int.reduceEq, Int.reduceLT, Int.reduceLE, Bool.false_eq_true, decide_true, decide_false, ge_iff_le, gt_iff_lt, set_get']; rfl) ?_))
    refine Wc_ret ?_
    exact hno (ne_of_at hxi hyi (by simpa using hne)) _ (by simp [upd, dstUpd])
  · show Wc T _ _ _
    have hxy : x = y := by simpa using heq
    subst hxy
    refine Wc_ops (Wo_run (fun call => by simp only [List.drop_succ_cons, List.drop_zero, iops_nil, iops_op, iops_grd, iK_some, iG_true, iG_false, gval_bool, beq_true, beq_false, Bool.not_true, Bool.not_false, iop, ev, upd, dstUpd, binV, binI, unV, ptr, Heap.cell, Heap.write, cellsOf, put, args0, partL, List.getD_cons_zero, List.getD_cons_succ, List.length_cons, List.length_nil, List.set_cons_zero, List.set_cons_succ, List.getElem?_cons_zero, List.getElem?_cons_succ, reduceIte, Nat.reduceEqDiff, Nat.reduceAdd, Nat.reduceMul, Nat.reduceLeDiff, Nat.zero_add, Nat.add_zero, Option.map_some, Int.reduceEq, Int.reduceLT, Int.reduceLE, Bool.false_eq_true, decide_true, decide_false, ge_iff_le, gt_iff_lt, set_get', g51, e1]; rfl) ?_)
    refine ⟨⟨rfl, rfl, ?_, ?_, ?_, fun t h1 h2 => ?_, i + 1, by omega, ?_, take_eq_succ ht hxi hyi⟩, ?_⟩
    · simp only [upd, Nat.reduceEqDiff, reduceIte]; exact g50
    · simp only [upd, Nat.reduceEqDiff, reduceIte]; exact g7
    · simp only [upd, Nat.reduceEqDiff, reduceIte]; exact g6
    · simp only [upd]; repeat rw [if_neg (by omega)]
      exact hf t h1 h2
    · simp only [upd, Nat.reduceEqDiff, reduceIte]
    · simp only [upd, Nat.reduceEqDiff, reduceIte, g51]; omega

end Go.Idl
