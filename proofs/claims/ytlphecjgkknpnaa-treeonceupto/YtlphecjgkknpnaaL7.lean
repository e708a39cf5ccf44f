/- Numbers, by the scanner. -/
import Derived.Test.YtlphecjgkknpnaaL2
import Derived.KernelRfl
section
/- Numbers: what a text is as a number. -/
namespace Go.Idl
set_option linter.unusedVariables false
set_option linter.unusedSimpArgs false
set_option maxRecDepth 100000

variable {T : Tbl}

theorem idx0 {k : IntKind} {n : Nat} (h : 0 < n) : idxV n (.int k 0) = some 0 := by simp [idxV, h]
theorem idx1 {k : IntKind} {n : Nat} (h : 1 < n) : idxV n (.int k 1) = some 1 := by simp [idxV]; omega
theorem idx2 {k : IntKind} {n : Nat} (h : 2 < n) : idxV n (.int k 2) = some 2 := by simp [idxV]; omega

/-- A text's byte, 0 where there is none. -/
def bt (l : List UInt8) (i : Nat) : Int := ((l.getD i 0).toNat : Nat)
theorem bt_at {l : List UInt8} {i : Nat} {b : UInt8} (h : l[i]? = some b) : bt l i = ((b.toNat : Nat) : Int) := by simp [bt, List.getD_eq_getElem?_getD, h]
theorem bt_no {l : List UInt8} {i : Nat} (h : l.length ≤ i) : bt l i = 0 := by simp [bt, List.getD_eq_getElem?_getD, List.getElem?_eq_none h]

def numR (l : List UInt8) : Int × Bool :=
  match bt l 0 == 39 with
  | true => match decide (l.length = 3) && (bt l 2 == 39) && decide (32 ≤ bt l 1) && decide (bt l 1 ≤ 126) with
    | true => (bt l 1, true)
    | false => (0, false)
  | false => match decide (1 < l.length) && (bt l 0 == 48) && (bt l 1 == 120) with
    | true => wholeR 16 (l.drop 2)
    | false => wholeR 10 l

def numV (s : ByteArray) : Value := .tuple #[.int .i64 (numR (bs s)).1, .bool (numR (bs s)).2]

theorem emp (s : ByteArray) : (decide (s = ⟨#[]⟩) = true ↔ (bs s).length = 0) := by
  rw [decide_eq_true_iff, List.length_eq_zero_iff]
  exact ⟨fun h => by rw [h]; rfl, fun h => bs_inj h⟩
theorem emp_t {s : ByteArray} (h : s.size = 0) : decide (s = ⟨#[]⟩) = true := (emp s).2 (by rw [← bs_size]; exact h)
theorem emp_f {s : ByteArray} (h : 0 < s.size) : decide (s = ⟨#[]⟩) = false := by
  cases hd : decide (s = ⟨#[]⟩) with
  | false => rfl
  | true => have := (emp s).1 hd; rw [← bs_size] at this; omega

theorem number_ok (hT : T.fn 36 = some C36) (hw : T.fn 51 = some C51) (hf : T.fn 55 = some C55) (hd : T.fn 49 = some C49) {s : ByteArray} {h : Heap} (hs : s.size < 9223372036854775807) :
    Wk T (.fn 36) [.string s] h (fun o h' => h' = h ∧ o = .ret (numV s)) := by
  refine Wk_fn hT (by simp [C36]) ?_
  simp only [C36]
  have fin : ∀ (e : Env) (n : Int) (b : Bool), e 2 = .int .i64 n → e 3 = .bool b → numR (bs s) = (n, b) → (Ex.ret = .normal ∨ Ex.ret = .ret) ∧ some ([] : List Dfr) = some [] ∧ ∃ vs, resAll e h [.tmp 2, .tmp 3] = some vs ∧ h = h ∧ Out.ret (tup vs) = .ret (numV s) := fun e n b h2 h3 hn =>
    ⟨.inr rfl, rfl, [.int .i64 n, .bool b], by simp only [resAll, resV, h2, h3], rfl, by rw [numV, hn]; rfl⟩
  refine Wc_seq (Wc_ops (Wo_run (fun call => by simp only [List.drop_succ_cons, List.drop_zero, iops_nil, iops_op, iops_grd, iK_some, iG_true, iG_false, gval_bool, beq_self_eq_true, beq_true, beq_false, Bool.not_true, Bool.not_false, iop, ev, upd, dstUpd, binV, binI, unV, ptr, Heap.cell, Heap.write, cellsOf, put, args0, partL, List.getD_cons_zero, List.getD_cons_succ, List.length_cons, List.length_nil, List.set_cons_zero, List.set_cons_succ, List.getElem?_cons_zero, List.getElem?_cons_succ, reduceIte, Nat.reduceEqDiff, Nat.reduceAdd, Nat.reduceMul, Nat.reduceLeDiff, Nat.zero_add, Nat.add_zero, Option.map_some, Int.reduceEq, Int.reduceLT, Int.reduceLE, Bool.false_eq_true, decide_true, decide_false, ge_iff_le, gt_iff_lt, set_get']; rfl) ?_))
  show Wc T _ _ _
  have hlen : (bs s).length = s.size := (bs_size s).symm
  -- the rest: no quote
  have rest : (bt (bs s) 0 == 39) = false → ∀ (e : Env), e 0 = .string s → Wc T (.seq (.seq (.ops [⟨(some 32), .op (.mov (.t 0)), none⟩, ⟨(some 33), .op (.len .str (.t 32)), none⟩, ⟨(some 34), .op (.bin .gtr (.t 33) (.c (.int .i64 1))), none⟩, ⟨(some 35), .op (.mov (.t 34)), none⟩,
      ⟨(some 36), .op (.mov (.t 0)), (some (35, true))⟩, ⟨(some 37), .op (.sidx (.t 36) (.c (.int .i64 0))), (some (35, true))⟩, ⟨(some 38), .op (.bin .eql (.t 37) (.c (.int .u8 48))), (some (35, true))⟩, ⟨(some 39), .op (.pick (.t 35) (.t 38) (.c (.bool false))), none⟩, ⟨(some 40), .op (.mov (.t 39)), none⟩,
      ⟨(some 41), .op (.mov (.t 0)), (some (40, true))⟩, ⟨(some 42), .op (.sidx (.t 41) (.c (.int .i64 1))), (some (40, true))⟩, ⟨(some 43), .op (.bin .eql (.t 42) (.c (.int .u8 120))), (some (40, true))⟩, ⟨(some 44), .op (.pick (.t 40) (.t 43) (.c (.bool false))), none⟩])
    (.cond (.t 44) (.seq (.ops [⟨(some 45), .op (.mov (.t 0)), none⟩, ⟨(some 46), .op (.sub .str (.t 45) (some (.c (.int .i64 2))) none none), none⟩, ⟨(some 47), .call 51 [(.t 46), (.c (.int .u64 16))], none⟩, ⟨(some 48), .op (.extract (.t 47) 0), none⟩, ⟨(some 49), .op (.extract (.t 47) 1), none⟩, ⟨(some 2), .op (.mov (.t 48)), none⟩, ⟨(some 3), .op (.mov (.t 49)), none⟩]) .ret) .skip))
    (.seq (.ops [⟨(some 50), .op (.mov (.t 0)), none⟩, ⟨(some 51), .call 51 [(.t 50), (.c (.int .u64 10))], none⟩, ⟨(some 52), .op (.extract (.t 51) 0), none⟩, ⟨(some 53), .op (.extract (.t 51) 1), none⟩, ⟨(some 2), .op (.mov (.t 52)), none⟩, ⟨(some 3), .op (.mov (.t 53)), none⟩]) .ret)) ⟨e, h, some []⟩
      (fun x s' => (x = .normal ∨ x = .ret) ∧ s'.d = some [] ∧ ∃ vs, resAll s'.e s'.h [.tmp 2, .tmp 3] = some vs ∧ s'.h = h ∧ Out.ret (tup vs) = .ret (numV s)) := by
    intro hq e e0
    have ten : (decide (1 < (bs s).length) && (bt (bs s) 0 == 48) && (bt (bs s) 1 == 120)) = false → ∀ e' : Env, e' 0 = .string s → e' 44 = .bool false → Tn T (.cond (.t 44) (.seq (.ops [⟨(some 45), .op (.mov (.t 0)), none⟩, ⟨(some 46), .op (.sub .str (.t 45) (some (.c (.int .i64 2))) none none), none⟩, ⟨(some 47), .call 51 [(.t 46), (.c (.int .u64 16))], none⟩, ⟨(some 48), .op (.extract (.t 47) 0), none⟩, ⟨(some 49), .op (.extract (.t 47) 1), none⟩, ⟨(some 2), .op (.mov (.t 48)), none⟩, ⟨(some 3), .op (.mov (.t 49)), none⟩]) .ret) .skip)
        (Tn T (.seq (.ops [⟨(some 50), .op (.mov (.t 0)), none⟩, ⟨(some 51), .call 51 [(.t 50), (.c (.int .u64 10))], none⟩, ⟨(some 52), .op (.extract (.t 51) 0), none⟩, ⟨(some 53), .op (.extract (.t 51) 1), none⟩, ⟨(some 2), .op (.mov (.t 52)), none⟩, ⟨(some 3), .op (.mov (.t 53)), none⟩]) .ret) (fun x s' => (x = .normal ∨ x = .ret) ∧ s'.d = some [] ∧ ∃ vs, resAll s'.e s'.h [.tmp 2, .tmp 3] = some vs ∧ s'.h = h ∧ Out.ret (tup vs) = .ret (numV s))) .normal ⟨e', h, some []⟩ := by
      intro hx e' g0 g44
      show Wc T _ _ _
      refine Wc_cond false g44 (fun e => by cases e) (fun _ => Wc_skip ?_)
      show Wc T _ _ _
      refine Wc_seq (Wc_ops (Wo_pre 1 (fun call => by simp only [List.take_succ_cons, List.take_zero, List.drop_succ_cons, List.drop_zero, iops_nil, iops_op, iops_grd, iK_some, iG_true, iG_false, gval_bool, beq_self_eq_true, beq_true, beq_false, Bool.not_true, Bool.not_false, iop, ev, upd, dstUpd, binV, binI, unV, ptr, Heap.cell, Heap.write, cellsOf, put, args0, partL, List.getD_cons_zero, List.getD_cons_succ, List.length_cons, List.length_nil, List.set_cons_zero, List.set_cons_succ, List.getElem?_cons_zero, List.getElem?_cons_succ, reduceIte, Nat.reduceEqDiff, Nat.reduceAdd, Nat.reduceMul, Nat.reduceLeDiff, Nat.zero_add, Nat.add_zero, Option.map_some, Int.reduceEq, Int.reduceLT, Int.reduceLE, Bool.false_eq_true, decide_true, decide_false, ge_iff_le, gt_iff_lt, set_get', g0]; rfl) ?_))
      refine Wo_call (Wk_pure (whole_ok hw hf hd (base := 10) (by decide) (by decide) hs) ?_)
      refine (Wo_run (fun call => by simp only [List.drop_succ_cons, List.drop_zero, iops_nil, iops_op, iops_grd, iK_some, iG_true, iG_false, gval_bool, beq_self_eq_true, beq_true, beq_false, Bool.not_true, Bool.not_false, iop, ev, upd, dstUpd, binV, binI, unV, ptr, Heap.cell, Heap.write, cellsOf, put, args0, partL, List.getD_cons_zero, List.getD_cons_succ, List.length_cons, List.length_nil, List.set_cons_zero, List.set_cons_succ, List.getElem?_cons_zero, List.getElem?_cons_succ, reduceIte, Nat.reduceEqDiff, Nat.reduceAdd, Nat.reduceMul, Nat.reduceLeDiff, Nat.zero_add, Nat.add_zero, Option.map_some, Int.reduceEq, Int.reduceLT, Int.reduceLE, Bool.false_eq_true, decide_true, decide_false, ge_iff_le, gt_iff_lt, set_get']; rfl) ?_)
      exact Wc_ret (fin _ _ _ (by simp only [upd, dstUpd, args0, List.getD_cons_zero, List.getD_cons_succ, reduceIte, Nat.reduceEqDiff, ptr] <;> first | rfl | assumption | (symm; assumption)) (by simp only [upd, dstUpd, args0, List.getD_cons_zero, List.getD_cons_succ, reduceIte, Nat.reduceEqDiff, ptr] <;> first | rfl | assumption | (symm; assumption)) (by simp only [numR, hq, hx]))
    by_cases h1 : 1 < s.size
    case neg =>
      have z1 : decide ((1 : Int) < s.size) = false := decide_eq_false (by omega)
      refine Wc_seq (Wc_seq (Wc_ops (Wo_run (fun call => by simp only [List.drop_succ_cons, List.drop_zero, iops_nil, iops_op, iops_grd, iK_some, iG_true, iG_false, gval_bool, beq_self_eq_true, beq_true, beq_false, Bool.not_true, Bool.not_false, iop, ev, upd, dstUpd, binV, binI, unV, ptr, Heap.cell, Heap.write, cellsOf, put, args0, partL, List.getD_cons_zero, List.getD_cons_succ, List.length_cons, List.length_nil, List.set_cons_zero, List.set_cons_succ, List.getElem?_cons_zero, List.getElem?_cons_succ, reduceIte, Nat.reduceEqDiff, Nat.reduceAdd, Nat.reduceMul, Nat.reduceLeDiff, Nat.zero_add, Nat.add_zero, Option.map_some, Int.reduceEq, Int.reduceLT, Int.reduceLE, Bool.false_eq_true, decide_true, decide_false, ge_iff_le, gt_iff_lt, set_get', e0, z1]; rfl) ?_)))
      exact ten (by rw [hlen, decide_eq_false h1]; rfl) _ (by simp only [upd, dstUpd, args0, List.getD_cons_zero, List.getD_cons_succ, reduceIte, Nat.reduceEqDiff, ptr, e0] <;> first | rfl | assumption | (symm; assumption)) (by simp only [upd, dstUpd, args0, List.getD_cons_zero, List.getD_cons_succ, reduceIte, Nat.reduceEqDiff, ptr] <;> first | rfl | assumption | (symm; assumption))
    have z1 : decide ((1 : Int) < s.size) = true := decide_eq_true (by omega)
    obtain ⟨c0, hc0⟩ := bs_at (s := s) (j := 0) (by omega)
    obtain ⟨c1, hc1⟩ := bs_at h1
    have s0 : s.data.toList[0]? = some c0 := hc0
    have s1 : s.data.toList[1]? = some c1 := hc1
    have b0 := bt_at hc0
    have b1 := bt_at hc1
    cases y0 : (((c0.toNat : Nat) : Int) == 48)
    · refine Wc_seq (Wc_seq (Wc_ops (Wo_run (fun call => by simp only [List.drop_succ_cons, List.drop_zero, iops_nil, iops_op, iops_grd, iK_some, iG_true, iG_false, gval_bool, beq_self_eq_true, beq_true, beq_false, Bool.not_true, Bool.not_false, iop, ev, upd, dstUpd, binV, binI, unV, ptr, Heap.cell, Heap.write, cellsOf, put, args0, partL, List.getD_cons_zero, List.getD_cons_succ, List.length_cons, List.length_nil, List.set_cons_zero, List.set_cons_succ, List.getElem?_cons_zero, List.getElem?_cons_succ, reduceIte, Nat.reduceEqDiff, Nat.reduceAdd, Nat.reduceMul, Nat.reduceLeDiff, Nat.zero_add, Nat.add_zero, Option.map_some, Int.reduceEq, Int.reduceLT, Int.reduceLE, Bool.false_eq_true, decide_true, decide_false, ge_iff_le, gt_iff_lt, set_get', e0, z1, idx0 (show 0 < s.size by omega), s0, y0]; rfl) ?_)))
      exact ten (by rw [b0, y0, Bool.and_false]; rfl) _ (by simp only [upd, dstUpd, args0, List.getD_cons_zero, List.getD_cons_succ, reduceIte, Nat.reduceEqDiff, ptr, e0] <;> first | rfl | assumption | (symm; assumption)) (by simp only [upd, dstUpd, args0, List.getD_cons_zero, List.getD_cons_succ, reduceIte, Nat.reduceEqDiff, ptr] <;> first | rfl | assumption | (symm; assumption))
    cases y1 : (((c1.toNat : Nat) : Int) == 120)
    · refine Wc_seq (Wc_seq (Wc_ops (Wo_run (fun call => by simp only [List.drop_succ_cons, List.drop_zero, iops_nil, iops_op, iops_grd, iK_some, iG_true, iG_false, gval_bool, beq_self_eq_true, beq_true, beq_false, Bool.not_true, Bool.not_false, iop, ev, upd, dstUpd, binV, binI, unV, ptr, Heap.cell, Heap.write, cellsOf, put, args0, partL, List.getD_cons_zero, List.getD_cons_succ, List.length_cons, List.length_nil, List.set_cons_zero, List.set_cons_succ, List.getElem?_cons_zero, List.getElem?_cons_succ, reduceIte, Nat.reduceEqDiff, Nat.reduceAdd, Nat.reduceMul, Nat.reduceLeDiff, Nat.zero_add, Nat.add_zero, Option.map_some, Int.reduceEq, Int.reduceLT, Int.reduceLE, Bool.false_eq_true, decide_true, decide_false, ge_iff_le, gt_iff_lt, set_get', e0, z1, idx0 (show 0 < s.size by omega), idx1 h1, s0, s1, y0, y1]; rfl) ?_)))
      exact ten (by rw [b1, y1, Bool.and_false]) _ (by simp only [upd, dstUpd, args0, List.getD_cons_zero, List.getD_cons_succ, reduceIte, Nat.reduceEqDiff, ptr, e0] <;> first | rfl | assumption | (symm; assumption)) (by simp only [upd, dstUpd, args0, List.getD_cons_zero, List.getD_cons_succ, reduceIte, Nat.reduceEqDiff, ptr] <;> first | rfl | assumption | (symm; assumption))
    refine Wc_seq (Wc_seq (Wc_ops (Wo_run (fun call => by simp only [List.drop_succ_cons, List.drop_zero, iops_nil, iops_op, iops_grd, iK_some, iG_true, iG_false, gval_bool, beq_self_eq_true, beq_true, beq_false, Bool.not_true, Bool.not_false, iop, ev, upd, dstUpd, binV, binI, unV, ptr, Heap.cell, Heap.write, cellsOf, put, args0, partL, List.getD_cons_zero, List.getD_cons_succ, List.length_cons, List.length_nil, List.set_cons_zero, List.set_cons_succ, List.getElem?_cons_zero, List.getElem?_cons_succ, reduceIte, Nat.reduceEqDiff, Nat.reduceAdd, Nat.reduceMul, Nat.reduceLeDiff, Nat.zero_add, Nat.add_zero, Option.map_some, Int.reduceEq, Int.reduceLT, Int.reduceLE, Bool.false_eq_true, decide_true, decide_false, ge_iff_le, gt_iff_lt, set_get', e0, z1, idx0 (show 0 < s.size by omega), idx1 h1, s0, s1, y0, y1]; rfl) ?_)))
    show Wc T _ _ _
    refine Wc_cond true (by simp only [upd, dstUpd, args0, List.getD_cons_zero, List.getD_cons_succ, reduceIte, Nat.reduceEqDiff, ptr] <;> first | rfl | assumption | (symm; assumption)) (fun _ => ?_) (fun e => by cases e)
    have hb2 : bndV 0 s.size (.int .i64 2) = some 2 := by simp [bndV]; omega
    refine Wc_seq (Wc_ops (Wo_pre 2 (fun call => by simp only [List.take_succ_cons, List.take_zero, List.drop_succ_cons, List.drop_zero, iops_nil, iops_op, iops_grd, iK_some, iG_true, iG_false, gval_bool, beq_self_eq_true, beq_true, beq_false, Bool.not_true, Bool.not_false, iop, ev, upd, dstUpd, binV, binI, unV, ptr, Heap.cell, Heap.write, cellsOf, put, args0, partL, List.getD_cons_zero, List.getD_cons_succ, List.length_cons, List.length_nil, List.set_cons_zero, List.set_cons_succ, List.getElem?_cons_zero, List.getElem?_cons_succ, reduceIte, Nat.reduceEqDiff, Nat.reduceAdd, Nat.reduceMul, Nat.reduceLeDiff, Nat.zero_add, Nat.add_zero, Option.map_some, Int.reduceEq, Int.reduceLT, Int.reduceLE, Bool.false_eq_true, decide_true, decide_false, ge_iff_le, gt_iff_lt, set_get', e0, bndO, hb2]; rfl) ?_))
    refine Wo_call (Wk_pure (whole_ok hw hf hd (base := 16) (s := s.extract 2 s.size) (by decide) (by decide) (by rw [bs_size, bs_extract]; simp only [List.length_drop, List.length_take]; omega)) ?_)
    refine (Wo_run (fun call => by simp only [List.drop_succ_cons, List.drop_zero, iops_nil, iops_op, iops_grd, iK_some, iG_true, iG_false, gval_bool, beq_self_eq_true, beq_true, beq_false, Bool.not_true, Bool.not_false, iop, ev, upd, dstUpd, binV, binI, unV, ptr, Heap.cell, Heap.write, cellsOf, put, args0, partL, List.getD_cons_zero, List.getD_cons_succ, List.length_cons, List.length_nil, List.set_cons_zero, List.set_cons_succ, List.getElem?_cons_zero, List.getElem?_cons_succ, reduceIte, Nat.reduceEqDiff, Nat.reduceAdd, Nat.reduceMul, Nat.reduceLeDiff, Nat.zero_add, Nat.add_zero, Option.map_some, Int.reduceEq, Int.reduceLT, Int.reduceLE, Bool.false_eq_true, decide_true, decide_false, ge_iff_le, gt_iff_lt, set_get']; rfl) ?_)
    refine Wc_ret (fin _ _ _ (by simp only [upd, dstUpd, args0, List.getD_cons_zero, List.getD_cons_succ, reduceIte, Nat.reduceEqDiff, ptr] <;> first | rfl | assumption | (symm; assumption)) (by simp only [upd, dstUpd, args0, List.getD_cons_zero, List.getD_cons_succ, reduceIte, Nat.reduceEqDiff, ptr] <;> first | rfl | assumption | (symm; assumption)) ?_)
    have hx : bs (s.extract 2 s.size) = (bs s).drop 2 := by rw [bs_extract, List.take_of_length_le (by rw [hlen]; exact Nat.le_refl _)]
    rw [hx]
    have hq' := hq
    rw [b0] at hq'
    simp only [numR, hq', b0, b1, y0, y1, hlen, decide_eq_true h1, Bool.and_self]
  by_cases h0 : s.size = 0
  · have z0 := emp_t h0
    refine Wc_seq (Wc_seq (Wc_ops (Wo_run (fun call => by simp only [List.drop_succ_cons, List.drop_zero, iops_nil, iops_op, iops_grd, iK_some, iG_true, iG_false, gval_bool, beq_self_eq_true, beq_true, beq_false, Bool.not_true, Bool.not_false, iop, ev, upd, dstUpd, binV, binI, unV, ptr, Heap.cell, Heap.write, cellsOf, put, args0, partL, List.getD_cons_zero, List.getD_cons_succ, List.length_cons, List.length_nil, List.set_cons_zero, List.set_cons_succ, List.getElem?_cons_zero, List.getElem?_cons_succ, reduceIte, Nat.reduceEqDiff, Nat.reduceAdd, Nat.reduceMul, Nat.reduceLeDiff, Nat.zero_add, Nat.add_zero, Option.map_some, Int.reduceEq, Int.reduceLT, Int.reduceLE, Bool.false_eq_true, decide_true, decide_false, ge_iff_le, gt_iff_lt, set_get', z0]; rfl) ?_)))
    show Wc T _ _ _
    refine Wc_cond false (by simp only [upd, dstUpd, args0, List.getD_cons_zero, List.getD_cons_succ, reduceIte, Nat.reduceEqDiff, ptr] <;> first | rfl | assumption | (symm; assumption)) (fun e => by cases e) (fun _ => Wc_skip ?_)
    exact rest (by rw [bt_no (by omega)]; rfl) _ (by simp only [upd, dstUpd, args0, List.getD_cons_zero, List.getD_cons_succ, reduceIte, Nat.reduceEqDiff, ptr] <;> first | rfl | assumption | (symm; assumption))
  have h0' : 0 < s.size := by omega
  have z0 := emp_f h0'
  obtain ⟨c0, hc0⟩ := bs_at h0'
  have s0 : s.data.toList[0]? = some c0 := hc0
  have b0 := bt_at hc0
  cases y0 : (((c0.toNat : Nat) : Int) == 39)
  · refine Wc_seq (Wc_seq (Wc_ops (Wo_run (fun call => by simp only [List.drop_succ_cons, List.drop_zero, iops_nil, iops_op, iops_grd, iK_some, iG_true, iG_false, gval_bool, beq_self_eq_true, beq_true, beq_false, Bool.not_true, Bool.not_false, iop, ev, upd, dstUpd, binV, binI, unV, ptr, Heap.cell, Heap.write, cellsOf, put, args0, partL, List.getD_cons_zero, List.getD_cons_succ, List.length_cons, List.length_nil, List.set_cons_zero, List.set_cons_succ, List.getElem?_cons_zero, List.getElem?_cons_succ, reduceIte, Nat.reduceEqDiff, Nat.reduceAdd, Nat.reduceMul, Nat.reduceLeDiff, Nat.zero_add, Nat.add_zero, Option.map_some, Int.reduceEq, Int.reduceLT, Int.reduceLE, Bool.false_eq_true, decide_true, decide_false, ge_iff_le, gt_iff_lt, set_get', z0, idx0 h0', s0, y0]; rfl) ?_)))
    show Wc T _ _ _
    refine Wc_cond false (by simp only [upd, dstUpd, args0, List.getD_cons_zero, List.getD_cons_succ, reduceIte, Nat.reduceEqDiff, ptr] <;> first | rfl | assumption | (symm; assumption)) (fun e => by cases e) (fun _ => Wc_skip ?_)
    exact rest (by rw [b0]; exact y0) _ (by simp only [upd, dstUpd, args0, List.getD_cons_zero, List.getD_cons_succ, reduceIte, Nat.reduceEqDiff, ptr] <;> first | rfl | assumption | (symm; assumption))
  refine Wc_seq (Wc_seq (Wc_ops (Wo_run (fun call => by simp only [List.drop_succ_cons, List.drop_zero, iops_nil, iops_op, iops_grd, iK_some, iG_true, iG_false, gval_bool, beq_self_eq_true, beq_true, beq_false, Bool.not_true, Bool.not_false, iop, ev, upd, dstUpd, binV, binI, unV, ptr, Heap.cell, Heap.write, cellsOf, put, args0, partL, List.getD_cons_zero, List.getD_cons_succ, List.length_cons, List.length_nil, List.set_cons_zero, List.set_cons_succ, List.getElem?_cons_zero, List.getElem?_cons_succ, reduceIte, Nat.reduceEqDiff, Nat.reduceAdd, Nat.reduceMul, Nat.reduceLeDiff, Nat.zero_add, Nat.add_zero, Option.map_some, Int.reduceEq, Int.reduceLT, Int.reduceLE, Bool.false_eq_true, decide_true, decide_false, ge_iff_le, gt_iff_lt, set_get', z0, idx0 h0', s0, y0]; rfl) ?_)))
  show Wc T _ _ _
  refine Wc_cond true (by simp only [upd, dstUpd, args0, List.getD_cons_zero, List.getD_cons_succ, reduceIte, Nat.reduceEqDiff, ptr] <;> first | rfl | assumption | (symm; assumption)) (fun _ => ?_) (fun e => by cases e)
  have bad : (decide ((bs s).length = 3) && (bt (bs s) 2 == 39) && decide (32 ≤ bt (bs s) 1) && decide (bt (bs s) 1 ≤ 126)) = false → ∀ e : Env, e 28 = .bool true → Wc T (.cond (.t 28) (.seq (.ops [⟨(some 2), .op (.mov (.c (.int .i64 0))), none⟩, ⟨(some 3), .op (.mov (.c (.bool false))), none⟩]) .ret) .skip) ⟨e, h, some []⟩ (fun x s' => x = .ret ∧ s'.d = some [] ∧ ∃ vs, resAll s'.e s'.h [.tmp 2, .tmp 3] = some vs ∧ s'.h = h ∧ Out.ret (tup vs) = .ret (numV s)) := by
    intro hx e he
    refine Wc_cond true he (fun _ => ?_) (fun e => by cases e)
    refine Wc_seq (Wc_ops (Wo_run (fun call => by simp only [List.drop_succ_cons, List.drop_zero, iops_nil, iops_op, iops_grd, iK_some, iG_true, iG_false, gval_bool, beq_self_eq_true, beq_true, beq_false, Bool.not_true, Bool.not_false, iop, ev, upd, dstUpd, binV, binI, unV, ptr, Heap.cell, Heap.write, cellsOf, put, args0, partL, List.getD_cons_zero, List.getD_cons_succ, List.length_cons, List.length_nil, List.set_cons_zero, List.set_cons_succ, List.getElem?_cons_zero, List.getElem?_cons_succ, reduceIte, Nat.reduceEqDiff, Nat.reduceAdd, Nat.reduceMul, Nat.reduceLeDiff, Nat.zero_add, Nat.add_zero, Option.map_some, Int.reduceEq, Int.reduceLT, Int.reduceLE, Bool.false_eq_true, decide_true, decide_false, ge_iff_le, gt_iff_lt, set_get']; rfl) ?_))
    refine Wc_ret ⟨rfl, (fin _ 0 false (by simp only [upd, dstUpd, args0, List.getD_cons_zero, List.getD_cons_succ, reduceIte, Nat.reduceEqDiff, ptr] <;> first | rfl | assumption | (symm; assumption)) (by simp only [upd, dstUpd, args0, List.getD_cons_zero, List.getD_cons_succ, reduceIte, Nat.reduceEqDiff, ptr] <;> first | rfl | assumption | (symm; assumption)) (by simp only [numR, b0, y0, hx])).2⟩
  have out : ∀ (e : Env), e 28 = .bool true → (decide ((bs s).length = 3) && (bt (bs s) 2 == 39) && decide (32 ≤ bt (bs s) 1) && decide (bt (bs s) 1 ≤ 126)) = false → ∀ (R1 R2 : IC), Wc T (.cond (.t 28) (.seq (.ops [⟨(some 2), .op (.mov (.c (.int .i64 0))), none⟩, ⟨(some 3), .op (.mov (.c (.bool false))), none⟩]) .ret) .skip) ⟨e, h, some []⟩ (Tn T R1 (Tn T R2 (fun x s' => (x = .normal ∨ x = .ret) ∧ s'.d = some [] ∧ ∃ vs, resAll s'.e s'.h [.tmp 2, .tmp 3] = some vs ∧ s'.h = h ∧ Out.ret (tup vs) = .ret (numV s)))) := by
    intro e he hx R1 R2
    refine (bad hx e he).mono fun x s' ⟨hr, hr2⟩ => ?_
    rw [hr]
    exact ⟨.inr rfl, hr2⟩
  cases y1 : (((s.size : Nat) : Int) == 3)
  · refine Wc_seq (Wc_seq (Wc_ops (Wo_run (fun call => by simp only [List.drop_succ_cons, List.drop_zero, iops_nil, iops_op, iops_grd, iK_some, iG_true, iG_false, gval_bool, beq_self_eq_true, beq_true, beq_false, Bool.not_true, Bool.not_false, iop, ev, upd, dstUpd, binV, binI, unV, ptr, Heap.cell, Heap.write, cellsOf, put, args0, partL, List.getD_cons_zero, List.getD_cons_succ, List.length_cons, List.length_nil, List.set_cons_zero, List.set_cons_succ, List.getElem?_cons_zero, List.getElem?_cons_succ, reduceIte, Nat.reduceEqDiff, Nat.reduceAdd, Nat.reduceMul, Nat.reduceLeDiff, Nat.zero_add, Nat.add_zero, Option.map_some, Int.reduceEq, Int.reduceLT, Int.reduceLE, Bool.false_eq_true, decide_true, decide_false, ge_iff_le, gt_iff_lt, set_get', y1, bne]; rfl) ?_)))
    refine out _ (by simp only [upd, dstUpd, args0, List.getD_cons_zero, List.getD_cons_succ, reduceIte, Nat.reduceEqDiff, ptr] <;> first | rfl | assumption | (symm; assumption)) ?_ _ _
    have : ¬ (bs s).length = 3 := by rw [hlen]; intro e; rw [e] at y1; cases y1
    rw [decide_eq_false this]; rfl
  have h3 : s.size = 3 := by have := beq_iff_eq.1 y1; omega
  obtain ⟨c1, hc1⟩ := bs_at (s := s) (j := 1) (by omega)
  obtain ⟨c2, hc2⟩ := bs_at (s := s) (j := 2) (by omega)
  have s1 : s.data.toList[1]? = some c1 := hc1
  have s2 : s.data.toList[2]? = some c2 := hc2
  have b1 := bt_at hc1
  have b2 := bt_at hc2
  have hl3 : decide ((bs s).length = 3) = true := by rw [hlen]; exact decide_eq_true h3
  cases y2 : (((c2.toNat : Nat) : Int) == 39)
  · have y2' : (!(((c2.toNat : Nat) : Int) == 39)) = true := by rw [y2]; rfl
    have y2n : (((c2.toNat : Nat) : Int) != 39) = true := y2'
    refine Wc_seq (Wc_seq (Wc_ops (Wo_run (fun call => by simp only [List.drop_succ_cons, List.drop_zero, iops_nil, iops_op, iops_grd, iK_some, iG_true, iG_false, gval_bool, beq_self_eq_true, beq_true, beq_false, Bool.not_true, Bool.not_false, iop, ev, upd, dstUpd, binV, binI, unV, ptr, Heap.cell, Heap.write, cellsOf, put, args0, partL, List.getD_cons_zero, List.getD_cons_succ, List.length_cons, List.length_nil, List.set_cons_zero, List.set_cons_succ, List.getElem?_cons_zero, List.getElem?_cons_succ, reduceIte, Nat.reduceEqDiff, Nat.reduceAdd, Nat.reduceMul, Nat.reduceLeDiff, Nat.zero_add, Nat.add_zero, Option.map_some, Int.reduceEq, Int.reduceLT, Int.reduceLE, Bool.false_eq_true, decide_true, decide_false, ge_iff_le, gt_iff_lt, set_get', y1, bne, idx2 (show 2 < s.size by omega), s2, y2]; rfl) ?_)))
    exact out _ (by simp only [upd, dstUpd, args0, List.getD_cons_zero, List.getD_cons_succ, reduceIte, Nat.reduceEqDiff, ptr] <;> first | rfl | assumption | (symm; assumption)) (by rw [b2, y2, Bool.and_false]; rfl) _ _
  by_cases y3 : ((c1.toNat : Nat) : Int) < 32
  · refine Wc_seq (Wc_seq (Wc_ops (Wo_run (fun call => by simp only [List.drop_succ_cons, List.drop_zero, iops_nil, iops_op, iops_grd, iK_some, iG_true, iG_false, gval_bool, beq_self_eq_true, beq_true, beq_false, Bool.not_true, Bool.not_false, iop, ev, upd, dstUpd, binV, binI, unV, ptr, Heap.cell, Heap.write, cellsOf, put, args0, partL, List.getD_cons_zero, List.getD_cons_succ, List.length_cons, List.length_nil, List.set_cons_zero, List.set_cons_succ, List.getElem?_cons_zero, List.getElem?_cons_succ, reduceIte, Nat.reduceEqDiff, Nat.reduceAdd, Nat.reduceMul, Nat.reduceLeDiff, Nat.zero_add, Nat.add_zero, Option.map_some, Int.reduceEq, Int.reduceLT, Int.reduceLE, Bool.false_eq_true, decide_true, decide_false, ge_iff_le, gt_iff_lt, set_get', y1, bne, idx2 (show 2 < s.size by omega), idx1 (show 1 < s.size by omega), s1, s2, y2, y3]; rfl) ?_)))
    exact out _ (by simp only [upd, dstUpd, args0, List.getD_cons_zero, List.getD_cons_succ, reduceIte, Nat.reduceEqDiff, ptr] <;> first | rfl | assumption | (symm; assumption)) (by rw [b1, decide_eq_false (show ¬ (32 : Int) ≤ ((c1.toNat : Nat) : Int) by omega), Bool.and_false]; rfl) _ _
  by_cases y4 : (126 : Int) < ((c1.toNat : Nat) : Int)
  · refine Wc_seq (Wc_seq (Wc_ops (Wo_run (fun call => by simp only [List.drop_succ_cons, List.drop_zero, iops_nil, iops_op, iops_grd, iK_some, iG_true, iG_false, gval_bool, beq_self_eq_true, beq_true, beq_false, Bool.not_true, Bool.not_false, iop, ev, upd, dstUpd, binV, binI, unV, ptr, Heap.cell, Heap.write, cellsOf, put, args0, partL, List.getD_cons_zero, List.getD_cons_succ, List.length_cons, List.length_nil, List.set_cons_zero, List.set_cons_succ, List.getElem?_cons_zero, List.getElem?_cons_succ, reduceIte, Nat.reduceEqDiff, Nat.reduceAdd, Nat.reduceMul, Nat.reduceLeDiff, Nat.zero_add, Nat.add_zero, Option.map_some, Int.reduceEq, Int.reduceLT, Int.reduceLE, Bool.false_eq_true, decide_true, decide_false, ge_iff_le, gt_iff_lt, set_get', y1, bne, idx2 (show 2 < s.size by omega), idx1 (show 1 < s.size by omega), s1, s2, y2, y3, y4]; rfl) ?_)))
    exact out _ (by simp only [upd, dstUpd, args0, List.getD_cons_zero, List.getD_cons_succ, reduceIte, Nat.reduceEqDiff, ptr] <;> first | rfl | assumption | (symm; assumption)) (by rw [b1, decide_eq_false (show ¬ ((c1.toNat : Nat) : Int) ≤ 126 by omega), Bool.and_false]) _ _
  refine Wc_seq (Wc_seq (Wc_ops (Wo_run (fun call => by simp only [List.drop_succ_cons, List.drop_zero, iops_nil, iops_op, iops_grd, iK_some, iG_true, iG_false, gval_bool, beq_self_eq_true, beq_true, beq_false, Bool.not_true, Bool.not_false, iop, ev, upd, dstUpd, binV, binI, unV, ptr, Heap.cell, Heap.write, cellsOf, put, args0, partL, List.getD_cons_zero, List.getD_cons_succ, List.length_cons, List.length_nil, List.set_cons_zero, List.set_cons_succ, List.getElem?_cons_zero, List.getElem?_cons_succ, reduceIte, Nat.reduceEqDiff, Nat.reduceAdd, Nat.reduceMul, Nat.reduceLeDiff, Nat.zero_add, Nat.add_zero, Option.map_some, Int.reduceEq, Int.reduceLT, Int.reduceLE, Bool.false_eq_true, decide_true, decide_false, ge_iff_le, gt_iff_lt, set_get', y1, bne, idx2 (show 2 < s.size by omega), idx1 (show 1 < s.size by omega), s1, s2, y2, y3, y4]; rfl) ?_)))
  show Wc T _ _ _
  refine Wc_cond false (by simp only [upd, dstUpd, args0, List.getD_cons_zero, List.getD_cons_succ, reduceIte, Nat.reduceEqDiff, ptr] <;> first | rfl | assumption | (symm; assumption)) (fun e => by cases e) (fun _ => Wc_skip ?_)
  show Wc T _ _ _
  have hw1 : IntKind.i64.wrap ((c1.toNat : Nat) : Int) = ((c1.toNat : Nat) : Int) := wrap64 (by omega) (by omega)
  refine Wc_seq (Wc_ops (Wo_run (fun call => by simp only [List.drop_succ_cons, List.drop_zero, iops_nil, iops_op, iops_grd, iK_some, iG_true, iG_false, gval_bool, beq_self_eq_true, beq_true, beq_false, Bool.not_true, Bool.not_false, iop, ev, upd, dstUpd, binV, binI, unV, ptr, Heap.cell, Heap.write, cellsOf, put, args0, partL, List.getD_cons_zero, List.getD_cons_succ, List.length_cons, List.length_nil, List.set_cons_zero, List.set_cons_succ, List.getElem?_cons_zero, List.getElem?_cons_succ, reduceIte, Nat.reduceEqDiff, Nat.reduceAdd, Nat.reduceMul, Nat.reduceLeDiff, Nat.zero_add, Nat.add_zero, Option.map_some, Int.reduceEq, Int.reduceLT, Int.reduceLE, Bool.false_eq_true, decide_true, decide_false, ge_iff_le, gt_iff_lt, set_get', idx1 (show 1 < s.size by omega), s1, hw1]; rfl) ?_))
  refine Wc_ret (fin _ _ _ (by simp only [upd, dstUpd, args0, List.getD_cons_zero, List.getD_cons_succ, reduceIte, Nat.reduceEqDiff, ptr] <;> first | rfl | assumption | (symm; assumption)) (by simp only [upd, dstUpd, args0, List.getD_cons_zero, List.getD_cons_succ, reduceIte, Nat.reduceEqDiff, ptr] <;> first | rfl | assumption | (symm; assumption)) ?_)
  simp only [numR, b0, y0, b1, b2, y2, hl3, decide_eq_true (show (32 : Int) ≤ ((c1.toNat : Nat) : Int) by omega), decide_eq_true (show ((c1.toNat : Nat) : Int) ≤ 126 by omega), Bool.and_self]

end Go.Idl
end

section
/- Words and names, by the reference. -/
namespace Go.Idl
set_option linter.unusedVariables false
set_option linter.unusedSimpArgs false
set_option maxRecDepth 100000

variable {T : Tbl}

def wordB (s : ByteArray) : Bool := wordsL.any fun w => decide (s = w)
theorem wordB_of {s : ByteArray} (h : s ∈ wordsL) : wordB s = true := List.any_eq_true.2 ⟨s, h, decide_eq_true rfl⟩
theorem wordB_no {s : ByteArray} (h : ∀ x ∈ wordsL, s ≠ x) : wordB s = false := by
  cases hb : wordB s with
  | false => rfl
  | true =>
    obtain ⟨x, hx, he⟩ := List.any_eq_true.1 hb
    exact absurd (of_decide_eq_true he) (h x hx)

theorem wordR_ok (hT : T.fn 50 = some C50) {s : ByteArray} {h : Heap} : Wk T (.fn 50) [.string s] h (fun o h' => Kept h h' ∧ o = .ret (.bool (wordB s))) := by
  refine Wk_fn hT (by simp [C50]) ?_
  simp only [C50]
  refine Wc_seq (Wc_ops (Wo_run (fun call => by simp only [List.drop_succ_cons, List.drop_zero, iops_nil, iops_op, iops_grd, iK_some, iG_true, iG_false, gval_bool, beq_self_eq_true, beq_true, beq_false, Bool.not_true, Bool.not_false, iop, ev, upd, dstUpd, binV, binI, unV, ptr, Heap.cell, Heap.write, cellsOf, put, args0, partL, List.getD_cons_zero, List.getD_cons_succ, List.length_cons, List.length_nil, List.set_cons_zero, List.set_cons_succ, List.getElem?_cons_zero, List.getElem?_cons_succ, reduceIte, Nat.reduceEqDiff, Nat.reduceAdd, Nat.reduceMul, Nat.reduceLeDiff, Nat.zero_add, Nat.add_zero, Option.map_some, Int.reduceEq, Int.reduceLT, Int.reduceLE, Bool.false_eq_true, decide_true, decide_false, ge_iff_le, gt_iff_lt, set_get']; rfl) ?_))
  show Wc T _ _ _
  refine Wc_seq (Wc_seq (Wc_ops (Wo_new (v := .slice (some ⟨h.next, 0, none⟩) 19 19) (B := .cells (wordsL.flatMap strC) true 1) (by kernel_rfl) fun h1 n1 => (Wo_run (fun call => by simp only [List.drop_succ_cons, List.drop_zero, iops_nil, iops_op, iops_grd, iK_some, iG_true, iG_false, gval_bool, beq_self_eq_true, beq_true, beq_false, Bool.not_true, Bool.not_false, iop, ev, upd, dstUpd, binV, binI, unV, ptr, Heap.cell, Heap.write, cellsOf, put, args0, partL, List.getD_cons_zero, List.getD_cons_succ, List.length_cons, List.length_nil, List.set_cons_zero, List.set_cons_succ, List.getElem?_cons_zero, List.getElem?_cons_succ, reduceIte, Nat.reduceEqDiff, Nat.reduceAdd, Nat.reduceMul, Nat.reduceLeDiff, Nat.zero_add, Nat.add_zero, Option.map_some, Int.reduceEq, Int.reduceLT, Int.reduceLE, Bool.false_eq_true, decide_true, decide_false, ge_iff_le, gt_iff_lt, set_get']; rfl) ?_))))
  show Wc T _ _ _
  have hv : strsAt h1 (.slice (some ⟨h.next, 0, none⟩) 19 19) wordsL := ⟨.inr ⟨h.next, 19, rfl, by rw [n1.next]; omega, .inr ⟨true, 1, n1.get⟩⟩, fun _ _ => trivial⟩
  refine Wc_range 19 (fun j e h' d => d = some [] ∧ h' = h1 ∧ ∀ i, i < j → ∀ x, wordsL[i]? = some x → s ≠ x) (by decide) (by simp only [upd, dstUpd, reduceIte, Nat.reduceEqDiff]) (by simp only [upd, dstUpd, args0, List.getD_cons_zero, List.getD_cons_succ, reduceIte, Nat.reduceEqDiff, ptr] <;> first | rfl | assumption | (symm; assumption)) (by decide) (by decide) ⟨rfl, rfl, fun i hi => by omega⟩ ?_ ?_
  · rintro j e h' d hj ⟨rfl, hh, hne⟩ hfr h7 h6
    rw [hh]
    obtain ⟨x, hx⟩ : ∃ x, wordsL[j]? = some x := ⟨_, List.getElem?_eq_getElem (by rw [show wordsL.length = 19 from rfl]; exact hj)⟩
    obtain ⟨b, c, o, z, hvb, hb, hg, hcell⟩ := strsAt.load hv hx
    have e5 : e 5 = .slice (some ⟨h.next, 0, none⟩) 19 19 := (by rw [hfr 5 (by decide)]; try simp only [upd, dstUpd, args0, List.getD_cons_zero, List.getD_cons_succ, reduceIte, Nat.reduceEqDiff] <;> first | rfl | assumption | (symm; assumption))
    have e0 : e 0 = .string s := (by rw [hfr 0 (by decide)]; try simp only [upd, dstUpd, args0, List.getD_cons_zero, List.getD_cons_succ, reduceIte, Nat.reduceEqDiff] <;> first | rfl | assumption | (symm; assumption))
    cases hvb
    refine Wc_seq (Wc_ops (Wo_run (fun call => by simp only [List.drop_succ_cons, List.drop_zero, iops_nil, iops_op, iops_grd, iK_some, iG_true, iG_false, gval_bool, beq_self_eq_true, beq_true, beq_false, Bool.not_true, Bool.not_false, iop, ev, upd, dstUpd, binV, binI, unV, ptr, Heap.cell, Heap.write, cellsOf, put, args0, partL, List.getD_cons_zero, List.getD_cons_succ, List.length_cons, List.length_nil, List.set_cons_zero, List.set_cons_succ, List.getElem?_cons_zero, List.getElem?_cons_succ, reduceIte, Nat.reduceEqDiff, Nat.reduceAdd, Nat.reduceMul, Nat.reduceLeDiff, Nat.zero_add, Nat.add_zero, Option.map_some, Int.reduceEq, Int.reduceLT, Int.reduceLE, Bool.false_eq_true, decide_true, decide_false, ge_iff_le, gt_iff_lt, set_get', h7, e5, idx_ok hj, hg, hcell]; rfl) ?_))
    show Wc T _ _ _
    refine Wc_seq (Wc_ops (Wo_run (fun call => by simp only [List.drop_succ_cons, List.drop_zero, iops_nil, iops_op, iops_grd, iK_some, iG_true, iG_false, gval_bool, beq_self_eq_true, beq_true, beq_false, Bool.not_true, Bool.not_false, iop, ev, upd, dstUpd, binV, binI, unV, ptr, Heap.cell, Heap.write, cellsOf, put, args0, partL, List.getD_cons_zero, List.getD_cons_succ, List.length_cons, List.length_nil, List.set_cons_zero, List.set_cons_succ, List.getElem?_cons_zero, List.getElem?_cons_succ, reduceIte, Nat.reduceEqDiff, Nat.reduceAdd, Nat.reduceMul, Nat.reduceLeDiff, Nat.zero_add, Nat.add_zero, Option.map_some, Int.reduceEq, Int.reduceLT, Int.reduceLE, Bool.false_eq_true, decide_true, decide_false, ge_iff_le, gt_iff_lt, set_get', e0]; rfl) ?_))
    show Wc T _ _ _
    refine Wc_cond (decide (s = x)) (by simp only [upd, dstUpd, args0, List.getD_cons_zero, List.getD_cons_succ, reduceIte, Nat.reduceEqDiff, ptr] <;> first | rfl | assumption | (symm; assumption)) (fun hd => ?_) (fun hd => Wc_skip ?_)
    · have hsx : s = x := by simpa using hd
      refine Wc_seq (Wc_ops (Wo_run (fun call => by simp only [List.drop_succ_cons, List.drop_zero, iops_nil, iops_op, iops_grd, iK_some, iG_true, iG_false, gval_bool, beq_self_eq_true, beq_true, beq_false, Bool.not_true, Bool.not_false, iop, ev, upd, dstUpd, binV, binI, unV, ptr, Heap.cell, Heap.write, cellsOf, put, args0, partL, List.getD_cons_zero, List.getD_cons_succ, List.length_cons, List.length_nil, List.set_cons_zero, List.set_cons_succ, List.getElem?_cons_zero, List.getElem?_cons_succ, reduceIte, Nat.reduceEqDiff, Nat.reduceAdd, Nat.reduceMul, Nat.reduceLeDiff, Nat.zero_add, Nat.add_zero, Option.map_some, Int.reduceEq, Int.reduceLT, Int.reduceLE, Bool.false_eq_true, decide_true, decide_false, ge_iff_le, gt_iff_lt, set_get']; rfl) ?_))
      exact Wc_ret ⟨.inr rfl, rfl, [.bool true], by simp only [resAll, resV, upd, dstUpd, reduceIte, Nat.reduceEqDiff], n1.kept, by rw [wordB_of (by rw [hsx]; exact List.mem_of_getElem? hx)]; rfl⟩
    · refine ⟨rfl, rfl, fun i hi y hy => ?_⟩
      rcases Nat.lt_or_eq_of_le (Nat.le_of_lt_succ hi) with h1 | h1
      · exact hne i h1 y hy
      · subst h1; rw [hx] at hy; cases hy; simpa using hd
  · rintro e h' d ⟨rfl, rfl, hne⟩ hfr h7
    show Wc T _ _ _
    refine Wc_seq (Wc_ops (Wo_run (fun call => by simp only [List.drop_succ_cons, List.drop_zero, iops_nil, iops_op, iops_grd, iK_some, iG_true, iG_false, gval_bool, beq_self_eq_true, beq_true, beq_false, Bool.not_true, Bool.not_false, iop, ev, upd, dstUpd, binV, binI, unV, ptr, Heap.cell, Heap.write, cellsOf, put, args0, partL, List.getD_cons_zero, List.getD_cons_succ, List.length_cons, List.length_nil, List.set_cons_zero, List.set_cons_succ, List.getElem?_cons_zero, List.getElem?_cons_succ, reduceIte, Nat.reduceEqDiff, Nat.reduceAdd, Nat.reduceMul, Nat.reduceLeDiff, Nat.zero_add, Nat.add_zero, Option.map_some, Int.reduceEq, Int.reduceLT, Int.reduceLE, Bool.false_eq_true, decide_true, decide_false, ge_iff_le, gt_iff_lt, set_get']; rfl) ?_))
    refine Wc_ret ⟨.inr rfl, rfl, [.bool false], by simp only [resAll, resV, upd, dstUpd, reduceIte, Nat.reduceEqDiff], n1.kept, ?_⟩
    have : wordB s = false := wordB_no fun x hm => by
      obtain ⟨i, hi⟩ := List.getElem?_of_mem hm
      exact hne i (List.getElem?_eq_some_iff.1 hi).1 x hi
    rw [this]; rfl

/-- A name's bytes. -/
def nameC (l : List UInt8) : Bool := match l with
  | [] => true
  | c :: r => isL c.toNat && r.all fun c => isL c.toNat || isD c.toNat
def nameB (s : ByteArray) : Bool := nameC (bs s) && decide (bs s ≠ []) && !wordB s

theorem nameC_of {l : List UInt8} (h : ∀ i c, l[i]? = some c → isL c.toNat = true ∨ (i ≠ 0 ∧ isD c.toNat = true)) : nameC l = true := by
  cases l with
  | nil => rfl
  | cons c r =>
    simp only [nameC, Bool.and_eq_true, List.all_eq_true, Bool.or_eq_true]
    refine ⟨?_, fun x hx => ?_⟩
    · rcases h 0 c rfl with h | h
      · exact h
      · exact absurd rfl h.1
    · obtain ⟨i, hi⟩ := List.getElem?_of_mem hx
      exact (h (i + 1) x hi).imp id (·.2)
theorem nameC_not {l : List UInt8} {i : Nat} {c : UInt8} (h : l[i]? = some c) (hl : isL c.toNat = false) (hd : i = 0 ∨ isD c.toNat = false) : nameC l = false := by
  cases l with
  | nil => simp at h
  | cons x r =>
    cases hn : nameC (x :: r) with
    | false => rfl
    | true =>
      simp only [nameC, Bool.and_eq_true, List.all_eq_true, Bool.or_eq_true] at hn
      cases i with
      | zero => simp at h; subst h; rw [hl] at hn; exact absurd hn.1 (by simp)
      | succ i =>
        have := hn.2 c (List.mem_of_getElem? (i := i) (by simpa using h))
        rw [hl, hd.resolve_left (Nat.succ_ne_zero i)] at this
        simp at this

theorem nameR_ok (hT : T.fn 35 = some C35) (hl : T.fn 48 = some C48) (hd : T.fn 49 = some C49) (hw : T.fn 50 = some C50) {s : ByteArray} {h : Heap} (hs : s.size < 9223372036854775807) :
    Wk T (.fn 35) [.string s] h (fun o h' => Kept h h' ∧ o = .ret (.bool (nameB s))) := by
  refine Wk_fn hT (by simp [C35]) ?_
  simp only [C35]
  refine Wc_seq (Wc_ops (Wo_run (fun call => by simp only [List.drop_succ_cons, List.drop_zero, iops_nil, iops_op, iops_grd, iK_some, iG_true, iG_false, gval_bool, beq_self_eq_true, beq_true, beq_false, Bool.not_true, Bool.not_false, iop, ev, upd, dstUpd, binV, binI, unV, ptr, Heap.cell, Heap.write, cellsOf, put, args0, partL, List.getD_cons_zero, List.getD_cons_succ, List.length_cons, List.length_nil, List.set_cons_zero, List.set_cons_succ, List.getElem?_cons_zero, List.getElem?_cons_succ, reduceIte, Nat.reduceEqDiff, Nat.reduceAdd, Nat.reduceMul, Nat.reduceLeDiff, Nat.zero_add, Nat.add_zero, Option.map_some, Int.reduceEq, Int.reduceLT, Int.reduceLE, Bool.false_eq_true, decide_true, decide_false, ge_iff_le, gt_iff_lt, set_get']; rfl) ?_))
  show Wc T _ _ _
  refine Wc_seq (Wc_seq (Wc_ops (Wo_run (fun call => by simp only [List.drop_succ_cons, List.drop_zero, iops_nil, iops_op, iops_grd, iK_some, iG_true, iG_false, gval_bool, beq_self_eq_true, beq_true, beq_false, Bool.not_true, Bool.not_false, iop, ev, upd, dstUpd, binV, binI, unV, ptr, Heap.cell, Heap.write, cellsOf, put, args0, partL, List.getD_cons_zero, List.getD_cons_succ, List.length_cons, List.length_nil, List.set_cons_zero, List.set_cons_succ, List.getElem?_cons_zero, List.getElem?_cons_succ, reduceIte, Nat.reduceEqDiff, Nat.reduceAdd, Nat.reduceMul, Nat.reduceLeDiff, Nat.zero_add, Nat.add_zero, Option.map_some, Int.reduceEq, Int.reduceLT, Int.reduceLE, Bool.false_eq_true, decide_true, decide_false, ge_iff_le, gt_iff_lt, set_get']; rfl) ?_)))
  show Wc T _ _ _
  refine Wc_for s.size (fun j e h' d => d = some [] ∧ h' = h ∧ ∀ i, i < j → ∀ c, (bs s)[i]? = some c → isL c.toNat = true ∨ (i ≠ 0 ∧ isD c.toNat = true)) (by decide) (by simp only [upd, dstUpd, reduceIte, Nat.reduceEqDiff]) hs (by decide) ⟨rfl, rfl, fun i hi => by omega⟩ ?_
  rintro j e h' d hj ⟨rfl, hh, hok⟩ hfr h3
  rw [hh]
  have e0 : e 0 = .string s := (by rw [hfr 0 (by decide)]; try simp only [upd, dstUpd, args0, List.getD_cons_zero, List.getD_cons_succ, reduceIte, Nat.reduceEqDiff] <;> first | rfl | assumption | (symm; assumption))
  refine (Wo_run (fun call => by simp only [List.drop_succ_cons, List.drop_zero, iops_nil, iops_op, iops_grd, iK_some, iG_true, iG_false, gval_bool, beq_self_eq_true, beq_true, beq_false, Bool.not_true, Bool.not_false, iop, ev, upd, dstUpd, binV, binI, unV, ptr, Heap.cell, Heap.write, cellsOf, put, args0, partL, List.getD_cons_zero, List.getD_cons_succ, List.length_cons, List.length_nil, List.set_cons_zero, List.set_cons_succ, List.getElem?_cons_zero, List.getElem?_cons_succ, reduceIte, Nat.reduceEqDiff, Nat.reduceAdd, Nat.reduceMul, Nat.reduceLeDiff, Nat.zero_add, Nat.add_zero, Option.map_some, Int.reduceEq, Int.reduceLT, Int.reduceLE, Bool.false_eq_true, decide_true, decide_false, ge_iff_le, gt_iff_lt, set_get', h3, e0]; rfl) ?_)
  refine ⟨rfl, decide ((j : Int) < s.size), (by simp only [upd, dstUpd, args0, List.getD_cons_zero, List.getD_cons_succ, reduceIte, Nat.reduceEqDiff, ptr] <;> first | rfl | assumption | (symm; assumption)), fun hlt => ?_, fun hge => ?_⟩
  case refine_2 =>
    have hjs : j = (bs s).length := by simp only [decide_eq_false_iff_not] at hge; rw [← bs_size]; omega
    have hc : nameC (bs s) = true := nameC_of fun i c hi => hok i (by rw [hjs]; exact (List.getElem?_eq_some_iff.1 hi).1) c hi
    show Wc T _ _ _
    cases hz : decide (s = ⟨#[]⟩)
    · refine Wc_seq (Wc_ops (Wo_pre 4 (fun call => by simp only [List.take_succ_cons, List.take_zero, List.drop_succ_cons, List.drop_zero, iops_nil, iops_op, iops_grd, iK_some, iG_true, iG_false, gval_bool, beq_self_eq_true, beq_true, beq_false, Bool.not_true, Bool.not_false, iop, ev, upd, dstUpd, binV, binI, unV, ptr, Heap.cell, Heap.write, cellsOf, put, args0, partL, List.getD_cons_zero, List.getD_cons_succ, List.length_cons, List.length_nil, List.set_cons_zero, List.set_cons_succ, List.getElem?_cons_zero, List.getElem?_cons_succ, reduceIte, Nat.reduceEqDiff, Nat.reduceAdd, Nat.reduceMul, Nat.reduceLeDiff, Nat.zero_add, Nat.add_zero, Option.map_some, Int.reduceEq, Int.reduceLT, Int.reduceLE, Bool.false_eq_true, decide_true, decide_false, ge_iff_le, gt_iff_lt, set_get', e0, hz]; rfl) ?_))
      refine Wo_take (by simp only [upd, dstUpd, reduceIte, Nat.reduceEqDiff, gval_bool]; rfl) (Wo_call (Wk_kept (wordR_ok hw) fun h1 k1 => ?_))
      refine (Wo_run (fun call => by simp only [List.drop_succ_cons, List.drop_zero, iops_nil, iops_op, iops_grd, iK_some, iG_true, iG_false, gval_bool, beq_self_eq_true, beq_true, beq_false, Bool.not_true, Bool.not_false, iop, ev, upd, dstUpd, binV, binI, unV, ptr, Heap.cell, Heap.write, cellsOf, put, args0, partL, List.getD_cons_zero, List.getD_cons_succ, List.length_cons, List.length_nil, List.set_cons_zero, List.set_cons_succ, List.getElem?_cons_zero, List.getElem?_cons_succ, reduceIte, Nat.reduceEqDiff, Nat.reduceAdd, Nat.reduceMul, Nat.reduceLeDiff, Nat.zero_add, Nat.add_zero, Option.map_some, Int.reduceEq, Int.reduceLT, Int.reduceLE, Bool.false_eq_true, decide_true, decide_false, ge_iff_le, gt_iff_lt, set_get']; rfl) ?_)
      refine Wc_ret ⟨.inr rfl, rfl, [.bool (!wordB s)], by simp only [resAll, resV, upd, dstUpd, reduceIte, Nat.reduceEqDiff], k1, ?_⟩
      have hne : bs s ≠ [] := fun he => by rw [(emp s).2 (by rw [he]; rfl)] at hz; cases hz
      simp only [nameB, hc, decide_eq_true hne, Bool.true_and]; rfl
    · refine Wc_seq (Wc_ops (Wo_run (fun call => by simp only [List.drop_succ_cons, List.drop_zero, iops_nil, iops_op, iops_grd, iK_some, iG_true, iG_false, gval_bool, beq_self_eq_true, beq_true, beq_false, Bool.not_true, Bool.not_false, iop, ev, upd, dstUpd, binV, binI, unV, ptr, Heap.cell, Heap.write, cellsOf, put, args0, partL, List.getD_cons_zero, List.getD_cons_succ, List.length_cons, List.length_nil, List.set_cons_zero, List.set_cons_succ, List.getElem?_cons_zero, List.getElem?_cons_succ, reduceIte, Nat.reduceEqDiff, Nat.reduceAdd, Nat.reduceMul, Nat.reduceLeDiff, Nat.zero_add, Nat.add_zero, Option.map_some, Int.reduceEq, Int.reduceLT, Int.reduceLE, Bool.false_eq_true, decide_true, decide_false, ge_iff_le, gt_iff_lt, set_get', e0, hz]; rfl) ?_))
      refine Wc_ret ⟨.inr rfl, rfl, [.bool false], by simp only [resAll, resV, upd, dstUpd, reduceIte, Nat.reduceEqDiff], Kept.refl h, ?_⟩
      have hne : bs s = [] := List.eq_nil_of_length_eq_zero ((emp s).1 hz)
      simp only [nameB, hne, ne_eq, not_true_eq_false, decide_false, Bool.and_false, Bool.false_and]; rfl
  have hjs : j < s.size := by simpa using hlt
  obtain ⟨c, hc⟩ := bs_at hjs
  have hsc : s.data.toList[j]? = some c := hc
  refine ⟨hjs, ?_⟩
  have go : (isL c.toNat = true ∨ (j ≠ 0 ∧ isD c.toNat = true)) → ∀ i, i < j + 1 → ∀ c, (bs s)[i]? = some c → isL c.toNat = true ∨ (i ≠ 0 ∧ isD c.toNat = true) := fun hj2 i hi c' hc' => by
    rcases Nat.lt_or_eq_of_le (Nat.le_of_lt_succ hi) with h1 | h1
    · exact hok i h1 c' hc'
    · subst h1; rw [hc] at hc'; cases hc'; exact hj2
  have no : isL c.toNat = false → (j = 0 ∨ isD c.toNat = false) → ∀ e : Env, e 2 = .bool false → (Ex.ret = .normal ∨ Ex.ret = .ret) ∧ some ([] : List Dfr) = some [] ∧ ∃ vs, resAll e h [.tmp 2] = some vs ∧ Kept h h ∧ Out.ret (tup vs) = .ret (.bool (nameB s)) := fun h1 h2 e he =>
    ⟨.inr rfl, rfl, [.bool false], by simp only [resAll, resV, he], Kept.refl h, by simp only [nameB, nameC_not hc h1 h2, Bool.false_and]; rfl⟩
  refine Wc_seq (Wc_ops (Wo_pre 3 (fun call => by simp only [List.take_succ_cons, List.take_zero, List.drop_succ_cons, List.drop_zero, iops_nil, iops_op, iops_grd, iK_some, iG_true, iG_false, gval_bool, beq_self_eq_true, beq_true, beq_false, Bool.not_true, Bool.not_false, iop, ev, upd, dstUpd, binV, binI, unV, ptr, Heap.cell, Heap.write, cellsOf, put, args0, partL, List.getD_cons_zero, List.getD_cons_succ, List.length_cons, List.length_nil, List.set_cons_zero, List.set_cons_succ, List.getElem?_cons_zero, List.getElem?_cons_succ, reduceIte, Nat.reduceEqDiff, Nat.reduceAdd, Nat.reduceMul, Nat.reduceLeDiff, Nat.zero_add, Nat.add_zero, Option.map_some, Int.reduceEq, Int.reduceLT, Int.reduceLE, Bool.false_eq_true, decide_true, decide_false, ge_iff_le, gt_iff_lt, set_get', h3, e0, idx_ok hjs, hsc]; rfl) ?_))
  refine Wo_call (Wk_pure (letter_ok hl) ?_)
  cases hL : isL c.toNat
  case true =>
    refine (Wo_run (fun call => by simp only [List.drop_succ_cons, List.drop_zero, iops_nil, iops_op, iops_grd, iK_some, iG_true, iG_false, gval_bool, beq_self_eq_true, beq_true, beq_false, Bool.not_true, Bool.not_false, iop, ev, upd, dstUpd, binV, binI, unV, ptr, Heap.cell, Heap.write, cellsOf, put, args0, partL, List.getD_cons_zero, List.getD_cons_succ, List.length_cons, List.length_nil, List.set_cons_zero, List.set_cons_succ, List.getElem?_cons_zero, List.getElem?_cons_succ, reduceIte, Nat.reduceEqDiff, Nat.reduceAdd, Nat.reduceMul, Nat.reduceLeDiff, Nat.zero_add, Nat.add_zero, Option.map_some, Int.reduceEq, Int.reduceLT, Int.reduceLE, Bool.false_eq_true, decide_true, decide_false, ge_iff_le, gt_iff_lt, set_get', hL]; rfl) ?_)
    show Wc T _ _ _
    refine Wc_cond false (by simp only [upd, dstUpd, args0, List.getD_cons_zero, List.getD_cons_succ, reduceIte, Nat.reduceEqDiff, ptr] <;> first | rfl | assumption | (symm; assumption)) (fun e => by cases e) (fun _ => Wc_skip ?_)
    exact ⟨rfl, rfl, go (.inl hL)⟩
  cases hj0 : (((j : Nat) : Int) == 0)
  case true =>
    refine (Wo_run (fun call => by simp only [List.drop_succ_cons, List.drop_zero, iops_nil, iops_op, iops_grd, iK_some, iG_true, iG_false, gval_bool, beq_self_eq_true, beq_true, beq_false, Bool.not_true, Bool.not_false, iop, ev, upd, dstUpd, binV, binI, unV, ptr, Heap.cell, Heap.write, cellsOf, put, args0, partL, List.getD_cons_zero, List.getD_cons_succ, List.length_cons, List.length_nil, List.set_cons_zero, List.set_cons_succ, List.getElem?_cons_zero, List.getElem?_cons_succ, reduceIte, Nat.reduceEqDiff, Nat.reduceAdd, Nat.reduceMul, Nat.reduceLeDiff, Nat.zero_add, Nat.add_zero, Option.map_some, Int.reduceEq, Int.reduceLT, Int.reduceLE, Bool.false_eq_true, decide_true, decide_false, ge_iff_le, gt_iff_lt, set_get', hL, h3, hj0]; rfl) ?_)
    show Wc T _ _ _
    refine Wc_cond true (by simp only [upd, dstUpd, args0, List.getD_cons_zero, List.getD_cons_succ, reduceIte, Nat.reduceEqDiff, ptr] <;> first | rfl | assumption | (symm; assumption)) (fun _ => ?_) (fun e => by cases e)
    refine Wc_seq (Wc_ops (Wo_run (fun call => by simp only [List.drop_succ_cons, List.drop_zero, iops_nil, iops_op, iops_grd, iK_some, iG_true, iG_false, gval_bool, beq_self_eq_true, beq_true, beq_false, Bool.not_true, Bool.not_false, iop, ev, upd, dstUpd, binV, binI, unV, ptr, Heap.cell, Heap.write, cellsOf, put, args0, partL, List.getD_cons_zero, List.getD_cons_succ, List.length_cons, List.length_nil, List.set_cons_zero, List.set_cons_succ, List.getElem?_cons_zero, List.getElem?_cons_succ, reduceIte, Nat.reduceEqDiff, Nat.reduceAdd, Nat.reduceMul, Nat.reduceLeDiff, Nat.zero_add, Nat.add_zero, Option.map_some, Int.reduceEq, Int.reduceLT, Int.reduceLE, Bool.false_eq_true, decide_true, decide_false, ge_iff_le, gt_iff_lt, set_get']; rfl) ?_))
    exact Wc_ret (no hL (.inl (by have := beq_iff_eq.1 hj0; omega)) _ (by simp only [upd, dstUpd, args0, List.getD_cons_zero, List.getD_cons_succ, reduceIte, Nat.reduceEqDiff, ptr] <;> first | rfl | assumption | (symm; assumption)))
  refine (Wo_pre 8 (fun call => by simp only [List.take_succ_cons, List.take_zero, List.drop_succ_cons, List.drop_zero, iops_nil, iops_op, iops_grd, iK_some, iG_true, iG_false, gval_bool, beq_self_eq_true, beq_true, beq_false, Bool.not_true, Bool.not_false, iop, ev, upd, dstUpd, binV, binI, unV, ptr, Heap.cell, Heap.write, cellsOf, put, args0, partL, List.getD_cons_zero, List.getD_cons_succ, List.length_cons, List.length_nil, List.set_cons_zero, List.set_cons_succ, List.getElem?_cons_zero, List.getElem?_cons_succ, reduceIte, Nat.reduceEqDiff, Nat.reduceAdd, Nat.reduceMul, Nat.reduceLeDiff, Nat.zero_add, Nat.add_zero, Option.map_some, Int.reduceEq, Int.reduceLT, Int.reduceLE, Bool.false_eq_true, decide_true, decide_false, ge_iff_le, gt_iff_lt, set_get', hL, h3, e0, hj0, idx_ok hjs, hsc]; rfl) ?_)
  refine Wo_take (by simp only [upd, dstUpd, reduceIte, Nat.reduceEqDiff, gval_bool]; rfl) (Wo_call (Wk_pure (digit_ok hd) ?_))
  cases hD : isD c.toNat
  · refine (Wo_run (fun call => by simp only [List.drop_succ_cons, List.drop_zero, iops_nil, iops_op, iops_grd, iK_some, iG_true, iG_false, gval_bool, beq_self_eq_true, beq_true, beq_false, Bool.not_true, Bool.not_false, iop, ev, upd, dstUpd, binV, binI, unV, ptr, Heap.cell, Heap.write, cellsOf, put, args0, partL, List.getD_cons_zero, List.getD_cons_succ, List.length_cons, List.length_nil, List.set_cons_zero, List.set_cons_succ, List.getElem?_cons_zero, List.getElem?_cons_succ, reduceIte, Nat.reduceEqDiff, Nat.reduceAdd, Nat.reduceMul, Nat.reduceLeDiff, Nat.zero_add, Nat.add_zero, Option.map_some, Int.reduceEq, Int.reduceLT, Int.reduceLE, Bool.false_eq_true, decide_true, decide_false, ge_iff_le, gt_iff_lt, set_get', hD]; rfl) ?_)
    show Wc T _ _ _
    refine Wc_cond true (by simp only [upd, dstUpd, args0, List.getD_cons_zero, List.getD_cons_succ, reduceIte, Nat.reduceEqDiff, ptr] <;> first | rfl | assumption | (symm; assumption)) (fun _ => ?_) (fun e => by cases e)
    refine Wc_seq (Wc_ops (Wo_run (fun call => by simp only [List.drop_succ_cons, List.drop_zero, iops_nil, iops_op, iops_grd, iK_some, iG_true, iG_false, gval_bool, beq_self_eq_true, beq_true, beq_false, Bool.not_true, Bool.not_false, iop, ev, upd, dstUpd, binV, binI, unV, ptr, Heap.cell, Heap.write, cellsOf, put, args0, partL, List.getD_cons_zero, List.getD_cons_succ, List.length_cons, List.length_nil, List.set_cons_zero, List.set_cons_succ, List.getElem?_cons_zero, List.getElem?_cons_succ, reduceIte, Nat.reduceEqDiff, Nat.reduceAdd, Nat.reduceMul, Nat.reduceLeDiff, Nat.zero_add, Nat.add_zero, Option.map_some, Int.reduceEq, Int.reduceLT, Int.reduceLE, Bool.false_eq_true, decide_true, decide_false, ge_iff_le, gt_iff_lt, set_get']; rfl) ?_))
    exact Wc_ret (no hL (.inr hD) _ (by simp only [upd, dstUpd, args0, List.getD_cons_zero, List.getD_cons_succ, reduceIte, Nat.reduceEqDiff, ptr] <;> first | rfl | assumption | (symm; assumption)))
  · refine (Wo_run (fun call => by simp only [List.drop_succ_cons, List.drop_zero, iops_nil, iops_op, iops_grd, iK_some, iG_true, iG_false, gval_bool, beq_self_eq_true, beq_true, beq_false, Bool.not_true, Bool.not_false, iop, ev, upd, dstUpd, binV, binI, unV, ptr, Heap.cell, Heap.write, cellsOf, put, args0, partL, List.getD_cons_zero, List.getD_cons_succ, List.length_cons, List.length_nil, List.set_cons_zero, List.set_cons_succ, List.getElem?_cons_zero, List.getElem?_cons_succ, reduceIte, Nat.reduceEqDiff, Nat.reduceAdd, Nat.reduceMul, Nat.reduceLeDiff, Nat.zero_add, Nat.add_zero, Option.map_some, Int.reduceEq, Int.reduceLT, Int.reduceLE, Bool.false_eq_true, decide_true, decide_false, ge_iff_le, gt_iff_lt, set_get', hD]; rfl) ?_)
    show Wc T _ _ _
    refine Wc_cond false (by simp only [upd, dstUpd, args0, List.getD_cons_zero, List.getD_cons_succ, reduceIte, Nat.reduceEqDiff, ptr] <;> first | rfl | assumption | (symm; assumption)) (fun e => by cases e) (fun _ => Wc_skip ?_)
    exact ⟨rfl, rfl, go (.inr ⟨(fun e => by rw [e] at hj0; cases hj0), hD⟩)⟩

end Go.Idl
end

section
/- Words and names, by the scanner. -/
namespace Go.Idl
set_option linter.unusedVariables false
set_option linter.unusedSimpArgs false
set_option maxRecDepth 100000

variable {T : Tbl}

/-- What all bytes are. -/
def clsL : List Int := [0, 0, 0, 0, 0, 0, 0, 0, 0, 1, 1, 0, 0, 1, 0, 0, 0, 0, 0, 0, 0, 0, 0, 0, 0, 0, 0, 0, 0, 0, 0, 0, 1, 4, 0, 0, 0, 4, 4, 5, 4, 4, 4, 4, 4, 4, 4, 4, 3, 3, 3, 3, 3, 3, 3, 3, 3, 3, 0, 4, 4, 4, 4, 0, 0, 2, 2, 2, 2, 2, 2, 2, 2, 2, 2, 2, 2, 2, 2, 2, 2, 2, 2, 2, 2, 2, 2, 2, 2, 2, 2, 4, 0, 4, 4, 2, 0, 2, 2, 2, 2, 2, 2, 2, 2, 2, 2, 2, 2, 2, 2, 2, 2, 2, 2, 2, 2, 2, 2, 2, 2, 2, 2, 4, 4, 4, 4, 0, 0, 0, 0, 0, 0, 0, 0, 0, 0, 0, 0, 0, 0, 0, 0, 0, 0, 0, 0, 0, 0, 0, 0, 0, 0, 0, 0, 0, 0, 0, 0, 0, 0, 0, 0, 0, 0, 0, 0, 0, 0, 0, 0, 0, 0, 0, 0, 0, 0, 0, 0, 0, 0, 0, 0, 0, 0, 0, 0, 0, 0, 0, 0, 0, 0, 0, 0, 0, 0, 0, 0, 0, 0, 0, 0, 0, 0, 0, 0, 0, 0, 0, 0, 0, 0, 0, 0, 0, 0, 0, 0, 0, 0, 0, 0, 0, 0, 0, 0, 0, 0, 0, 0, 0, 0, 0, 0, 0, 0, 0, 0, 0, 0, 0, 0, 0, 0, 0, 0, 0, 0, 0, 0, 0, 0, 0, 0, 0]
def clsC : List Value := clsL.map fun n => Value.int .i64 n
def clsV : Value := .agg clsC.toArray
def clsI (c : Nat) : Int := clsL.getD c 0
theorem cls_facts : ((List.range 256).all fun c => decide (clsI c = 2) == isL c && (decide (clsI c = 3) == isD c)) = true := by kernel_rfl
theorem cls2 {c : Nat} (h : c < 256) : decide (clsI c = 2) = isL c := by
  have := List.all_eq_true.1 cls_facts c (List.mem_range.2 h)
  simp only [Bool.and_eq_true, beq_iff_eq] at this
  exact this.1
theorem cls3 {c : Nat} (h : c < 256) : decide (clsI c = 3) = isD c := by
  have := List.all_eq_true.1 cls_facts c (List.mem_range.2 h)
  simp only [Bool.and_eq_true, beq_iff_eq] at this
  exact this.2
theorem clsL_len : clsL.length = 256 := by kernel_rfl
theorem clsC_at {c : Nat} (h : c < 256) : clsC[c]? = some (.int .i64 (clsI c)) := by
  simp only [clsC, List.getElem?_map, clsI, List.getD_eq_getElem?_getD]
  rw [List.getElem?_eq_getElem (by rw [clsL_len]; exact h)]
  rfl

/-- A scanner's cells. -/
def scnC (s : ByteArray) (at' : Nat) : List Value := .string s :: .int .i64 at' :: clsC
/-- What stands at a place of a text. -/
def clsAt (s : ByteArray) (j : Nat) : Int := match (bs s)[j]? with
  | some c => clsI c.toNat
  | none => 0

theorem peek_ok (hT : T.fn 43 = some C43) {s : ByteArray} {a k b : Nat} {o : Bool} {z : Nat} {h : Heap} (hg : h.get b = some (.cells (scnC s a) o z)) (hs : a + k < 9223372036854775807) :
    Wk T (.fn 43) [ptr b 0, .int .i64 k] h (fun o h' => h' = h ∧ o = .ret (.int .i64 (clsAt s (a + k)))) := by
  refine Wk_fn hT (by simp [C43]) ?_
  simp only [C43]
  have hw : IntKind.i64.wrap ((a : Int) + (k : Int)) = ((a + k : Nat) : Int) := by rw [wrap64] <;> omega
  refine Wc_seq (Wc_ops (Wo_run (fun call => by simp only [List.drop_succ_cons, List.drop_zero, iops_nil, iops_op, iops_grd, iK_some, iG_true, iG_false, gval_bool, beq_self_eq_true, beq_true, beq_false, Bool.not_true, Bool.not_false, iop, ev, upd, dstUpd, binV, binI, unV, ptr, Heap.cell, Heap.write, cellsOf, put, args0, partL, List.getD_cons_zero, List.getD_cons_succ, List.length_cons, List.length_nil, List.set_cons_zero, List.set_cons_succ, List.getElem?_cons_zero, List.getElem?_cons_succ, reduceIte, Nat.reduceEqDiff, Nat.reduceAdd, Nat.reduceMul, Nat.reduceLeDiff, Nat.zero_add, Nat.add_zero, Option.map_some, Int.reduceEq, Int.reduceLT, Int.reduceLE, Bool.false_eq_true, decide_true, decide_false, ge_iff_le, gt_iff_lt, set_get']; rfl) ?_))
  show Wc T _ _ _
  refine Wc_seq (Wc_seq (Wc_draw_calm (by decide) (Wo_run (fun call => by simp only [iops_nil, iops_op, iK_some, iop, ev, upd, dstUpd, binV, binI, ptr, Heap.cell, args0, scnC, hg, hw, List.getD_cons_zero, List.getD_cons_succ, List.getElem?_cons_zero, List.getElem?_cons_succ, reduceIte, Nat.reduceEqDiff, Nat.reduceAdd, Nat.zero_add, Option.map_some, ge_iff_le]; rfl) ⟨rfl, ?_⟩)))
  show Wc T _ _ _
  by_cases hlt : a + k < s.size
  case neg =>
    refine Wc_cond true (by simp [ev, upd]; omega) (fun _ => ?_) (fun e => by cases e)
    refine Wc_seq (Wc_ops (Wo_run (fun call => by simp only [List.drop_succ_cons, List.drop_zero, iops_nil, iops_op, iops_grd, iK_some, iG_true, iG_false, gval_bool, beq_self_eq_true, beq_true, beq_false, Bool.not_true, Bool.not_false, iop, ev, upd, dstUpd, binV, binI, unV, ptr, Heap.cell, Heap.write, cellsOf, put, args0, partL, List.getD_cons_zero, List.getD_cons_succ, List.length_cons, List.length_nil, List.set_cons_zero, List.set_cons_succ, List.getElem?_cons_zero, List.getElem?_cons_succ, reduceIte, Nat.reduceEqDiff, Nat.reduceAdd, Nat.reduceMul, Nat.reduceLeDiff, Nat.zero_add, Nat.add_zero, Option.map_some, Int.reduceEq, Int.reduceLT, Int.reduceLE, Bool.false_eq_true, decide_true, decide_false, ge_iff_le, gt_iff_lt, set_get']; rfl) ?_))
    refine Wc_ret ⟨.inr rfl, rfl, [.int .i64 0], by simp only [resAll, resV, upd, dstUpd, reduceIte, Nat.reduceEqDiff], rfl, ?_⟩
    rw [clsAt, List.getElem?_eq_none (by rw [← bs_size]; omega)]; rfl
  refine Wc_cond false (by simp [ev, upd]; omega) (fun e => by cases e) (fun _ => Wc_skip ?_)
  obtain ⟨c, hc⟩ := bs_at hlt
  have hsc : s.data.toList[a + k]? = some c := hc
  have hc2 := u8_lt c
  have hi : idxV 256 (.int .u8 ((c.toNat : Nat) : Int)) = some c.toNat := by simp only [idxV, Int.toNat_natCast]; rw [if_pos (by omega)]
  have hcell : (scnC s a)[2 + c.toNat]? = some (.int .i64 (clsI c.toNat)) := by
    rw [scnC, show 2 + c.toNat = c.toNat + 1 + 1 by omega, List.getElem?_cons_succ, List.getElem?_cons_succ]; exact clsC_at (by omega)
  have hc0 : (scnC s a)[0]? = some (.string s) := rfl
  have hc1 : (scnC s a)[1]? = some (.int .i64 a) := rfl
  show Wc T _ _ _
  refine Wc_seq (Wc_draw_calm (by decide) (Wo_run (fun call => by simp only [iops_nil, iops_op, iK_some, iop, ev, upd, dstUpd, binV, binI, ptr, Heap.cell, args0, hg, hc0, hc1, hcell, hw, idx_ok hlt, hi, hsc, List.getD_cons_zero, List.getD_cons_succ, reduceIte, Nat.reduceEqDiff, Nat.reduceAdd, Nat.zero_add, Nat.mul_one, Option.map_some]; rfl) ⟨rfl, ?_⟩))
  refine Wc_ret ⟨.inr rfl, rfl, [.int .i64 (clsI c.toNat)], by simp only [resAll, resV, upd, dstUpd, reduceIte, Nat.reduceEqDiff], rfl, ?_⟩
  rw [clsAt, hc]; rfl

/-- How many letters and digits stand there. -/
def runN : List UInt8 → Nat
  | [] => 0
  | c :: r => if isL c.toNat || isD c.toNat then runN r + 1 else 0
def isLD (s : ByteArray) (j : Nat) : Bool := decide (clsAt s j = 2) || decide (clsAt s j = 3)
theorem isLD_of {s : ByteArray} {j : Nat} {c : UInt8} (h : (bs s)[j]? = some c) : isLD s j = (isL c.toNat || isD c.toNat) := by
  have := u8_lt c
  rw [isLD, clsAt, h]
  simp only
  rw [cls2 (by omega), cls3 (by omega)]
theorem isLD_no {s : ByteArray} {j : Nat} (h : (bs s).length ≤ j) : isLD s j = false := by
  rw [isLD, clsAt, List.getElem?_eq_none h]; rfl
theorem runN_le : ∀ l : List UInt8, runN l ≤ l.length
  | [] => Nat.le_refl _
  | c :: r => by
    have := runN_le r
    simp only [runN, List.length_cons]
    split <;> omega
theorem runN_step {s : ByteArray} {j : Nat} : runN ((bs s).drop j) = if isLD s j then runN ((bs s).drop (j + 1)) + 1 else 0 := by
  by_cases hj : j < (bs s).length
  · have hc := List.getElem?_eq_getElem hj
    rw [isLD_of hc, List.drop_eq_getElem_cons hj]; rfl
  · rw [isLD_no (by omega), List.drop_of_length_le (by omega)]; rfl

theorem goes_ok (hT : T.fn 44 = some C44) (hp : T.fn 43 = some C43) {s : ByteArray} {a b : Nat} {o : Bool} {z : Nat} {h : Heap} (hg : h.get b = some (.cells (scnC s a) o z)) (ha : a ≤ s.size) (hs : s.size < 4611686018427387904) :
    Wk T (.fn 44) [ptr b 0] h (fun o h' => h' = h ∧ o = .ret (.int .i64 ((runN ((bs s).drop a) : Nat) : Int))) := by
  refine Wk_fn hT (by simp [C44]) ?_
  simp only [C44]
  refine Wc_seq (Wc_ops (Wo_run (fun call => by simp only [List.drop_succ_cons, List.drop_zero, iops_nil, iops_op, iops_grd, iK_some, iG_true, iG_false, gval_bool, beq_self_eq_true, beq_true, beq_false, Bool.not_true, Bool.not_false, iop, ev, upd, dstUpd, binV, binI, unV, ptr, Heap.cell, Heap.write, cellsOf, put, args0, partL, List.getD_cons_zero, List.getD_cons_succ, List.length_cons, List.length_nil, List.set_cons_zero, List.set_cons_succ, List.getElem?_cons_zero, List.getElem?_cons_succ, reduceIte, Nat.reduceEqDiff, Nat.reduceAdd, Nat.reduceMul, Nat.reduceLeDiff, Nat.zero_add, Nat.add_zero, Option.map_some, Int.reduceEq, Int.reduceLT, Int.reduceLE, Bool.false_eq_true, decide_true, decide_false, ge_iff_le, gt_iff_lt, set_get']; rfl) ?_))
  show Wc T _ _ _
  refine Wc_seq (Wc_ops (Wo_run (fun call => by simp only [List.drop_succ_cons, List.drop_zero, iops_nil, iops_op, iops_grd, iK_some, iG_true, iG_false, gval_bool, beq_self_eq_true, beq_true, beq_false, Bool.not_true, Bool.not_false, iop, ev, upd, dstUpd, binV, binI, unV, ptr, Heap.cell, Heap.write, cellsOf, put, args0, partL, List.getD_cons_zero, List.getD_cons_succ, List.length_cons, List.length_nil, List.set_cons_zero, List.set_cons_succ, List.getElem?_cons_zero, List.getElem?_cons_succ, reduceIte, Nat.reduceEqDiff, Nat.reduceAdd, Nat.reduceMul, Nat.reduceLeDiff, Nat.zero_add, Nat.add_zero, Option.map_some, Int.reduceEq, Int.reduceLT, Int.reduceLE, Bool.false_eq_true, decide_true, decide_false, ge_iff_le, gt_iff_lt, set_get']; rfl) ?_))
  show Wc T _ _ _
  refine Wc_seq (Wc_seq (Wc_ops (Wo_pre 2 (fun call => by simp only [List.take_succ_cons, List.take_zero, List.drop_succ_cons, List.drop_zero, iops_nil, iops_op, iops_grd, iK_some, iG_true, iG_false, gval_bool, beq_self_eq_true, beq_true, beq_false, Bool.not_true, Bool.not_false, iop, ev, upd, dstUpd, binV, binI, unV, ptr, Heap.cell, Heap.write, cellsOf, put, args0, partL, List.getD_cons_zero, List.getD_cons_succ, List.length_cons, List.length_nil, List.set_cons_zero, List.set_cons_succ, List.getElem?_cons_zero, List.getElem?_cons_succ, reduceIte, Nat.reduceEqDiff, Nat.reduceAdd, Nat.reduceMul, Nat.reduceLeDiff, Nat.zero_add, Nat.add_zero, Option.map_some, Int.reduceEq, Int.reduceLT, Int.reduceLE, Bool.false_eq_true, decide_true, decide_false, ge_iff_le, gt_iff_lt, set_get']; rfl) ?_)))
  refine Wo_call (Wk_pure (peek_ok (k := 0) hp hg (by omega)) ?_)
  refine (Wo_run (fun call => by simp only [List.drop_succ_cons, List.drop_zero, iops_nil, iops_op, iops_grd, iK_some, iG_true, iG_false, gval_bool, beq_self_eq_true, beq_true, beq_false, Bool.not_true, Bool.not_false, iop, ev, upd, dstUpd, binV, binI, unV, ptr, Heap.cell, Heap.write, cellsOf, put, args0, partL, List.getD_cons_zero, List.getD_cons_succ, List.length_cons, List.length_nil, List.set_cons_zero, List.set_cons_succ, List.getElem?_cons_zero, List.getElem?_cons_succ, reduceIte, Nat.reduceEqDiff, Nat.reduceAdd, Nat.reduceMul, Nat.reduceLeDiff, Nat.zero_add, Nat.add_zero, Option.map_some, Int.reduceEq, Int.reduceLT, Int.reduceLE, Bool.false_eq_true, decide_true, decide_false, ge_iff_le, gt_iff_lt, set_get']; rfl) ?_)
  show Wc T _ _ _
  refine Wc_block (Wc_loopF (fun e h' d => d = some [] ∧ h' = h ∧ ∃ k : Nat, a + k ≤ s.size ∧ e 3 = .int .i64 k ∧ e 4 = .int .i64 (clsAt s (a + k)) ∧ runN ((bs s).drop a) = k + runN ((bs s).drop (a + k))) (fun e _ => match e 3 with | .int _ k => (s.size - k).toNat | _ => 0) ?_ ?_)
  · exact ⟨rfl, rfl, 0, ha, (by simp only [upd, dstUpd, args0, List.getD_cons_zero, List.getD_cons_succ, reduceIte, Nat.reduceEqDiff, ptr] <;> first | rfl | assumption | (symm; assumption)), (by simp only [upd, dstUpd, args0, List.getD_cons_zero, List.getD_cons_succ, reduceIte, Nat.reduceEqDiff, ptr] <;> first | rfl | assumption | (symm; assumption)), by rw [Nat.zero_add]; rfl⟩
  rintro e h' d ⟨rfl, hh, k, hk, h3, h4, hrun⟩ hfr
  rw [hh]
  have e0 : e 0 = ptr b 0 := (by rw [hfr 0 (by decide)]; try simp only [upd, dstUpd, args0, List.getD_cons_zero, List.getD_cons_succ, reduceIte, Nat.reduceEqDiff] <;> first | rfl | assumption | (symm; assumption))
  rw [C44L0]
  refine Wc_mid (fun s' => s'.d = some [] ∧ s'.h = h ∧ FrE [8, 9, 10, 11, 12, 13] e s'.e ∧ isLD s (a + k) = true) ?_ ?_
  · refine Wc_fr (Wc_seq ?_)
    have ex : isLD s (a + k) = false → ∀ e' : Env, e' 13 = .bool false → e' 3 = .int .i64 k → Wc T (.cond (.t 13) .skip (.exit 0)) ⟨e', h, some []⟩ (fun x s' => FrE (mods (.seq (.ops [⟨(some 8), .op (.mov (.t 4)), none⟩, ⟨(some 9), .op (.bin .eql (.t 8) (.c (.int .i64 2))), none⟩, ⟨(some 10), .op (.mov (.t 9)), none⟩, ⟨(some 11), .op (.mov (.t 4)), (some (10, false))⟩, ⟨(some 12), .op (.bin .eql (.t 11) (.c (.int .i64 3))), (some (10, false))⟩, ⟨(some 13), .op (.pick (.t 10) (.c (.bool true)) (.t 12)), none⟩]) (.cond (.t 13) .skip (.exit 0)))) e s'.e → match x with
        | .normal => s'.d = some [] ∧ s'.h = h ∧ FrE [8, 9, 10, 11, 12, 13] e s'.e ∧ isLD s (a + k) = true
        | x => (match x with
          | .normal => (s'.d = some [] ∧ s'.h = h ∧ ∃ k : Nat, a + k ≤ s.size ∧ s'.e 3 = .int .i64 k ∧ s'.e 4 = .int .i64 (clsAt s (a + k)) ∧ runN ((bs s).drop a) = k + runN ((bs s).drop (a + k))) ∧ (match s'.e 3 with | .int _ k => (s.size - k).toNat | _ => 0) < (match e 3 with | .int _ k => (s.size - k).toNat | _ => 0)
          | x => Tb 0 (Tn T (.seq (.ops [⟨(some 19), .op (.mov (.t 3)), none⟩, ⟨(some 2), .op (.mov (.t 19)), none⟩]) .ret) fun x s_1 => (x = .normal ∨ x = .ret) ∧ s_1.d = some [] ∧ ∃ vs, resAll s_1.e s_1.h [.tmp 2] = some vs ∧ s_1.h = h ∧ Out.ret (tup vs) = .ret (.int .i64 ((runN ((bs s).drop a) : Nat) : Int))) x s')) := by
      intro hno e' h13 h3'
      refine Wc_cond false h13 (fun e => by cases e) (fun _ => Wc_exit fun _ => ?_)
      show Wc T _ _ _
      refine Wc_seq (Wc_ops (Wo_run (fun call => by simp only [List.drop_succ_cons, List.drop_zero, iops_nil, iops_op, iops_grd, iK_some, iG_true, iG_false, gval_bool, beq_self_eq_true, beq_true, beq_false, Bool.not_true, Bool.not_false, iop, ev, upd, dstUpd, binV, binI, unV, ptr, Heap.cell, Heap.write, cellsOf, put, args0, partL, List.getD_cons_zero, List.getD_cons_succ, List.length_cons, List.length_nil, List.set_cons_zero, List.set_cons_succ, List.getElem?_cons_zero, List.getElem?_cons_succ, reduceIte, Nat.reduceEqDiff, Nat.reduceAdd, Nat.reduceMul, Nat.reduceLeDiff, Nat.zero_add, Nat.add_zero, Option.map_some, Int.reduceEq, Int.reduceLT, Int.reduceLE, Bool.false_eq_true, decide_true, decide_false, ge_iff_le, gt_iff_lt, set_get', h3']; rfl) ?_))
      refine Wc_ret ⟨.inr rfl, rfl, [.int .i64 k], by simp only [resAll, resV, upd, dstUpd, reduceIte, Nat.reduceEqDiff], rfl, ?_⟩
      rw [hrun, runN_step (j := a + k), hno]; rfl
    cases y2 : (clsAt s (a + k) == 2)
    · cases y3 : (clsAt s (a + k) == 3)
      · refine Wc_ops (Wo_run (fun call => by simp only [List.drop_succ_cons, List.drop_zero, iops_nil, iops_op, iops_grd, iK_some, iG_true, iG_false, gval_bool, beq_self_eq_true, beq_true, beq_false, Bool.not_true, Bool.not_false, iop, ev, upd, dstUpd, binV, binI, unV, ptr, Heap.cell, Heap.write, cellsOf, put, args0, partL, List.getD_cons_zero, List.getD_cons_succ, List.length_cons, List.length_nil, List.set_cons_zero, List.set_cons_succ, List.getElem?_cons_zero, List.getElem?_cons_succ, reduceIte, Nat.reduceEqDiff, Nat.reduceAdd, Nat.reduceMul, Nat.reduceLeDiff, Nat.zero_add, Nat.add_zero, Option.map_some, Int.reduceEq, Int.reduceLT, Int.reduceLE, Bool.false_eq_true, decide_true, decide_false, ge_iff_le, gt_iff_lt, set_get', h4, y2, y3]; rfl) ?_)
        exact ex (by rw [isLD, ← Bool.beq_eq_decide_eq, ← Bool.beq_eq_decide_eq, y2, y3]; rfl) _ (by simp only [upd, dstUpd, args0, List.getD_cons_zero, List.getD_cons_succ, reduceIte, Nat.reduceEqDiff, ptr] <;> first | rfl | assumption | (symm; assumption)) (by simp only [upd, dstUpd, args0, List.getD_cons_zero, List.getD_cons_succ, reduceIte, Nat.reduceEqDiff, ptr, h3] <;> first | rfl | assumption | (symm; assumption))
      · refine Wc_ops (Wo_run (fun call => by simp only [List.drop_succ_cons, List.drop_zero, iops_nil, iops_op, iops_grd, iK_some, iG_true, iG_false, gval_bool, beq_self_eq_true, beq_true, beq_false, Bool.not_true, Bool.not_false, iop, ev, upd, dstUpd, binV, binI, unV, ptr, Heap.cell, Heap.write, cellsOf, put, args0, partL, List.getD_cons_zero, List.getD_cons_succ, List.length_cons, List.length_nil, List.set_cons_zero, List.set_cons_succ, List.getElem?_cons_zero, List.getElem?_cons_succ, reduceIte, Nat.reduceEqDiff, Nat.reduceAdd, Nat.reduceMul, Nat.reduceLeDiff, Nat.zero_add, Nat.add_zero, Option.map_some, Int.reduceEq, Int.reduceLT, Int.reduceLE, Bool.false_eq_true, decide_true, decide_false, ge_iff_le, gt_iff_lt, set_get', h4, y2, y3]; rfl) ?_)
        refine Wc_cond true (by simp only [upd, dstUpd, args0, List.getD_cons_zero, List.getD_cons_succ, reduceIte, Nat.reduceEqDiff, ptr] <;> first | rfl | assumption | (symm; assumption)) (fun _ => Wc_skip fun hf => ⟨rfl, rfl, hf, ?_⟩) (fun e => by cases e)
        rw [isLD, decide_eq_true (beq_iff_eq.1 y3), Bool.or_true]
    · refine Wc_ops (Wo_run (fun call => by simp only [List.drop_succ_cons, List.drop_zero, iops_nil, iops_op, iops_grd, iK_some, iG_true, iG_false, gval_bool, beq_self_eq_true, beq_true, beq_false, Bool.not_true, Bool.not_false, iop, ev, upd, dstUpd, binV, binI, unV, ptr, Heap.cell, Heap.write, cellsOf, put, args0, partL, List.getD_cons_zero, List.getD_cons_succ, List.length_cons, List.length_nil, List.set_cons_zero, List.set_cons_succ, List.getElem?_cons_zero, List.getElem?_cons_succ, reduceIte, Nat.reduceEqDiff, Nat.reduceAdd, Nat.reduceMul, Nat.reduceLeDiff, Nat.zero_add, Nat.add_zero, Option.map_some, Int.reduceEq, Int.reduceLT, Int.reduceLE, Bool.false_eq_true, decide_true, decide_false, ge_iff_le, gt_iff_lt, set_get', h4, y2]; rfl) ?_)
      refine Wc_cond true (by simp only [upd, dstUpd, args0, List.getD_cons_zero, List.getD_cons_succ, reduceIte, Nat.reduceEqDiff, ptr] <;> first | rfl | assumption | (symm; assumption)) (fun _ => Wc_skip fun hf => ⟨rfl, rfl, hf, ?_⟩) (fun e => by cases e)
      rw [isLD, decide_eq_true (beq_iff_eq.1 y2), Bool.true_or]
  rintro ⟨e', h'', d'⟩ ⟨hd', hh', hf, hy⟩
  simp only at hd' hh' hf
  rw [hd', hh']
  have g3 : e' 3 = .int .i64 k := by rw [hf 3 (by decide)]; exact h3
  have g0 : e' 0 = ptr b 0 := by rw [hf 0 (by decide)]; exact e0
  have hlt : a + k < (bs s).length := by
    rcases Nat.lt_or_ge (a + k) (bs s).length with h | h
    · exact h
    · rw [isLD_no h] at hy; cases hy
  rw [← bs_size] at hlt
  have e1 : IntKind.i64.wrap ((k : Int) + 1) = ((k + 1 : Nat) : Int) := by rw [wrap64] <;> omega
  refine Wc_seq (Wc_block (Wc_ops (Wo_run (fun call => by simp only [List.drop_succ_cons, List.drop_zero, iops_nil, iops_op, iops_grd, iK_some, iG_true, iG_false, gval_bool, beq_self_eq_true, beq_true, beq_false, Bool.not_true, Bool.not_false, iop, ev, upd, dstUpd, binV, binI, unV, ptr, Heap.cell, Heap.write, cellsOf, put, args0, partL, List.getD_cons_zero, List.getD_cons_succ, List.length_cons, List.length_nil, List.set_cons_zero, List.set_cons_succ, List.getElem?_cons_zero, List.getElem?_cons_succ, reduceIte, Nat.reduceEqDiff, Nat.reduceAdd, Nat.reduceMul, Nat.reduceLeDiff, Nat.zero_add, Nat.add_zero, Option.map_some, Int.reduceEq, Int.reduceLT, Int.reduceLE, Bool.false_eq_true, decide_true, decide_false, ge_iff_le, gt_iff_lt, set_get', g3, e1]; rfl) ?_)))
  show Wc T _ _ _
  refine Wc_ops (Wo_pre 2 (fun call => by simp only [List.take_succ_cons, List.take_zero, List.drop_succ_cons, List.drop_zero, iops_nil, iops_op, iops_grd, iK_some, iG_true, iG_false, gval_bool, beq_self_eq_true, beq_true, beq_false, Bool.not_true, Bool.not_false, iop, ev, upd, dstUpd, binV, binI, unV, ptr, Heap.cell, Heap.write, cellsOf, put, args0, partL, List.getD_cons_zero, List.getD_cons_succ, List.length_cons, List.length_nil, List.set_cons_zero, List.set_cons_succ, List.getElem?_cons_zero, List.getElem?_cons_succ, reduceIte, Nat.reduceEqDiff, Nat.reduceAdd, Nat.reduceMul, Nat.reduceLeDiff, Nat.zero_add, Nat.add_zero, Option.map_some, Int.reduceEq, Int.reduceLT, Int.reduceLE, Bool.false_eq_true, decide_true, decide_false, ge_iff_le, gt_iff_lt, set_get', g0]; rfl) ?_)
  refine Wo_call (Wk_pure (peek_ok (k := k + 1) hp hg (by omega)) ?_)
  refine (Wo_run (fun call => by simp only [List.drop_succ_cons, List.drop_zero, iops_nil, iops_op, iops_grd, iK_some, iG_true, iG_false, gval_bool, beq_self_eq_true, beq_true, beq_false, Bool.not_true, Bool.not_false, iop, ev, upd, dstUpd, binV, binI, unV, ptr, Heap.cell, Heap.write, cellsOf, put, args0, partL, List.getD_cons_zero, List.getD_cons_succ, List.length_cons, List.length_nil, List.set_cons_zero, List.set_cons_succ, List.getElem?_cons_zero, List.getElem?_cons_succ, reduceIte, Nat.reduceEqDiff, Nat.reduceAdd, Nat.reduceMul, Nat.reduceLeDiff, Nat.zero_add, Nat.add_zero, Option.map_some, Int.reduceEq, Int.reduceLT, Int.reduceLE, Bool.false_eq_true, decide_true, decide_false, ge_iff_le, gt_iff_lt, set_get']; rfl) ?_)
  refine ⟨⟨rfl, rfl, k + 1, by omega, (by simp only [upd, dstUpd, args0, List.getD_cons_zero, List.getD_cons_succ, reduceIte, Nat.reduceEqDiff, ptr] <;> first | rfl | assumption | (symm; assumption)), (by simp only [upd, dstUpd, args0, List.getD_cons_zero, List.getD_cons_succ, reduceIte, Nat.reduceEqDiff, ptr] <;> first | rfl | assumption | (symm; assumption)), ?_⟩, ?_⟩
  · rw [hrun, runN_step (j := a + k), hy, if_pos rfl]; rw [show a + (k + 1) = a + k + 1 by omega]; omega
  · simp only [upd, dstUpd, reduceIte, Nat.reduceEqDiff, h3]
    exact (Int.toNat_lt_toNat (by omega)).2 (by omega)

end Go.Idl
end

section
/- Words, names and numbers, by the scanner. -/
namespace Go.Idl
set_option linter.unusedVariables false
set_option linter.unusedSimpArgs false
set_option maxRecDepth 100000

variable {T : Tbl}

theorem reserved_ok (hT : T.fn 53 = some C53) {h : Heap} : Wk T (.fn 53) [] h (fun o h' => Kept h h' ∧ o = .ret (.agg (wordsL.map Value.string).toArray)) := by
  refine Wk_fn hT (by simp [C53]) ?_
  simp only [C53]
  refine Wc_seq (Wc_ops (Wo_op (by rfl) (Wo_nil ?_)))
  show Wc T _ _ _
  refine Wc_seq (Wc_ops (Wo_op (v := .agg (wordsL.map Value.string).toArray) (h' := h.new (.cells (List.replicate 19 (.string ⟨#[]⟩)) true 0)) (by kernel_rfl) ?_))
  refine Wo_store_new (cs := wordsL.map Value.string) (h := h) (by simp only [upd, dstUpd, args0, List.getD_cons_zero, List.getD_cons_succ, reduceIte, Nat.reduceEqDiff, ptr] <;> first | rfl | assumption | (symm; assumption)) (by simp only [upd, dstUpd, args0, List.getD_cons_zero, List.getD_cons_succ, reduceIte, Nat.reduceEqDiff, ptr] <;> first | rfl | assumption | (symm; assumption)) rfl rfl fun h1 n1 => Wo_nil ?_
  show Wc T _ _ _
  refine Wc_ret ⟨.inr rfl, rfl, [.agg (wordsL.map Value.string).toArray], ?_, n1.kept, rfl⟩
  have hc : h1.cells h.next 0 19 = some (wordsL.map Value.string) := cells_all n1.get rfl
  simp only [resAll, resV, upd, dstUpd, reduceIte, Nat.reduceEqDiff, ptr, hc, Option.map_some]

theorem wordS_ok (hT : T.fn 45 = some C45) (hr : T.fn 53 = some C53) {s : ByteArray} {h : Heap} : Wk T (.fn 45) [.string s] h (fun o h' => Kept h h' ∧ o = .ret (.bool (wordB s))) := by
  refine Wk_fn hT (by simp [C45]) ?_
  simp only [C45]
  refine Wc_seq (Wc_ops (Wo_run (fun call => by simp only [List.drop_succ_cons, List.drop_zero, iops_nil, iops_op, iops_grd, iK_some, iG_true, iG_false, gval_bool, beq_self_eq_true, beq_true, beq_false, Bool.not_true, Bool.not_false, iop, ev, upd, dstUpd, binV, binI, unV, ptr, Heap.cell, Heap.write, cellsOf, put, args0, partL, List.getD_cons_zero, List.getD_cons_succ, List.length_cons, List.length_nil, List.set_cons_zero, List.set_cons_succ, List.getElem?_cons_zero, List.getElem?_cons_succ, reduceIte, Nat.reduceEqDiff, Nat.reduceAdd, Nat.reduceMul, Nat.reduceLeDiff, Nat.zero_add, Nat.add_zero, Option.map_some, Int.reduceEq, Int.reduceLT, Int.reduceLE, Bool.false_eq_true, decide_true, decide_false, ge_iff_le, gt_iff_lt, set_get']; rfl) ?_))
  show Wc T _ _ _
  refine Wc_seq (Wc_seq (Wc_ops (Wo_call (Wk_kept (reserved_ok hr) fun h1 k1 => ?_))))
  generalize hA : (wordsL.map Value.string).toArray = A
  refine (Wo_run (fun call => by simp only [List.drop_succ_cons, List.drop_zero, iops_nil, iops_op, iops_grd, iK_some, iG_true, iG_false, gval_bool, beq_self_eq_true, beq_true, beq_false, Bool.not_true, Bool.not_false, iop, ev, upd, dstUpd, binV, binI, unV, ptr, Heap.cell, Heap.write, cellsOf, put, args0, partL, List.getD_cons_zero, List.getD_cons_succ, List.length_cons, List.length_nil, List.set_cons_zero, List.set_cons_succ, List.getElem?_cons_zero, List.getElem?_cons_succ, reduceIte, Nat.reduceEqDiff, Nat.reduceAdd, Nat.reduceMul, Nat.reduceLeDiff, Nat.zero_add, Nat.add_zero, Option.map_some, Int.reduceEq, Int.reduceLT, Int.reduceLE, Bool.false_eq_true, decide_true, decide_false, ge_iff_le, gt_iff_lt, set_get']; rfl) ?_)
  show Wc T _ _ _
  refine Wc_rangeG (n := .c (.int .i64 19)) 19 (fun j e h' d => d = some [] ∧ h' = h1 ∧ ∀ i, i < j → ∀ x, wordsL[i]? = some x → s ≠ x) (by decide) (by simp only [upd, dstUpd, args0, List.getD_cons_zero, List.getD_cons_succ, reduceIte, Nat.reduceEqDiff, ptr] <;> first | rfl | assumption | (symm; assumption)) (fun _ _ => rfl) (by decide) (by decide) ⟨rfl, rfl, fun i hi => by omega⟩ ?_ ?_
  · rintro j e h' d hj ⟨rfl, hh, hne⟩ hfr h6
    rw [hh]
    obtain ⟨x, hx⟩ : ∃ x, wordsL[j]? = some x := ⟨_, List.getElem?_eq_getElem (by rw [show wordsL.length = 19 from rfl]; exact hj)⟩
    have e5 : e 5 = .agg A := (by rw [hfr 5 (by decide)]; try simp only [upd, dstUpd, args0, List.getD_cons_zero, List.getD_cons_succ, reduceIte, Nat.reduceEqDiff] <;> first | rfl | assumption | (symm; assumption))
    have e0 : e 0 = .string s := (by rw [hfr 0 (by decide)]; try simp only [upd, dstUpd, args0, List.getD_cons_zero, List.getD_cons_succ, reduceIte, Nat.reduceEqDiff] <;> first | rfl | assumption | (symm; assumption))
    have hcell : A.toList[j * 1]? = some (.string x) := by rw [← hA, Nat.mul_one]; simp only [List.toList_toArray, List.getElem?_map, hx, Option.map_some]
    refine Wc_seq (Wc_ops (Wo_run (fun call => by simp only [List.drop_succ_cons, List.drop_zero, iops_nil, iops_op, iops_grd, iK_some, iG_true, iG_false, gval_bool, beq_self_eq_true, beq_true, beq_false, Bool.not_true, Bool.not_false, iop, ev, upd, dstUpd, binV, binI, unV, ptr, Heap.cell, Heap.write, cellsOf, put, args0, partL, List.getD_cons_zero, List.getD_cons_succ, List.length_cons, List.length_nil, List.set_cons_zero, List.set_cons_succ, List.getElem?_cons_zero, List.getElem?_cons_succ, reduceIte, Nat.reduceEqDiff, Nat.reduceAdd, Nat.reduceMul, Nat.reduceLeDiff, Nat.zero_add, Nat.add_zero, Option.map_some, Int.reduceEq, Int.reduceLT, Int.reduceLE, Bool.false_eq_true, decide_true, decide_false, ge_iff_le, gt_iff_lt, set_get', h6, e5, idx_ok hj, hcell]; rfl) ?_))
    show Wc T _ _ _
    refine Wc_seq (Wc_ops (Wo_run (fun call => by simp only [List.drop_succ_cons, List.drop_zero, iops_nil, iops_op, iops_grd, iK_some, iG_true, iG_false, gval_bool, beq_self_eq_true, beq_true, beq_false, Bool.not_true, Bool.not_false, iop, ev, upd, dstUpd, binV, binI, unV, ptr, Heap.cell, Heap.write, cellsOf, put, args0, partL, List.getD_cons_zero, List.getD_cons_succ, List.length_cons, List.length_nil, List.set_cons_zero, List.set_cons_succ, List.getElem?_cons_zero, List.getElem?_cons_succ, reduceIte, Nat.reduceEqDiff, Nat.reduceAdd, Nat.reduceMul, Nat.reduceLeDiff, Nat.zero_add, Nat.add_zero, Option.map_some, Int.reduceEq, Int.reduceLT, Int.reduceLE, Bool.false_eq_true, decide_true, decide_false, ge_iff_le, gt_iff_lt, set_get', e0]; rfl) ?_))
    show Wc T _ _ _
    refine Wc_cond (decide (x = s)) (by simp only [upd, dstUpd, args0, List.getD_cons_zero, List.getD_cons_succ, reduceIte, Nat.reduceEqDiff, ptr] <;> first | rfl | assumption | (symm; assumption)) (fun hd => ?_) (fun hd => Wc_skip ?_)
    · have hsx : x = s := by simpa using hd
      refine Wc_seq (Wc_ops (Wo_run (fun call => by simp only [List.drop_succ_cons, List.drop_zero, iops_nil, iops_op, iops_grd, iK_some, iG_true, iG_false, gval_bool, beq_self_eq_true, beq_true, beq_false, Bool.not_true, Bool.not_false, iop, ev, upd, dstUpd, binV, binI, unV, ptr, Heap.cell, Heap.write, cellsOf, put, args0, partL, List.getD_cons_zero, List.getD_cons_succ, List.length_cons, List.length_nil, List.set_cons_zero, List.set_cons_succ, List.getElem?_cons_zero, List.getElem?_cons_succ, reduceIte, Nat.reduceEqDiff, Nat.reduceAdd, Nat.reduceMul, Nat.reduceLeDiff, Nat.zero_add, Nat.add_zero, Option.map_some, Int.reduceEq, Int.reduceLT, Int.reduceLE, Bool.false_eq_true, decide_true, decide_false, ge_iff_le, gt_iff_lt, set_get']; rfl) ?_))
      exact Wc_ret ⟨.inr rfl, rfl, [.bool true], by simp only [resAll, resV, upd, dstUpd, reduceIte, Nat.reduceEqDiff], k1, by rw [wordB_of (by rw [← hsx]; exact List.mem_of_getElem? hx)]; rfl⟩
    · refine ⟨rfl, rfl, fun i hi y hy => ?_⟩
      rcases Nat.lt_or_eq_of_le (Nat.le_of_lt_succ hi) with h1 | h1
      · exact hne i h1 y hy
      · subst h1; rw [hx] at hy; cases hy; exact fun e => by rw [e] at hd; simp at hd
  · rintro e h' d ⟨rfl, hh, hne⟩ hfr h6
    rw [hh]
    show Wc T _ _ _
    refine Wc_seq (Wc_ops (Wo_run (fun call => by simp only [List.drop_succ_cons, List.drop_zero, iops_nil, iops_op, iops_grd, iK_some, iG_true, iG_false, gval_bool, beq_self_eq_true, beq_true, beq_false, Bool.not_true, Bool.not_false, iop, ev, upd, dstUpd, binV, binI, unV, ptr, Heap.cell, Heap.write, cellsOf, put, args0, partL, List.getD_cons_zero, List.getD_cons_succ, List.length_cons, List.length_nil, List.set_cons_zero, List.set_cons_succ, List.getElem?_cons_zero, List.getElem?_cons_succ, reduceIte, Nat.reduceEqDiff, Nat.reduceAdd, Nat.reduceMul, Nat.reduceLeDiff, Nat.zero_add, Nat.add_zero, Option.map_some, Int.reduceEq, Int.reduceLT, Int.reduceLE, Bool.false_eq_true, decide_true, decide_false, ge_iff_le, gt_iff_lt, set_get']; rfl) ?_))
    refine Wc_ret ⟨.inr rfl, rfl, [.bool false], by simp only [resAll, resV, upd, dstUpd, reduceIte, Nat.reduceEqDiff], k1, ?_⟩
    have : wordB s = false := wordB_no fun x hm => by
      obtain ⟨i, hi⟩ := List.getElem?_of_mem hm
      exact hne i (List.getElem?_eq_some_iff.1 hi).1 x hi
    rw [this]; rfl

theorem runN_all : ∀ {l : List UInt8}, (runN l = l.length ↔ ∀ c ∈ l, (isL c.toNat || isD c.toNat) = true)
  | [] => by simp [runN]
  | c :: r => by
    have ih := runN_all (l := r)
    have hle := runN_le r
    simp only [runN, List.length_cons, List.forall_mem_cons]
    split
    · rename_i hc
      constructor
      · intro h; exact ⟨hc, ih.1 (by omega)⟩
      · intro h; have := ih.2 h.2; omega
    · rename_i hc
      constructor
      · intro h; omega
      · intro h; exact absurd h.1 hc

theorem name_eq {l : List UInt8} {c : UInt8} (h0 : l[0]? = some c) : (isL c.toNat && decide (runN l = l.length)) = (nameC l && decide (l ≠ [])) := by
  cases l with
  | nil => simp at h0
  | cons x r =>
    simp at h0
    subst h0
    rw [decide_eq_true (List.cons_ne_nil x r), Bool.and_true, nameC]
    cases hL : isL x.toNat with
    | false => rfl
    | true =>
      rw [Bool.true_and, Bool.true_and]
      cases ha : (r.all fun c => isL c.toNat || isD c.toNat) with
      | true =>
        refine decide_eq_true (runN_all.2 fun c hc => ?_)
        rcases List.mem_cons.1 hc with rfl | hc
        · rw [hL]; rfl
        · exact List.all_eq_true.1 ha c hc
      | false =>
        refine decide_eq_false fun h => ?_
        have := runN_all.1 h
        rw [List.all_eq_true.2 fun c hc => this c (List.mem_cons_of_mem _ hc)] at ha
        cases ha

theorem build_scn (s : ByteArray) : fillL (.string ⟨#[]⟩ :: List.replicate 257 (.int .i64 0)) [(0, 1, .string s), (2, 256, clsV)] = some (scnC s 0) := by kernel_rfl

theorem nameS_ok (hT : T.fn 29 = some C29) (hc : ∀ (h : Heap) (K : Out → Heap → Prop), K (.ret clsV) h → Wk T (.fn 42) [] h K) (hp : T.fn 43 = some C43) (hg : T.fn 44 = some C44) (hw : T.fn 45 = some C45) (hr : T.fn 53 = some C53)
    {s : ByteArray} {h : Heap} (hs : s.size < 4611686018427387904) : Wk T (.fn 29) [.string s] h (fun o h' => Kept h h' ∧ o = .ret (.bool (nameB s))) := by
  refine Wk_fn hT (by simp [C29]) ?_
  simp only [C29]
  refine Wc_seq (Wc_ops (Wo_run (fun call => by simp only [List.drop_succ_cons, List.drop_zero, iops_nil, iops_op, iops_grd, iK_some, iG_true, iG_false, gval_bool, beq_self_eq_true, beq_true, beq_false, Bool.not_true, Bool.not_false, iop, ev, upd, dstUpd, binV, binI, unV, ptr, Heap.cell, Heap.write, cellsOf, put, args0, partL, List.getD_cons_zero, List.getD_cons_succ, List.length_cons, List.length_nil, List.set_cons_zero, List.set_cons_succ, List.getElem?_cons_zero, List.getElem?_cons_succ, reduceIte, Nat.reduceEqDiff, Nat.reduceAdd, Nat.reduceMul, Nat.reduceLeDiff, Nat.zero_add, Nat.add_zero, Option.map_some, Int.reduceEq, Int.reduceLT, Int.reduceLE, Bool.false_eq_true, decide_true, decide_false, ge_iff_le, gt_iff_lt, set_get']; rfl) ?_))
  show Wc T _ _ _
  refine Wc_seq (Wc_ops (Wo_pre 1 (fun call => by simp only [List.take_succ_cons, List.take_zero, List.drop_succ_cons, List.drop_zero, iops_nil, iops_op, iops_grd, iK_some, iG_true, iG_false, gval_bool, beq_self_eq_true, beq_true, beq_false, Bool.not_true, Bool.not_false, iop, ev, upd, dstUpd, binV, binI, unV, ptr, Heap.cell, Heap.write, cellsOf, put, args0, partL, List.getD_cons_zero, List.getD_cons_succ, List.length_cons, List.length_nil, List.set_cons_zero, List.set_cons_succ, List.getElem?_cons_zero, List.getElem?_cons_succ, reduceIte, Nat.reduceEqDiff, Nat.reduceAdd, Nat.reduceMul, Nat.reduceLeDiff, Nat.zero_add, Nat.add_zero, Option.map_some, Int.reduceEq, Int.reduceLT, Int.reduceLE, Bool.false_eq_true, decide_true, decide_false, ge_iff_le, gt_iff_lt, set_get']; rfl) ?_))
  refine Wo_call (hc _ _ ?_)
  show Wo T _ _ _
  refine Wo_op (v := .agg (scnC s 0).toArray) (h' := h) ?_ ?_
  · have := build_scn s
    simp only [iop, evps, List.map_cons, List.map_nil, ev, upd, dstUpd, args0, List.getD_cons_zero, reduceIte, Nat.reduceEqDiff]
    exact congrArg (Option.map fun cs : List Value => (Value.agg cs.toArray, h)) this
  generalize hA : (scnC s 0).toArray = A
  refine Wo_box (cs := scnC s 0) (by simp only [upd, dstUpd, reduceIte, Nat.reduceEqDiff, ev, cellsOf]; rw [← hA]) fun h1 n1 => ?_
  refine (Wo_run (fun call => by simp only [List.drop_succ_cons, List.drop_zero, iops_nil, iops_op, iops_grd, iK_some, iG_true, iG_false, gval_bool, beq_self_eq_true, beq_true, beq_false, Bool.not_true, Bool.not_false, iop, ev, upd, dstUpd, binV, binI, unV, ptr, Heap.cell, Heap.write, cellsOf, put, args0, partL, List.getD_cons_zero, List.getD_cons_succ, List.length_cons, List.length_nil, List.set_cons_zero, List.set_cons_succ, List.getElem?_cons_zero, List.getElem?_cons_succ, reduceIte, Nat.reduceEqDiff, Nat.reduceAdd, Nat.reduceMul, Nat.reduceLeDiff, Nat.zero_add, Nat.add_zero, Option.map_some, Int.reduceEq, Int.reduceLT, Int.reduceLE, Bool.false_eq_true, decide_true, decide_false, ge_iff_le, gt_iff_lt, set_get']; rfl) ?_)
  show Wc T _ _ _
  refine Wc_seq (Wc_ops (Wo_pre 1 (fun call => by simp only [List.take_succ_cons, List.take_zero, List.drop_succ_cons, List.drop_zero, iops_nil, iops_op, iops_grd, iK_some, iG_true, iG_false, gval_bool, beq_self_eq_true, beq_true, beq_false, Bool.not_true, Bool.not_false, iop, ev, upd, dstUpd, binV, binI, unV, ptr, Heap.cell, Heap.write, cellsOf, put, args0, partL, List.getD_cons_zero, List.getD_cons_succ, List.length_cons, List.length_nil, List.set_cons_zero, List.set_cons_succ, List.getElem?_cons_zero, List.getElem?_cons_succ, reduceIte, Nat.reduceEqDiff, Nat.reduceAdd, Nat.reduceMul, Nat.reduceLeDiff, Nat.zero_add, Nat.add_zero, Option.map_some, Int.reduceEq, Int.reduceLT, Int.reduceLE, Bool.false_eq_true, decide_true, decide_false, ge_iff_le, gt_iff_lt, set_get']; rfl) ?_))
  refine Wo_call (Wk_pure (peek_ok (k := 0) (a := 0) hp n1.get (by decide)) ?_)
  have yes : ∀ (e : Env) (h2 : Heap) (b : Bool), Kept h1 h2 → e 2 = .bool b → nameB s = b → (Ex.ret = .normal ∨ Ex.ret = .ret) ∧ some ([] : List Dfr) = some [] ∧ ∃ vs, resAll e h2 [.tmp 2] = some vs ∧ Kept h h2 ∧ Out.ret (tup vs) = .ret (.bool (nameB s)) := fun e h2 b hk he hb =>
    ⟨.inr rfl, rfl, [.bool b], by simp only [resAll, resV, he], n1.kept.trans hk, by rw [hb]; rfl⟩
  by_cases h0 : 0 < s.size
  case neg =>
    have hz : clsAt s (0 + 0) = 0 := by rw [clsAt, List.getElem?_eq_none (by rw [← bs_size]; omega)]
    refine (Wo_run (fun call => by simp only [List.drop_succ_cons, List.drop_zero, iops_nil, iops_op, iops_grd, iK_some, iG_true, iG_false, gval_bool, beq_self_eq_true, beq_true, beq_false, Bool.not_true, Bool.not_false, iop, ev, upd, dstUpd, binV, binI, unV, ptr, Heap.cell, Heap.write, cellsOf, put, args0, partL, List.getD_cons_zero, List.getD_cons_succ, List.length_cons, List.length_nil, List.set_cons_zero, List.set_cons_succ, List.getElem?_cons_zero, List.getElem?_cons_succ, reduceIte, Nat.reduceEqDiff, Nat.reduceAdd, Nat.reduceMul, Nat.reduceLeDiff, Nat.zero_add, Nat.add_zero, Option.map_some, Int.reduceEq, Int.reduceLT, Int.reduceLE, Bool.false_eq_true, decide_true, decide_false, ge_iff_le, gt_iff_lt, set_get', hz]; rfl) ?_)
    refine Wc_ret (yes _ _ false (.refl _) (by simp only [upd, dstUpd, args0, List.getD_cons_zero, List.getD_cons_succ, reduceIte, Nat.reduceEqDiff, ptr] <;> first | rfl | assumption | (symm; assumption)) ?_)
    have hn : bs s = [] := List.eq_nil_of_length_eq_zero (by rw [← bs_size]; omega)
    simp only [nameB, hn, ne_eq, not_true_eq_false, decide_false, Bool.and_false, Bool.false_and]
  obtain ⟨c, hc0⟩ := bs_at h0
  have hc2 := u8_lt c
  have hcl : clsAt s (0 + 0) = clsI c.toNat := by rw [clsAt, hc0]
  have hne := name_eq hc0
  have hL := cls2 (c := c.toNat) (by omega)
  cases y : (clsI c.toNat == 2)
  · refine (Wo_run (fun call => by simp only [List.drop_succ_cons, List.drop_zero, iops_nil, iops_op, iops_grd, iK_some, iG_true, iG_false, gval_bool, beq_self_eq_true, beq_true, beq_false, Bool.not_true, Bool.not_false, iop, ev, upd, dstUpd, binV, binI, unV, ptr, Heap.cell, Heap.write, cellsOf, put, args0, partL, List.getD_cons_zero, List.getD_cons_succ, List.length_cons, List.length_nil, List.set_cons_zero, List.set_cons_succ, List.getElem?_cons_zero, List.getElem?_cons_succ, reduceIte, Nat.reduceEqDiff, Nat.reduceAdd, Nat.reduceMul, Nat.reduceLeDiff, Nat.zero_add, Nat.add_zero, Option.map_some, Int.reduceEq, Int.reduceLT, Int.reduceLE, Bool.false_eq_true, decide_true, decide_false, ge_iff_le, gt_iff_lt, set_get', hcl, y]; rfl) ?_)
    refine Wc_ret (yes _ _ false (.refl _) (by simp only [upd, dstUpd, args0, List.getD_cons_zero, List.getD_cons_succ, reduceIte, Nat.reduceEqDiff, ptr] <;> first | rfl | assumption | (symm; assumption)) ?_)
    have : isL c.toNat = false := by rw [← hL, ← Bool.beq_eq_decide_eq, y]
    rw [this, Bool.false_and] at hne
    rw [nameB, ← hne, Bool.false_and]
  have hLt : isL c.toNat = true := by rw [← hL, ← Bool.beq_eq_decide_eq, y]
  rw [hLt, Bool.true_and] at hne
  refine (Wo_pre 3 (fun call => by simp only [List.take_succ_cons, List.take_zero, List.drop_succ_cons, List.drop_zero, iops_nil, iops_op, iops_grd, iK_some, iG_true, iG_false, gval_bool, beq_self_eq_true, beq_true, beq_false, Bool.not_true, Bool.not_false, iop, ev, upd, dstUpd, binV, binI, unV, ptr, Heap.cell, Heap.write, cellsOf, put, args0, partL, List.getD_cons_zero, List.getD_cons_succ, List.length_cons, List.length_nil, List.set_cons_zero, List.set_cons_succ, List.getElem?_cons_zero, List.getElem?_cons_succ, reduceIte, Nat.reduceEqDiff, Nat.reduceAdd, Nat.reduceMul, Nat.reduceLeDiff, Nat.zero_add, Nat.add_zero, Option.map_some, Int.reduceEq, Int.reduceLT, Int.reduceLE, Bool.false_eq_true, decide_true, decide_false, ge_iff_le, gt_iff_lt, set_get', hcl, y]; rfl) ?_)
  refine Wo_take (by simp only [upd, dstUpd, reduceIte, Nat.reduceEqDiff, gval_bool]; rfl) (Wo_call (Wk_pure (goes_ok (a := 0) hg hp n1.get (Nat.zero_le _) hs) ?_))
  rw [List.drop_zero]
  cases y2 : (((runN (bs s) : Nat) : Int) == ((s.size : Nat) : Int))
  · refine (Wo_run (fun call => by simp only [List.drop_succ_cons, List.drop_zero, iops_nil, iops_op, iops_grd, iK_some, iG_true, iG_false, gval_bool, beq_self_eq_true, beq_true, beq_false, Bool.not_true, Bool.not_false, iop, ev, upd, dstUpd, binV, binI, unV, ptr, Heap.cell, Heap.write, cellsOf, put, args0, partL, List.getD_cons_zero, List.getD_cons_succ, List.length_cons, List.length_nil, List.set_cons_zero, List.set_cons_succ, List.getElem?_cons_zero, List.getElem?_cons_succ, reduceIte, Nat.reduceEqDiff, Nat.reduceAdd, Nat.reduceMul, Nat.reduceLeDiff, Nat.zero_add, Nat.add_zero, Option.map_some, Int.reduceEq, Int.reduceLT, Int.reduceLE, Bool.false_eq_true, decide_true, decide_false, ge_iff_le, gt_iff_lt, set_get', y2]; rfl) ?_)
    refine Wc_ret (yes _ _ false (.refl _) (by simp only [upd, dstUpd, args0, List.getD_cons_zero, List.getD_cons_succ, reduceIte, Nat.reduceEqDiff, ptr] <;> first | rfl | assumption | (symm; assumption)) ?_)
    have : ¬ runN (bs s) = (bs s).length := fun e => by rw [e, ← bs_size, beq_self_eq_true] at y2; cases y2
    rw [decide_eq_false this] at hne
    rw [nameB, ← hne, Bool.false_and]
  refine (Wo_pre 6 (fun call => by simp only [List.take_succ_cons, List.take_zero, List.drop_succ_cons, List.drop_zero, iops_nil, iops_op, iops_grd, iK_some, iG_true, iG_false, gval_bool, beq_self_eq_true, beq_true, beq_false, Bool.not_true, Bool.not_false, iop, ev, upd, dstUpd, binV, binI, unV, ptr, Heap.cell, Heap.write, cellsOf, put, args0, partL, List.getD_cons_zero, List.getD_cons_succ, List.length_cons, List.length_nil, List.set_cons_zero, List.set_cons_succ, List.getElem?_cons_zero, List.getElem?_cons_succ, reduceIte, Nat.reduceEqDiff, Nat.reduceAdd, Nat.reduceMul, Nat.reduceLeDiff, Nat.zero_add, Nat.add_zero, Option.map_some, Int.reduceEq, Int.reduceLT, Int.reduceLE, Bool.false_eq_true, decide_true, decide_false, ge_iff_le, gt_iff_lt, set_get', y2]; rfl) ?_)
  refine Wo_take (by simp only [upd, dstUpd, reduceIte, Nat.reduceEqDiff, gval_bool]; rfl) (Wo_call (Wk_kept (wordS_ok hw hr) fun h2 k2 => ?_))
  refine (Wo_run (fun call => by simp only [List.drop_succ_cons, List.drop_zero, iops_nil, iops_op, iops_grd, iK_some, iG_true, iG_false, gval_bool, beq_self_eq_true, beq_true, beq_false, Bool.not_true, Bool.not_false, iop, ev, upd, dstUpd, binV, binI, unV, ptr, Heap.cell, Heap.write, cellsOf, put, args0, partL, List.getD_cons_zero, List.getD_cons_succ, List.length_cons, List.length_nil, List.set_cons_zero, List.set_cons_succ, List.getElem?_cons_zero, List.getElem?_cons_succ, reduceIte, Nat.reduceEqDiff, Nat.reduceAdd, Nat.reduceMul, Nat.reduceLeDiff, Nat.zero_add, Nat.add_zero, Option.map_some, Int.reduceEq, Int.reduceLT, Int.reduceLE, Bool.false_eq_true, decide_true, decide_false, ge_iff_le, gt_iff_lt, set_get']; rfl) ?_)
  refine Wc_ret (yes _ _ (!wordB s) k2 (by simp only [upd, dstUpd, args0, List.getD_cons_zero, List.getD_cons_succ, reduceIte, Nat.reduceEqDiff, ptr] <;> first | rfl | assumption | (symm; assumption)) ?_)
  have : runN (bs s) = (bs s).length := by have := beq_iff_eq.1 y2; rw [← bs_size]; omega
  rw [decide_eq_true this] at hne
  rw [nameB, ← hne, Bool.true_and]

end Go.Idl
end

section
/- Numbers, by the scanner. -/
namespace Go.Idl
set_option linter.unusedVariables false
set_option linter.unusedSimpArgs false
set_option maxRecDepth 100000

variable {T : Tbl}

theorem worth_ok (hT : T.fn 46 = some C46) {c base : Int} {h : Heap} (h0 : 0 ≤ c) (h1 : c ≤ 255) : Wk T (.fn 46) [.int .u8 c, .int .u64 base] h (fun o h' => h' = h ∧ o = .ret (.tuple #[.int .u64 (figI 255 c), .bool (decide (figI 255 c < base))])) := by
  refine Wk_fn hT (by simp [C46]) ?_
  simp only [C46]
  refine Wc_seq (Wc_ops (Wo_run (fun call => by simp only [List.drop_succ_cons, List.drop_zero, iops_nil, iops_op, iops_grd, iK_some, iG_true, iG_false, gval_bool, beq_self_eq_true, beq_true, beq_false, Bool.not_true, Bool.not_false, iop, ev, upd, dstUpd, binV, binI, unV, ptr, Heap.cell, Heap.write, cellsOf, put, args0, partL, List.getD_cons_zero, List.getD_cons_succ, List.length_cons, List.length_nil, List.set_cons_zero, List.set_cons_succ, List.getElem?_cons_zero, List.getElem?_cons_succ, reduceIte, Nat.reduceEqDiff, Nat.reduceAdd, Nat.reduceMul, Nat.reduceLeDiff, Nat.zero_add, Nat.add_zero, Option.map_some, Int.reduceEq, Int.reduceLT, Int.reduceLE, Bool.false_eq_true, decide_true, decide_false, ge_iff_le, gt_iff_lt, set_get']; rfl) ?_))
  show Wc T _ _ _
  refine Wc_seq (Wc_ops (Wo_run (fun call => by simp only [List.drop_succ_cons, List.drop_zero, iops_nil, iops_op, iops_grd, iK_some, iG_true, iG_false, gval_bool, beq_self_eq_true, beq_true, beq_false, Bool.not_true, Bool.not_false, iop, ev, upd, dstUpd, binV, binI, unV, ptr, Heap.cell, Heap.write, cellsOf, put, args0, partL, List.getD_cons_zero, List.getD_cons_succ, List.length_cons, List.length_nil, List.set_cons_zero, List.set_cons_succ, List.getElem?_cons_zero, List.getElem?_cons_succ, reduceIte, Nat.reduceEqDiff, Nat.reduceAdd, Nat.reduceMul, Nat.reduceLeDiff, Nat.zero_add, Nat.add_zero, Option.map_some, Int.reduceEq, Int.reduceLT, Int.reduceLE, Bool.false_eq_true, decide_true, decide_false, ge_iff_le, gt_iff_lt, set_get']; rfl) ?_))
  show Wc T _ _ _
  refine Wc_mid (fun s' => s'.d = some [] ∧ s'.h = h ∧ s'.e 6 = .int .u64 (figI 255 c) ∧ s'.e 1 = .int .u64 base) (Wc_block ?_) ?_
  · refine Wc_mid (fun s' => s'.d = some [] ∧ s'.h = h ∧ s'.e 6 = .int .u64 255 ∧ s'.e 1 = .int .u64 base ∧ s'.e 0 = .int .u8 c ∧ s'.e 7 = .bool (decide (48 ≤ c ∧ c ≤ 57))) ?_ ?_
    · by_cases x1 : (48 : Int) ≤ c <;> by_cases x2 : c ≤ 57 <;> first
        | (exfalso; omega)
        | (refine Wc_ops (Wo_run (fun call => by simp only [List.drop_succ_cons, List.drop_zero, iops_nil, iops_op, iops_grd, iK_some, iG_true, iG_false, gval_bool, beq_self_eq_true, beq_true, beq_false, Bool.not_true, Bool.not_false, iop, ev, upd, dstUpd, binV, binI, unV, ptr, Heap.cell, Heap.write, cellsOf, put, args0, partL, List.getD_cons_zero, List.getD_cons_succ, List.length_cons, List.length_nil, List.set_cons_zero, List.set_cons_succ, List.getElem?_cons_zero, List.getElem?_cons_succ, reduceIte, Nat.reduceEqDiff, Nat.reduceAdd, Nat.reduceMul, Nat.reduceLeDiff, Nat.zero_add, Nat.add_zero, Option.map_some, Int.reduceEq, Int.reduceLT, Int.reduceLE, Bool.false_eq_true, decide_true, decide_false, ge_iff_le, gt_iff_lt, set_get', x1, x2]; rfl) ?_); exact ⟨rfl, rfl, (by simp only [upd, dstUpd, args0, List.getD_cons_zero, List.getD_cons_succ, reduceIte, Nat.reduceEqDiff, ptr] <;> first | rfl | assumption | (symm; assumption)), (by simp only [upd, dstUpd, args0, List.getD_cons_zero, List.getD_cons_succ, reduceIte, Nat.reduceEqDiff, ptr] <;> first | rfl | assumption | (symm; assumption)), (by simp only [upd, dstUpd, args0, List.getD_cons_zero, List.getD_cons_succ, reduceIte, Nat.reduceEqDiff, ptr] <;> first | rfl | assumption | (symm; assumption)), (by simp only [upd, dstUpd, args0, List.getD_cons_zero, List.getD_cons_succ, reduceIte, Nat.reduceEqDiff, ptr, x1, x2, and_self, and_true, and_false, decide_true, decide_false] <;> first | rfl | assumption | (symm; assumption))⟩)
    rintro ⟨e, h', d⟩ ⟨hd, hh, e6, e1, e0, e7⟩
    simp only at hd hh e6 e1 e0 e7
    rw [hd, hh]
    refine Wc_cond _ e7 (fun x => ?_) (fun x => ?_)
    · have d1 : (48 : Int) ≤ c ∧ c ≤ 57 := by simpa using x
      refine Wc_ops (Wo_run (fun call => by simp only [List.drop_succ_cons, List.drop_zero, iops_nil, iops_op, iops_grd, iK_some, iG_true, iG_false, gval_bool, beq_self_eq_true, beq_true, beq_false, Bool.not_true, Bool.not_false, iop, ev, upd, dstUpd, binV, binI, unV, ptr, Heap.cell, Heap.write, cellsOf, put, args0, partL, List.getD_cons_zero, List.getD_cons_succ, List.length_cons, List.length_nil, List.set_cons_zero, List.set_cons_succ, List.getElem?_cons_zero, List.getElem?_cons_succ, reduceIte, Nat.reduceEqDiff, Nat.reduceAdd, Nat.reduceMul, Nat.reduceLeDiff, Nat.zero_add, Nat.add_zero, Option.map_some, Int.reduceEq, Int.reduceLT, Int.reduceLE, Bool.false_eq_true, decide_true, decide_false, ge_iff_le, gt_iff_lt, set_get', e0, wrapU8 (show (0 : Int) ≤ c - 48 by omega) (show c - 48 ≤ 255 by omega), wrapU64 (show (0 : Int) ≤ c - 48 by omega) (show c - 48 ≤ 18446744073709551615 by omega)]; rfl) ?_)
      exact ⟨rfl, rfl, by simp only [upd, dstUpd, reduceIte, Nat.reduceEqDiff, figI, if_pos d1], (by simp only [upd, dstUpd, args0, List.getD_cons_zero, List.getD_cons_succ, reduceIte, Nat.reduceEqDiff, ptr, e1] <;> first | rfl | assumption | (symm; assumption))⟩
    have d1 : ¬ ((48 : Int) ≤ c ∧ c ≤ 57) := by simpa using x
    refine Wc_mid (fun s' => s'.d = some [] ∧ s'.h = h ∧ s'.e 6 = .int .u64 255 ∧ s'.e 1 = .int .u64 base ∧ s'.e 0 = .int .u8 c ∧ s'.e 17 = .bool (decide (97 ≤ c ∧ c ≤ 102))) ?_ ?_
    · by_cases x1 : (97 : Int) ≤ c <;> by_cases x2 : c ≤ 102 <;> first
        | (exfalso; omega)
        | (refine Wc_ops (Wo_run (fun call => by simp only [List.drop_succ_cons, List.drop_zero, iops_nil, iops_op, iops_grd, iK_some, iG_true, iG_false, gval_bool, beq_self_eq_true, beq_true, beq_false, Bool.not_true, Bool.not_false, iop, ev, upd, dstUpd, binV, binI, unV, ptr, Heap.cell, Heap.write, cellsOf, put, args0, partL, List.getD_cons_zero, List.getD_cons_succ, List.length_cons, List.length_nil, List.set_cons_zero, List.set_cons_succ, List.getElem?_cons_zero, List.getElem?_cons_succ, reduceIte, Nat.reduceEqDiff, Nat.reduceAdd, Nat.reduceMul, Nat.reduceLeDiff, Nat.zero_add, Nat.add_zero, Option.map_some, Int.reduceEq, Int.reduceLT, Int.reduceLE, Bool.false_eq_true, decide_true, decide_false, ge_iff_le, gt_iff_lt, set_get', e0, x1, x2]; rfl) ?_); exact ⟨rfl, rfl, (by simp only [upd, dstUpd, args0, List.getD_cons_zero, List.getD_cons_succ, reduceIte, Nat.reduceEqDiff, ptr, e6] <;> first | rfl | assumption | (symm; assumption)), (by simp only [upd, dstUpd, args0, List.getD_cons_zero, List.getD_cons_succ, reduceIte, Nat.reduceEqDiff, ptr, e1] <;> first | rfl | assumption | (symm; assumption)), (by simp only [upd, dstUpd, args0, List.getD_cons_zero, List.getD_cons_succ, reduceIte, Nat.reduceEqDiff, ptr, e0] <;> first | rfl | assumption | (symm; assumption)), (by simp only [upd, dstUpd, args0, List.getD_cons_zero, List.getD_cons_succ, reduceIte, Nat.reduceEqDiff, ptr, x1, x2, and_self, and_true, and_false, decide_true, decide_false] <;> first | rfl | assumption | (symm; assumption))⟩)
    rintro ⟨e, h', d⟩ ⟨hd, hh, e6, e1, e0, e17⟩
    simp only at hd hh e6 e1 e0 e17
    rw [hd, hh]
    refine Wc_cond _ e17 (fun x => ?_) (fun x => ?_)
    · have d2 : (97 : Int) ≤ c ∧ c ≤ 102 := by simpa using x
      refine Wc_ops (Wo_run (fun call => by simp only [List.drop_succ_cons, List.drop_zero, iops_nil, iops_op, iops_grd, iK_some, iG_true, iG_false, gval_bool, beq_self_eq_true, beq_true, beq_false, Bool.not_true, Bool.not_false, iop, ev, upd, dstUpd, binV, binI, unV, ptr, Heap.cell, Heap.write, cellsOf, put, args0, partL, List.getD_cons_zero, List.getD_cons_succ, List.length_cons, List.length_nil, List.set_cons_zero, List.set_cons_succ, List.getElem?_cons_zero, List.getElem?_cons_succ, reduceIte, Nat.reduceEqDiff, Nat.reduceAdd, Nat.reduceMul, Nat.reduceLeDiff, Nat.zero_add, Nat.add_zero, Option.map_some, Int.reduceEq, Int.reduceLT, Int.reduceLE, Bool.false_eq_true, decide_true, decide_false, ge_iff_le, gt_iff_lt, set_get', e0, wrapU8 (show (0 : Int) ≤ c - 97 by omega) (show c - 97 ≤ 255 by omega), wrapU64 (show (0 : Int) ≤ c - 97 by omega) (show c - 97 ≤ 18446744073709551615 by omega), wrapU64 (show (0 : Int) ≤ c - 97 + 10 by omega) (show c - 97 + 10 ≤ 18446744073709551615 by omega)]; rfl) ?_)
      exact ⟨rfl, rfl, by simp only [upd, dstUpd, reduceIte, Nat.reduceEqDiff, figI, if_neg d1, if_pos d2]; congr 1; omega, (by simp only [upd, dstUpd, args0, List.getD_cons_zero, List.getD_cons_succ, reduceIte, Nat.reduceEqDiff, ptr, e1] <;> first | rfl | assumption | (symm; assumption))⟩
    have d2 : ¬ ((97 : Int) ≤ c ∧ c ≤ 102) := by simpa using x
    refine Wc_mid (fun s' => s'.d = some [] ∧ s'.h = h ∧ s'.e 6 = .int .u64 255 ∧ s'.e 1 = .int .u64 base ∧ s'.e 0 = .int .u8 c ∧ s'.e 28 = .bool (decide (65 ≤ c ∧ c ≤ 70))) ?_ ?_
    · by_cases x1 : (65 : Int) ≤ c <;> by_cases x2 : c ≤ 70 <;> first
        | (exfalso; omega)
        | (refine Wc_ops (Wo_run (fun call => by simp only [List.drop_succ_cons, List.drop_zero, iops_nil, iops_op, iops_grd, iK_some, iG_true, iG_false, gval_bool, beq_self_eq_true, beq_true, beq_false, Bool.not_true, Bool.not_false, iop, ev, upd, dstUpd, binV, binI, unV, ptr, Heap.cell, Heap.write, cellsOf, put, args0, partL, List.getD_cons_zero, List.getD_cons_succ, List.length_cons, List.length_nil, List.set_cons_zero, List.set_cons_succ, List.getElem?_cons_zero, List.getElem?_cons_succ, reduceIte, Nat.reduceEqDiff, Nat.reduceAdd, Nat.reduceMul, Nat.reduceLeDiff, Nat.zero_add, Nat.add_zero, Option.map_some, Int.reduceEq, Int.reduceLT, Int.reduceLE, Bool.false_eq_true, decide_true, decide_false, ge_iff_le, gt_iff_lt, set_get', e0, x1, x2]; rfl) ?_); exact ⟨rfl, rfl, (by simp only [upd, dstUpd, args0, List.getD_cons_zero, List.getD_cons_succ, reduceIte, Nat.reduceEqDiff, ptr, e6] <;> first | rfl | assumption | (symm; assumption)), (by simp only [upd, dstUpd, args0, List.getD_cons_zero, List.getD_cons_succ, reduceIte, Nat.reduceEqDiff, ptr, e1] <;> first | rfl | assumption | (symm; assumption)), (by simp only [upd, dstUpd, args0, List.getD_cons_zero, List.getD_cons_succ, reduceIte, Nat.reduceEqDiff, ptr, e0] <;> first | rfl | assumption | (symm; assumption)), (by simp only [upd, dstUpd, args0, List.getD_cons_zero, List.getD_cons_succ, reduceIte, Nat.reduceEqDiff, ptr, x1, x2, and_self, and_true, and_false, decide_true, decide_false] <;> first | rfl | assumption | (symm; assumption))⟩)
    rintro ⟨e, h', d⟩ ⟨hd, hh, e6, e1, e0, e28⟩
    simp only at hd hh e6 e1 e0 e28
    rw [hd, hh]
    refine Wc_cond _ e28 (fun x => ?_) (fun x => Wc_skip ?_)
    · have d3 : (65 : Int) ≤ c ∧ c ≤ 70 := by simpa using x
      refine Wc_ops (Wo_run (fun call => by simp only [List.drop_succ_cons, List.drop_zero, iops_nil, iops_op, iops_grd, iK_some, iG_true, iG_false, gval_bool, beq_self_eq_true, beq_true, beq_false, Bool.not_true, Bool.not_false, iop, ev, upd, dstUpd, binV, binI, unV, ptr, Heap.cell, Heap.write, cellsOf, put, args0, partL, List.getD_cons_zero, List.getD_cons_succ, List.length_cons, List.length_nil, List.set_cons_zero, List.set_cons_succ, List.getElem?_cons_zero, List.getElem?_cons_succ, reduceIte, Nat.reduceEqDiff, Nat.reduceAdd, Nat.reduceMul, Nat.reduceLeDiff, Nat.zero_add, Nat.add_zero, Option.map_some, Int.reduceEq, Int.reduceLT, Int.reduceLE, Bool.false_eq_true, decide_true, decide_false, ge_iff_le, gt_iff_lt, set_get', e0, wrapU8 (show (0 : Int) ≤ c - 65 by omega) (show c - 65 ≤ 255 by omega), wrapU64 (show (0 : Int) ≤ c - 65 by omega) (show c - 65 ≤ 18446744073709551615 by omega), wrapU64 (show (0 : Int) ≤ c - 65 + 10 by omega) (show c - 65 + 10 ≤ 18446744073709551615 by omega)]; rfl) ?_)
      exact ⟨rfl, rfl, by simp only [upd, dstUpd, reduceIte, Nat.reduceEqDiff, figI, if_neg d1, if_neg d2, if_pos d3]; congr 1; omega, (by simp only [upd, dstUpd, args0, List.getD_cons_zero, List.getD_cons_succ, reduceIte, Nat.reduceEqDiff, ptr, e1] <;> first | rfl | assumption | (symm; assumption))⟩
    have d3 : ¬ ((65 : Int) ≤ c ∧ c ≤ 70) := by simpa using x
    exact ⟨rfl, rfl, by show e 6 = _; rw [e6, figI, if_neg d1, if_neg d2, if_neg d3], e1⟩
  rintro ⟨e, h', d⟩ ⟨hd, hh, e6, e1⟩
  simp only at hd hh e6 e1
  rw [hd, hh]
  refine Wc_seq (Wc_ops (Wo_run (fun call => by simp only [List.drop_succ_cons, List.drop_zero, iops_nil, iops_op, iops_grd, iK_some, iG_true, iG_false, gval_bool, beq_self_eq_true, beq_true, beq_false, Bool.not_true, Bool.not_false, iop, ev, upd, dstUpd, binV, binI, unV, ptr, Heap.cell, Heap.write, cellsOf, put, args0, partL, List.getD_cons_zero, List.getD_cons_succ, List.length_cons, List.length_nil, List.set_cons_zero, List.set_cons_succ, List.getElem?_cons_zero, List.getElem?_cons_succ, reduceIte, Nat.reduceEqDiff, Nat.reduceAdd, Nat.reduceMul, Nat.reduceLeDiff, Nat.zero_add, Nat.add_zero, Option.map_some, Int.reduceEq, Int.reduceLT, Int.reduceLE, Bool.false_eq_true, decide_true, decide_false, ge_iff_le, gt_iff_lt, set_get', e6, e1]; rfl) ?_))
  exact Wc_ret ⟨.inr rfl, rfl, [.int .u64 (figI 255 c), .bool (decide (figI 255 c < base))], by simp only [resAll, resV, upd, dstUpd, reduceIte, Nat.reduceEqDiff], rfl, rfl⟩

/-- A text that begins with a quote is no number by its figures. -/
theorem whole_quote {l : List UInt8} {base : Int} (hb : base ≤ 16) (h : bt l 0 = 39) : wholeR base l = (0, false) := by
  cases l with
  | nil => simp [bt] at h
  | cons c r =>
    have hc : ((c.toNat : Nat) : Int) = 39 := by simpa [bt] using h
    have hf : figI 255 ((c.toNat : Nat) : Int) = 255 := by rw [hc]; rfl
    rw [wholeR, wholeF, hf, if_pos (by omega)]
theorem whole_x {l : List UInt8} (h0 : bt l 0 = 48) (h1 : bt l 1 = 120) (h2 : l.length = 2) : wholeR 10 l = (0, false) := by
  match l, h2 with
  | [a, b], _ =>
    have ha : ((a.toNat : Nat) : Int) = 48 := by simpa [bt] using h0
    have hb : ((b.toNat : Nat) : Int) = 120 := by simpa [bt] using h1
    have fa : figI 255 ((a.toNat : Nat) : Int) = 0 := by rw [ha]; rfl
    have fb : figI 255 ((b.toNat : Nat) : Int) = 255 := by rw [hb]; rfl
    simp only [wholeR, wholeF, fa, fb]
    rfl

/-- The figures of a text: base, and what they stand in. -/
def hexP (l : List UInt8) : Bool := decide (2 < l.length) && (bt l 0 == 48) && (bt l 1 == 120)
def quoP (l : List UInt8) : Bool := decide (l.length = 3) && (bt l 0 == 39) && (bt l 2 == 39) && decide (32 ≤ bt l 1) && decide (bt l 1 ≤ 126)
theorem numR_eq (l : List UInt8) : numR l = match quoP l with
    | true => (bt l 1, true)
    | false => match hexP l with
      | true => wholeR 16 (l.drop 2)
      | false => wholeR 10 l := by
  cases h0 : bt l 0 == 39 with
  | true =>
    have hq : quoP l = (decide (l.length = 3) && (bt l 2 == 39) && decide (32 ≤ bt l 1) && decide (bt l 1 ≤ 126)) := by rw [quoP, h0, Bool.and_true]
    rw [hq]
    cases hx : (decide (l.length = 3) && (bt l 2 == 39) && decide (32 ≤ bt l 1) && decide (bt l 1 ≤ 126)) with
    | true => simp only [numR, h0, hx]
    | false =>
      simp only [numR, h0, hx]
      have h39 := beq_iff_eq.1 h0
      have : hexP l = false := by rw [hexP, show (bt l 0 == 48) = false by rw [h39]; rfl, Bool.and_false]; rfl
      rw [this]
      exact (whole_quote (by decide) h39).symm
  | false =>
    have hq : quoP l = false := by rw [quoP, h0, Bool.and_false]; rfl
    rw [hq]
    simp only [numR, h0]
    cases hx : hexP l with
    | true =>
      simp only [hexP, Bool.and_eq_true, decide_eq_true_eq] at hx
      have : (decide (1 < l.length) && (bt l 0 == 48) && (bt l 1 == 120)) = true := by rw [decide_eq_true (by omega), hx.1.2, hx.2]; rfl
      rw [this]
    | false =>
      cases hy : (decide (1 < l.length) && (bt l 0 == 48) && (bt l 1 == 120)) with
      | false => rfl
      | true =>
        simp only [Bool.and_eq_true, decide_eq_true_eq] at hy
        have h2 : l.length = 2 := by
          rcases Nat.lt_or_ge 2 l.length with h | h
          · rw [hexP, decide_eq_true h, hy.1.2, hy.2] at hx; cases hx
          · omega
        have h20 := List.drop_of_length_le (l := l) (i := 2) (by omega)
        simp only [h20]
        rw [whole_x (beq_iff_eq.1 hy.1.2) (beq_iff_eq.1 hy.2) h2]; rfl

theorem numberS_ok (hT : T.fn 30 = some C30) (hw : T.fn 46 = some C46) {s : ByteArray} {h : Heap} (hs : s.size < 9223372036854775807) :
    Wk T (.fn 30) [.string s] h (fun o h' => h' = h ∧ o = .ret (numV s)) := by
  refine Wk_fn hT (by simp [C30]) ?_
  simp only [C30]
  have fin : ∀ (e : Env) (n : Int) (b : Bool), e 2 = .int .i64 n → e 3 = .bool b → numR (bs s) = (n, b) → (Ex.ret = .normal ∨ Ex.ret = .ret) ∧ some ([] : List Dfr) = some [] ∧ ∃ vs, resAll e h [.tmp 2, .tmp 3] = some vs ∧ h = h ∧ Out.ret (tup vs) = .ret (numV s) := fun e n b h2 h3 hn =>
    ⟨.inr rfl, rfl, [.int .i64 n, .bool b], by simp only [resAll, resV, h2, h3], rfl, by rw [numV, hn]; rfl⟩
  refine Wc_seq (Wc_ops (Wo_run (fun call => by simp only [List.drop_succ_cons, List.drop_zero, iops_nil, iops_op, iops_grd, iK_some, iG_true, iG_false, gval_bool, beq_self_eq_true, beq_true, beq_false, Bool.not_true, Bool.not_false, iop, ev, upd, dstUpd, binV, binI, unV, ptr, Heap.cell, Heap.write, cellsOf, put, args0, partL, List.getD_cons_zero, List.getD_cons_succ, List.length_cons, List.length_nil, List.set_cons_zero, List.set_cons_succ, List.getElem?_cons_zero, List.getElem?_cons_succ, reduceIte, Nat.reduceEqDiff, Nat.reduceAdd, Nat.reduceMul, Nat.reduceLeDiff, Nat.zero_add, Nat.add_zero, Option.map_some, Int.reduceEq, Int.reduceLT, Int.reduceLE, Bool.false_eq_true, decide_true, decide_false, ge_iff_le, gt_iff_lt, set_get']; rfl) ?_))
  show Wc T _ _ _
  have hlen : (bs s).length = s.size := (bs_size s).symm
  have hnum := numR_eq (bs s)
  -- in quotes
  refine Wc_mid (fun s' => s'.d = some [] ∧ s'.h = h ∧ s'.e 0 = .string s ∧ quoP (bs s) = false) ?_ ?_
  · refine Wc_mid (fun s' => s'.d = some [] ∧ s'.h = h ∧ s'.e 0 = .string s ∧ s'.e 31 = .bool (quoP (bs s))) ?_ ?_
    · cases y : (((s.size : Nat) : Int) == 3)
      · refine Wc_ops (Wo_run (fun call => by simp only [List.drop_succ_cons, List.drop_zero, iops_nil, iops_op, iops_grd, iK_some, iG_true, iG_false, gval_bool, beq_self_eq_true, beq_true, beq_false, Bool.not_true, Bool.not_false, iop, ev, upd, dstUpd, binV, binI, unV, ptr, Heap.cell, Heap.write, cellsOf, put, args0, partL, List.getD_cons_zero, List.getD_cons_succ, List.length_cons, List.length_nil, List.set_cons_zero, List.set_cons_succ, List.getElem?_cons_zero, List.getElem?_cons_succ, reduceIte, Nat.reduceEqDiff, Nat.reduceAdd, Nat.reduceMul, Nat.reduceLeDiff, Nat.zero_add, Nat.add_zero, Option.map_some, Int.reduceEq, Int.reduceLT, Int.reduceLE, Bool.false_eq_true, decide_true, decide_false, ge_iff_le, gt_iff_lt, set_get', y]; rfl) ?_)
        have : ¬ (bs s).length = 3 := by rw [hlen]; intro e; rw [e] at y; cases y
        exact ⟨rfl, rfl, (by simp only [upd, dstUpd, args0, List.getD_cons_zero, List.getD_cons_succ, reduceIte, Nat.reduceEqDiff, ptr] <;> first | rfl | assumption | (symm; assumption)), by simp only [upd, dstUpd, reduceIte, Nat.reduceEqDiff]; rw [quoP, decide_eq_false this]; rfl⟩
      have h3 : s.size = 3 := by have := beq_iff_eq.1 y; omega
      obtain ⟨c0, hc0⟩ := bs_at (s := s) (j := 0) (by omega)
      obtain ⟨c1, hc1⟩ := bs_at (s := s) (j := 1) (by omega)
      obtain ⟨c2, hc2⟩ := bs_at (s := s) (j := 2) (by omega)
      have s0 : s.data.toList[0]? = some c0 := hc0
      have s1 : s.data.toList[1]? = some c1 := hc1
      have s2 : s.data.toList[2]? = some c2 := hc2
      have i0 := idx0 (k := .i64) (show 0 < s.size by omega)
      have i1 := idx1 (k := .i64) (show 1 < s.size by omega)
      have i2 := idx2 (k := .i64) (show 2 < s.size by omega)
      have hq : quoP (bs s) = ((((c0.toNat : Nat) : Int) == 39) && (((c2.toNat : Nat) : Int) == 39) && decide ((32 : Int) ≤ ((c1.toNat : Nat) : Int)) && decide (((c1.toNat : Nat) : Int) ≤ 126)) := by
        rw [quoP, bt_at hc0, bt_at hc1, bt_at hc2, hlen, decide_eq_true h3, Bool.true_and]
      cases y0 : (((c0.toNat : Nat) : Int) == 39)
      · refine Wc_ops (Wo_run (fun call => by simp only [List.drop_succ_cons, List.drop_zero, iops_nil, iops_op, iops_grd, iK_some, iG_true, iG_false, gval_bool, beq_self_eq_true, beq_true, beq_false, Bool.not_true, Bool.not_false, iop, ev, upd, dstUpd, binV, binI, unV, ptr, Heap.cell, Heap.write, cellsOf, put, args0, partL, List.getD_cons_zero, List.getD_cons_succ, List.length_cons, List.length_nil, List.set_cons_zero, List.set_cons_succ, List.getElem?_cons_zero, List.getElem?_cons_succ, reduceIte, Nat.reduceEqDiff, Nat.reduceAdd, Nat.reduceMul, Nat.reduceLeDiff, Nat.zero_add, Nat.add_zero, Option.map_some, Int.reduceEq, Int.reduceLT, Int.reduceLE, Bool.false_eq_true, decide_true, decide_false, ge_iff_le, gt_iff_lt, set_get', y, i0, s0, y0]; rfl) ?_)
        exact ⟨rfl, rfl, (by simp only [upd, dstUpd, args0, List.getD_cons_zero, List.getD_cons_succ, reduceIte, Nat.reduceEqDiff, ptr] <;> first | rfl | assumption | (symm; assumption)), by simp only [upd, dstUpd, reduceIte, Nat.reduceEqDiff, hq, y0, Bool.false_and]⟩
      cases y2 : (((c2.toNat : Nat) : Int) == 39)
      · refine Wc_ops (Wo_run (fun call => by simp only [List.drop_succ_cons, List.drop_zero, iops_nil, iops_op, iops_grd, iK_some, iG_true, iG_false, gval_bool, beq_self_eq_true, beq_true, beq_false, Bool.not_true, Bool.not_false, iop, ev, upd, dstUpd, binV, binI, unV, ptr, Heap.cell, Heap.write, cellsOf, put, args0, partL, List.getD_cons_zero, List.getD_cons_succ, List.length_cons, List.length_nil, List.set_cons_zero, List.set_cons_succ, List.getElem?_cons_zero, List.getElem?_cons_succ, reduceIte, Nat.reduceEqDiff, Nat.reduceAdd, Nat.reduceMul, Nat.reduceLeDiff, Nat.zero_add, Nat.add_zero, Option.map_some, Int.reduceEq, Int.reduceLT, Int.reduceLE, Bool.false_eq_true, decide_true, decide_false, ge_iff_le, gt_iff_lt, set_get', y, i0, i2, s0, s2, y0, y2]; rfl) ?_)
        exact ⟨rfl, rfl, (by simp only [upd, dstUpd, args0, List.getD_cons_zero, List.getD_cons_succ, reduceIte, Nat.reduceEqDiff, ptr] <;> first | rfl | assumption | (symm; assumption)), by simp only [upd, dstUpd, reduceIte, Nat.reduceEqDiff, hq, y0, y2, Bool.and_false, Bool.false_and]⟩
      cases y3 : decide ((32 : Int) ≤ ((c1.toNat : Nat) : Int))
      · have y3' := of_decide_eq_false y3
        refine Wc_ops (Wo_run (fun call => by simp only [List.drop_succ_cons, List.drop_zero, iops_nil, iops_op, iops_grd, iK_some, iG_true, iG_false, gval_bool, beq_self_eq_true, beq_true, beq_false, Bool.not_true, Bool.not_false, iop, ev, upd, dstUpd, binV, binI, unV, ptr, Heap.cell, Heap.write, cellsOf, put, args0, partL, List.getD_cons_zero, List.getD_cons_succ, List.length_cons, List.length_nil, List.set_cons_zero, List.set_cons_succ, List.getElem?_cons_zero, List.getElem?_cons_succ, reduceIte, Nat.reduceEqDiff, Nat.reduceAdd, Nat.reduceMul, Nat.reduceLeDiff, Nat.zero_add, Nat.add_zero, Option.map_some, Int.reduceEq, Int.reduceLT, Int.reduceLE, Bool.false_eq_true, decide_true, decide_false, ge_iff_le, gt_iff_lt, set_get', y, i0, i1, i2, s0, s1, s2, y0, y2, y3']; rfl) ?_)
        exact ⟨rfl, rfl, (by simp only [upd, dstUpd, args0, List.getD_cons_zero, List.getD_cons_succ, reduceIte, Nat.reduceEqDiff, ptr] <;> first | rfl | assumption | (symm; assumption)), by simp only [upd, dstUpd, reduceIte, Nat.reduceEqDiff, hq, y0, y2, y3, Bool.and_false, Bool.false_and]⟩
      have y3' := of_decide_eq_true y3
      refine Wc_ops (Wo_run (fun call => by simp only [List.drop_succ_cons, List.drop_zero, iops_nil, iops_op, iops_grd, iK_some, iG_true, iG_false, gval_bool, beq_self_eq_true, beq_true, beq_false, Bool.not_true, Bool.not_false, iop, ev, upd, dstUpd, binV, binI, unV, ptr, Heap.cell, Heap.write, cellsOf, put, args0, partL, List.getD_cons_zero, List.getD_cons_succ, List.length_cons, List.length_nil, List.set_cons_zero, List.set_cons_succ, List.getElem?_cons_zero, List.getElem?_cons_succ, reduceIte, Nat.reduceEqDiff, Nat.reduceAdd, Nat.reduceMul, Nat.reduceLeDiff, Nat.zero_add, Nat.add_zero, Option.map_some, Int.reduceEq, Int.reduceLT, Int.reduceLE, Bool.false_eq_true, decide_true, decide_false, ge_iff_le, gt_iff_lt, set_get', y, i0, i1, i2, s0, s1, s2, y0, y2, y3']; rfl) ?_)
      exact ⟨rfl, rfl, (by simp only [upd, dstUpd, args0, List.getD_cons_zero, List.getD_cons_succ, reduceIte, Nat.reduceEqDiff, ptr] <;> first | rfl | assumption | (symm; assumption)), by simp only [upd, dstUpd, reduceIte, Nat.reduceEqDiff, hq, y0, y2, y3, Bool.true_and]⟩
    rintro ⟨e, h', d⟩ ⟨hd, hh, e0, e31⟩
    simp only at hd hh e0 e31
    rw [hd, hh]
    refine Wc_cond _ e31 (fun x => ?_) (fun x => Wc_skip ⟨rfl, rfl, e0, x⟩)
    have h3 : s.size = 3 := by
      simp only [quoP, Bool.and_eq_true, decide_eq_true_eq] at x
      rw [← hlen]; exact x.1.1.1.1
    obtain ⟨c1, hc1⟩ := bs_at (s := s) (j := 1) (by omega)
    have s1 : s.data.toList[1]? = some c1 := hc1
    have hw1 : IntKind.i64.wrap ((c1.toNat : Nat) : Int) = ((c1.toNat : Nat) : Int) := by have := u8_lt c1; exact wrap64 (by omega) (by omega)
    refine Wc_seq (Wc_ops (Wo_run (fun call => by simp only [List.drop_succ_cons, List.drop_zero, iops_nil, iops_op, iops_grd, iK_some, iG_true, iG_false, gval_bool, beq_self_eq_true, beq_true, beq_false, Bool.not_true, Bool.not_false, iop, ev, upd, dstUpd, binV, binI, unV, ptr, Heap.cell, Heap.write, cellsOf, put, args0, partL, List.getD_cons_zero, List.getD_cons_succ, List.length_cons, List.length_nil, List.set_cons_zero, List.set_cons_succ, List.getElem?_cons_zero, List.getElem?_cons_succ, reduceIte, Nat.reduceEqDiff, Nat.reduceAdd, Nat.reduceMul, Nat.reduceLeDiff, Nat.zero_add, Nat.add_zero, Option.map_some, Int.reduceEq, Int.reduceLT, Int.reduceLE, Bool.false_eq_true, decide_true, decide_false, ge_iff_le, gt_iff_lt, set_get', e0, idx1 (k := .i64) (show 1 < s.size by omega), s1, hw1]; rfl) ?_))
    exact Wc_ret (fin _ _ _ (by simp only [upd, dstUpd, args0, List.getD_cons_zero, List.getD_cons_succ, reduceIte, Nat.reduceEqDiff, ptr] <;> first | rfl | assumption | (symm; assumption)) (by simp only [upd, dstUpd, args0, List.getD_cons_zero, List.getD_cons_succ, reduceIte, Nat.reduceEqDiff, ptr] <;> first | rfl | assumption | (symm; assumption)) (by rw [hnum, x, bt_at hc1]))
  rintro ⟨e, h', d⟩ ⟨hd, hh, e0, hq⟩
  simp only at hd hh e0
  rw [hd, hh]
  rw [hq] at hnum
  simp only at hnum
  refine Wc_seq (Wc_ops (Wo_run (fun call => by simp only [List.drop_succ_cons, List.drop_zero, iops_nil, iops_op, iops_grd, iK_some, iG_true, iG_false, gval_bool, beq_self_eq_true, beq_true, beq_false, Bool.not_true, Bool.not_false, iop, ev, upd, dstUpd, binV, binI, unV, ptr, Heap.cell, Heap.write, cellsOf, put, args0, partL, List.getD_cons_zero, List.getD_cons_succ, List.length_cons, List.length_nil, List.set_cons_zero, List.set_cons_succ, List.getElem?_cons_zero, List.getElem?_cons_succ, reduceIte, Nat.reduceEqDiff, Nat.reduceAdd, Nat.reduceMul, Nat.reduceLeDiff, Nat.zero_add, Nat.add_zero, Option.map_some, Int.reduceEq, Int.reduceLT, Int.reduceLE, Bool.false_eq_true, decide_true, decide_false, ge_iff_le, gt_iff_lt, set_get']; rfl) ?_))
  show Wc T _ _ _
  -- the base
  refine Wc_mid (fun s' => s'.d = some [] ∧ s'.h = h ∧ ∃ (s2 : ByteArray) (base : Int), s2.size < 9223372036854775807 ∧ 0 < base ∧ base ≤ 16 ∧ s'.e 0 = .string s2 ∧ s'.e 4 = .int .u64 base ∧ numR (bs s) = wholeR base (bs s2)) ?_ ?_
  · refine Wc_mid (fun s' => s'.d = some [] ∧ s'.h = h ∧ s'.e 0 = .string s ∧ s'.e 4 = .int .u64 10 ∧ s'.e 42 = .bool (hexP (bs s))) ?_ ?_
    · by_cases h2 : 2 < s.size
      · have y : decide ((2 : Int) < ((s.size : Nat) : Int)) = true := decide_eq_true (by omega)
        have hb2 : bndV 0 s.size (.int .i64 2) = some 2 := by simp [bndV]; omega
        have hb0 : bndO (fun _ => undef) 0 2 0 none = some 0 := rfl
        have hx : decide (s.extract 0 2 = ⟨#[48, 120]⟩) = hexP (bs s) := by
          obtain ⟨c0, hc0⟩ := bs_at (s := s) (j := 0) (by omega)
          obtain ⟨c1, hc1⟩ := bs_at (s := s) (j := 1) (by omega)
          have ht : bs (s.extract 0 2) = [c0, c1] := by
            rw [bs_extract, List.drop_zero]
            apply List.ext_getElem?
            intro i
            match i with
            | 0 => simp [List.getElem?_take, hc0]
            | 1 => simp [List.getElem?_take, hc1]
            | i + 2 => rw [List.getElem?_take, if_neg (by omega)]; rfl
          have hd2 : decide (2 < (bs s).length) = true := decide_eq_true (by rw [hlen]; exact h2)
          rw [hexP, bt_at hc0, bt_at hc1, hd2, Bool.true_and]
          have : (s.extract 0 2 = ⟨#[48, 120]⟩) ↔ (c0 = 48 ∧ c1 = 120) := by
            constructor
            · intro h
              have := congrArg bs h
              rw [ht] at this
              simpa [bs] using this
            · rintro ⟨rfl, rfl⟩
              exact bs_inj (by rw [ht]; rfl)
          rw [Bool.eq_iff_iff, decide_eq_true_iff, Bool.and_eq_true, beq_iff_eq, beq_iff_eq, this]
          constructor
          · rintro ⟨rfl, rfl⟩; exact ⟨rfl, rfl⟩
          · rintro ⟨z0, z1⟩
            exact ⟨UInt8.toNat_inj.1 (by rw [show (48 : UInt8).toNat = 48 from rfl]; omega), UInt8.toNat_inj.1 (by rw [show (120 : UInt8).toNat = 120 from rfl]; omega)⟩
        refine Wc_ops (Wo_run (fun call => by simp only [List.drop_succ_cons, List.drop_zero, iops_nil, iops_op, iops_grd, iK_some, iG_true, iG_false, gval_bool, beq_self_eq_true, beq_true, beq_false, Bool.not_true, Bool.not_false, iop, ev, upd, dstUpd, binV, binI, unV, ptr, Heap.cell, Heap.write, cellsOf, put, args0, partL, List.getD_cons_zero, List.getD_cons_succ, List.length_cons, List.length_nil, List.set_cons_zero, List.set_cons_succ, List.getElem?_cons_zero, List.getElem?_cons_succ, reduceIte, Nat.reduceEqDiff, Nat.reduceAdd, Nat.reduceMul, Nat.reduceLeDiff, Nat.zero_add, Nat.add_zero, Option.map_some, Int.reduceEq, Int.reduceLT, Int.reduceLE, Bool.false_eq_true, decide_true, decide_false, ge_iff_le, gt_iff_lt, set_get', e0, y, bndO, hb2]; rfl) ?_)
        refine ⟨rfl, rfl, (by simp only [upd, dstUpd, args0, List.getD_cons_zero, List.getD_cons_succ, reduceIte, Nat.reduceEqDiff, ptr, e0] <;> first | rfl | assumption | (symm; assumption)), (by simp only [upd, dstUpd, args0, List.getD_cons_zero, List.getD_cons_succ, reduceIte, Nat.reduceEqDiff, ptr] <;> first | rfl | assumption | (symm; assumption)), by simp only [upd, dstUpd, reduceIte, Nat.reduceEqDiff]; rw [← hx]⟩
      · have y : decide ((2 : Int) < ((s.size : Nat) : Int)) = false := decide_eq_false (by omega)
        refine Wc_ops (Wo_run (fun call => by simp only [List.drop_succ_cons, List.drop_zero, iops_nil, iops_op, iops_grd, iK_some, iG_true, iG_false, gval_bool, beq_self_eq_true, beq_true, beq_false, Bool.not_true, Bool.not_false, iop, ev, upd, dstUpd, binV, binI, unV, ptr, Heap.cell, Heap.write, cellsOf, put, args0, partL, List.getD_cons_zero, List.getD_cons_succ, List.length_cons, List.length_nil, List.set_cons_zero, List.set_cons_succ, List.getElem?_cons_zero, List.getElem?_cons_succ, reduceIte, Nat.reduceEqDiff, Nat.reduceAdd, Nat.reduceMul, Nat.reduceLeDiff, Nat.zero_add, Nat.add_zero, Option.map_some, Int.reduceEq, Int.reduceLT, Int.reduceLE, Bool.false_eq_true, decide_true, decide_false, ge_iff_le, gt_iff_lt, set_get', e0, y]; rfl) ?_)
        exact ⟨rfl, rfl, (by simp only [upd, dstUpd, args0, List.getD_cons_zero, List.getD_cons_succ, reduceIte, Nat.reduceEqDiff, ptr, e0] <;> first | rfl | assumption | (symm; assumption)), (by simp only [upd, dstUpd, args0, List.getD_cons_zero, List.getD_cons_succ, reduceIte, Nat.reduceEqDiff, ptr] <;> first | rfl | assumption | (symm; assumption)), by simp only [upd, dstUpd, reduceIte, Nat.reduceEqDiff, hexP, hlen, decide_eq_false h2, Bool.false_and]⟩
    rintro ⟨e, h', d⟩ ⟨hd, hh, e0, e4, e42⟩
    simp only at hd hh e0 e4 e42
    rw [hd, hh]
    refine Wc_cond _ e42 (fun x => ?_) (fun x => Wc_skip ⟨rfl, rfl, s, 10, hs, by decide, by decide, e0, e4, by rw [hnum, x]⟩)
    have h2 : 2 < s.size := by
      simp only [hexP, Bool.and_eq_true, decide_eq_true_eq] at x
      rw [← hlen]; exact x.1.1
    have hb2 : bndV 0 s.size (.int .i64 2) = some 2 := by simp [bndV]; omega
    refine Wc_draw_calm (by decide) (Wo_run (fun call => by simp only [List.drop_succ_cons, List.drop_zero, iops_nil, iops_op, iops_grd, iK_some, iG_true, iG_false, gval_bool, beq_self_eq_true, beq_true, beq_false, Bool.not_true, Bool.not_false, iop, ev, upd, dstUpd, binV, binI, unV, ptr, Heap.cell, Heap.write, cellsOf, put, args0, partL, List.getD_cons_zero, List.getD_cons_succ, List.length_cons, List.length_nil, List.set_cons_zero, List.set_cons_succ, List.getElem?_cons_zero, List.getElem?_cons_succ, reduceIte, Nat.reduceEqDiff, Nat.reduceAdd, Nat.reduceMul, Nat.reduceLeDiff, Nat.zero_add, Nat.add_zero, Option.map_some, Int.reduceEq, Int.reduceLT, Int.reduceLE, Bool.false_eq_true, decide_true, decide_false, ge_iff_le, gt_iff_lt, set_get', e0, bndO, hb2]; rfl) ?_)
    refine ⟨rfl, ?_⟩
    have hx : bs (s.extract 2 s.size) = (bs s).drop 2 := by rw [bs_extract, List.take_of_length_le (by rw [hlen]; exact Nat.le_refl _)]
    exact ⟨rfl, rfl, s.extract 2 s.size, 16, by rw [bs_size, hx, List.length_drop]; omega, by decide, by decide, (by simp only [upd, dstUpd, args0, List.getD_cons_zero, List.getD_cons_succ, reduceIte, Nat.reduceEqDiff, ptr] <;> first | rfl | assumption | (symm; assumption)), (by simp only [upd, dstUpd, args0, List.getD_cons_zero, List.getD_cons_succ, reduceIte, Nat.reduceEqDiff, ptr] <;> first | rfl | assumption | (symm; assumption)), by rw [hnum, x, hx]⟩
  rintro ⟨e, h', d⟩ ⟨hd, hh, s2, base, hs2, hb, hb', e0, e4, hnum2⟩
  simp only at hd hh e0 e4
  rw [hd, hh]
  refine Wc_seq (Wc_ops (Wo_run (fun call => by simp only [List.drop_succ_cons, List.drop_zero, iops_nil, iops_op, iops_grd, iK_some, iG_true, iG_false, gval_bool, beq_self_eq_true, beq_true, beq_false, Bool.not_true, Bool.not_false, iop, ev, upd, dstUpd, binV, binI, unV, ptr, Heap.cell, Heap.write, cellsOf, put, args0, partL, List.getD_cons_zero, List.getD_cons_succ, List.length_cons, List.length_nil, List.set_cons_zero, List.set_cons_succ, List.getElem?_cons_zero, List.getElem?_cons_succ, reduceIte, Nat.reduceEqDiff, Nat.reduceAdd, Nat.reduceMul, Nat.reduceLeDiff, Nat.zero_add, Nat.add_zero, Option.map_some, Int.reduceEq, Int.reduceLT, Int.reduceLE, Bool.false_eq_true, decide_true, decide_false, ge_iff_le, gt_iff_lt, set_get']; rfl) ?_))
  show Wc T _ _ _
  refine Wc_seq (Wc_seq (Wc_ops (Wo_run (fun call => by simp only [List.drop_succ_cons, List.drop_zero, iops_nil, iops_op, iops_grd, iK_some, iG_true, iG_false, gval_bool, beq_self_eq_true, beq_true, beq_false, Bool.not_true, Bool.not_false, iop, ev, upd, dstUpd, binV, binI, unV, ptr, Heap.cell, Heap.write, cellsOf, put, args0, partL, List.getD_cons_zero, List.getD_cons_succ, List.length_cons, List.length_nil, List.set_cons_zero, List.set_cons_succ, List.getElem?_cons_zero, List.getElem?_cons_succ, reduceIte, Nat.reduceEqDiff, Nat.reduceAdd, Nat.reduceMul, Nat.reduceLeDiff, Nat.zero_add, Nat.add_zero, Option.map_some, Int.reduceEq, Int.reduceLT, Int.reduceLE, Bool.false_eq_true, decide_true, decide_false, ge_iff_le, gt_iff_lt, set_get', e0]; rfl) ?_)))
  show Wc T _ _ _
  refine Wc_range s2.size (fun j e h' d => d = some [] ∧ h' = h ∧ ∃ n, pre base (bs s2) j = some n ∧ e 5 = .int .u64 n) (by decide) (by simp only [upd, dstUpd, args0, List.getD_cons_zero, List.getD_cons_succ, reduceIte, Nat.reduceEqDiff, ptr] <;> first | rfl | assumption | (symm; assumption)) (by simp only [upd, dstUpd, args0, List.getD_cons_zero, List.getD_cons_succ, reduceIte, Nat.reduceEqDiff, ptr] <;> first | rfl | assumption | (symm; assumption)) hs2 (by decide) ⟨rfl, rfl, 0, rfl, (by simp only [upd, dstUpd, args0, List.getD_cons_zero, List.getD_cons_succ, reduceIte, Nat.reduceEqDiff, ptr] <;> first | rfl | assumption | (symm; assumption))⟩ ?_ ?_
  · rintro j e h' d hj ⟨rfl, hh, n, hn, h5⟩ hfr h47 h46
    rw [hh]
    have e0 : e 0 = .string s2 := (by rw [hfr 0 (by decide)]; try simp only [upd, dstUpd, args0, List.getD_cons_zero, List.getD_cons_succ, reduceIte, Nat.reduceEqDiff] <;> first | rfl | assumption | (symm; assumption))
    have e4 : e 4 = .int .u64 base := (by rw [hfr 4 (by decide)]; try simp only [upd, dstUpd, args0, List.getD_cons_zero, List.getD_cons_succ, reduceIte, Nat.reduceEqDiff] <;> first | rfl | assumption | (symm; assumption))
    have hnr := wholeF_range hb (by omega) (by omega) hn
    obtain ⟨c, hc⟩ := bs_at hj
    have hsc : s2.data.toList[j]? = some c := hc
    have no : pre base (bs s2) (j + 1) = none → ∀ (e : Env), e 2 = .int .i64 0 → e 3 = .bool false → (Ex.ret = .normal ∨ Ex.ret = .ret) ∧ some ([] : List Dfr) = some [] ∧ ∃ vs, resAll e h [.tmp 2, .tmp 3] = some vs ∧ h = h ∧ Out.ret (tup vs) = .ret (numV s) := fun hp e h2 h3 =>
      fin e 0 false h2 h3 (by rw [hnum2, whole_none hp])
    refine Wc_seq (Wc_ops (Wo_run (fun call => by simp only [List.drop_succ_cons, List.drop_zero, iops_nil, iops_op, iops_grd, iK_some, iG_true, iG_false, gval_bool, beq_self_eq_true, beq_true, beq_false, Bool.not_true, Bool.not_false, iop, ev, upd, dstUpd, binV, binI, unV, ptr, Heap.cell, Heap.write, cellsOf, put, args0, partL, List.getD_cons_zero, List.getD_cons_succ, List.length_cons, List.length_nil, List.set_cons_zero, List.set_cons_succ, List.getElem?_cons_zero, List.getElem?_cons_succ, reduceIte, Nat.reduceEqDiff, Nat.reduceAdd, Nat.reduceMul, Nat.reduceLeDiff, Nat.zero_add, Nat.add_zero, Option.map_some, Int.reduceEq, Int.reduceLT, Int.reduceLE, Bool.false_eq_true, decide_true, decide_false, ge_iff_le, gt_iff_lt, set_get', h47]; rfl) ?_))
    show Wc T _ _ _
    refine Wc_seq (Wc_ops (Wo_pre 4 (fun call => by simp only [List.take_succ_cons, List.take_zero, List.drop_succ_cons, List.drop_zero, iops_nil, iops_op, iops_grd, iK_some, iG_true, iG_false, gval_bool, beq_self_eq_true, beq_true, beq_false, Bool.not_true, Bool.not_false, iop, ev, upd, dstUpd, binV, binI, unV, ptr, Heap.cell, Heap.write, cellsOf, put, args0, partL, List.getD_cons_zero, List.getD_cons_succ, List.length_cons, List.length_nil, List.set_cons_zero, List.set_cons_succ, List.getElem?_cons_zero, List.getElem?_cons_succ, reduceIte, Nat.reduceEqDiff, Nat.reduceAdd, Nat.reduceMul, Nat.reduceLeDiff, Nat.zero_add, Nat.add_zero, Option.map_some, Int.reduceEq, Int.reduceLT, Int.reduceLE, Bool.false_eq_true, decide_true, decide_false, ge_iff_le, gt_iff_lt, set_get', e0, e4, idx_ok hj, hsc]; rfl) ?_))
    refine Wo_call (Wk_pure (worth_ok hw (u8_lt c).1 (u8_lt c).2) ?_)
    refine (Wo_run (fun call => by simp only [List.drop_succ_cons, List.drop_zero, iops_nil, iops_op, iops_grd, iK_some, iG_true, iG_false, gval_bool, beq_self_eq_true, beq_true, beq_false, Bool.not_true, Bool.not_false, iop, ev, upd, dstUpd, binV, binI, unV, ptr, Heap.cell, Heap.write, cellsOf, put, args0, partL, List.getD_cons_zero, List.getD_cons_succ, List.length_cons, List.length_nil, List.set_cons_zero, List.set_cons_succ, List.getElem?_cons_zero, List.getElem?_cons_succ, reduceIte, Nat.reduceEqDiff, Nat.reduceAdd, Nat.reduceMul, Nat.reduceLeDiff, Nat.zero_add, Nat.add_zero, Option.map_some, Int.reduceEq, Int.reduceLT, Int.reduceLE, Bool.false_eq_true, decide_true, decide_false, ge_iff_le, gt_iff_lt, set_get']; rfl) ?_)
    show Wc T _ _ _
    have q1 : ¬ base ≤ figI 255 c.toNat → IntKind.u64.wrap (9223372036854775807 - figI 255 c.toNat) = 9223372036854775807 - figI 255 c.toNat := fun g => by
      have hf : 0 ≤ figI 255 c.toNat := by unfold figI; repeat' split; all_goals omega
      exact wrapU64 (by omega) (by omega)
    by_cases g1 : base ≤ figI 255 c.toNat
    · have z1 : ¬ figI 255 c.toNat < base := by omega
      refine Wc_seq (Wc_seq (Wc_ops (Wo_run (fun call => by simp only [List.drop_succ_cons, List.drop_zero, iops_nil, iops_op, iops_grd, iK_some, iG_true, iG_false, gval_bool, beq_self_eq_true, beq_true, beq_false, Bool.not_true, Bool.not_false, iop, ev, upd, dstUpd, binV, binI, unV, ptr, Heap.cell, Heap.write, cellsOf, put, args0, partL, List.getD_cons_zero, List.getD_cons_succ, List.length_cons, List.length_nil, List.set_cons_zero, List.set_cons_succ, List.getElem?_cons_zero, List.getElem?_cons_succ, reduceIte, Nat.reduceEqDiff, Nat.reduceAdd, Nat.reduceMul, Nat.reduceLeDiff, Nat.zero_add, Nat.add_zero, Option.map_some, Int.reduceEq, Int.reduceLT, Int.reduceLE, Bool.false_eq_true, decide_true, decide_false, ge_iff_le, gt_iff_lt, set_get', z1]; rfl) ?_)))
      show Wc T _ _ _
      refine Wc_cond true (by simp only [upd, dstUpd, args0, List.getD_cons_zero, List.getD_cons_succ, reduceIte, Nat.reduceEqDiff, ptr] <;> first | rfl | assumption | (symm; assumption)) (fun _ => ?_) (fun e => by cases e)
      refine Wc_seq (Wc_ops (Wo_run (fun call => by simp only [List.drop_succ_cons, List.drop_zero, iops_nil, iops_op, iops_grd, iK_some, iG_true, iG_false, gval_bool, beq_self_eq_true, beq_true, beq_false, Bool.not_true, Bool.not_false, iop, ev, upd, dstUpd, binV, binI, unV, ptr, Heap.cell, Heap.write, cellsOf, put, args0, partL, List.getD_cons_zero, List.getD_cons_succ, List.length_cons, List.length_nil, List.set_cons_zero, List.set_cons_succ, List.getElem?_cons_zero, List.getElem?_cons_succ, reduceIte, Nat.reduceEqDiff, Nat.reduceAdd, Nat.reduceMul, Nat.reduceLeDiff, Nat.zero_add, Nat.add_zero, Option.map_some, Int.reduceEq, Int.reduceLT, Int.reduceLE, Bool.false_eq_true, decide_true, decide_false, ge_iff_le, gt_iff_lt, set_get']; rfl) ?_))
      exact Wc_ret (no (by rw [pre_succ hc, hn]; simp only [wholeF, if_pos g1]) _ (by simp only [upd, dstUpd, args0, List.getD_cons_zero, List.getD_cons_succ, reduceIte, Nat.reduceEqDiff, ptr] <;> first | rfl | assumption | (symm; assumption)) (by simp only [upd, dstUpd, args0, List.getD_cons_zero, List.getD_cons_succ, reduceIte, Nat.reduceEqDiff, ptr] <;> first | rfl | assumption | (symm; assumption)))
    have z1 : figI 255 c.toNat < base := by omega
    have q1 := q1 g1
    have hf : 0 ≤ figI 255 c.toNat := by unfold figI; repeat' split; all_goals omega
    have hdiv : (9223372036854775807 - figI 255 c.toNat).tdiv base = (9223372036854775807 - figI 255 c.toNat) / base := Int.tdiv_eq_ediv_of_nonneg (by omega)
    have hq0 : 0 ≤ (9223372036854775807 - figI 255 c.toNat) / base := Int.ediv_nonneg (by omega) (by omega)
    have hq1 : (9223372036854775807 - figI 255 c.toNat) / base ≤ 9223372036854775807 - figI 255 c.toNat := Int.ediv_le_self _ (by omega)
    have q2 : IntKind.u64.wrap ((9223372036854775807 - figI 255 c.toNat) / base) = (9223372036854775807 - figI 255 c.toNat) / base := wrapU64 hq0 (by omega)
    have hb0 : ¬ base = 0 := by omega
    by_cases g2 : (9223372036854775807 - figI 255 c.toNat) / base < n
    · refine Wc_seq (Wc_seq (Wc_ops (Wo_run (fun call => by simp only [List.drop_succ_cons, List.drop_zero, iops_nil, iops_op, iops_grd, iK_some, iG_true, iG_false, gval_bool, beq_self_eq_true, beq_true, beq_false, Bool.not_true, Bool.not_false, iop, ev, upd, dstUpd, binV, binI, unV, ptr, Heap.cell, Heap.write, cellsOf, put, args0, partL, List.getD_cons_zero, List.getD_cons_succ, List.length_cons, List.length_nil, List.set_cons_zero, List.set_cons_succ, List.getElem?_cons_zero, List.getElem?_cons_succ, reduceIte, Nat.reduceEqDiff, Nat.reduceAdd, Nat.reduceMul, Nat.reduceLeDiff, Nat.zero_add, Nat.add_zero, Option.map_some, Int.reduceEq, Int.reduceLT, Int.reduceLE, Bool.false_eq_true, decide_true, decide_false, ge_iff_le, gt_iff_lt, set_get', z1, h5, e4, q1, hdiv, q2, hb0, g2]; rfl) ?_)))
      show Wc T _ _ _
      refine Wc_cond true (by simp only [upd, dstUpd, args0, List.getD_cons_zero, List.getD_cons_succ, reduceIte, Nat.reduceEqDiff, ptr] <;> first | rfl | assumption | (symm; assumption)) (fun _ => ?_) (fun e => by cases e)
      refine Wc_seq (Wc_ops (Wo_run (fun call => by simp only [List.drop_succ_cons, List.drop_zero, iops_nil, iops_op, iops_grd, iK_some, iG_true, iG_false, gval_bool, beq_self_eq_true, beq_true, beq_false, Bool.not_true, Bool.not_false, iop, ev, upd, dstUpd, binV, binI, unV, ptr, Heap.cell, Heap.write, cellsOf, put, args0, partL, List.getD_cons_zero, List.getD_cons_succ, List.length_cons, List.length_nil, List.set_cons_zero, List.set_cons_succ, List.getElem?_cons_zero, List.getElem?_cons_succ, reduceIte, Nat.reduceEqDiff, Nat.reduceAdd, Nat.reduceMul, Nat.reduceLeDiff, Nat.zero_add, Nat.add_zero, Option.map_some, Int.reduceEq, Int.reduceLT, Int.reduceLE, Bool.false_eq_true, decide_true, decide_false, ge_iff_le, gt_iff_lt, set_get']; rfl) ?_))
      exact Wc_ret (no (by rw [pre_succ hc, hn]; simp only [wholeF, if_neg g1, if_pos g2]) _ (by simp only [upd, dstUpd, args0, List.getD_cons_zero, List.getD_cons_succ, reduceIte, Nat.reduceEqDiff, ptr] <;> first | rfl | assumption | (symm; assumption)) (by simp only [upd, dstUpd, args0, List.getD_cons_zero, List.getD_cons_succ, reduceIte, Nat.reduceEqDiff, ptr] <;> first | rfl | assumption | (symm; assumption)))
    refine Wc_seq (Wc_seq (Wc_ops (Wo_run (fun call => by simp only [List.drop_succ_cons, List.drop_zero, iops_nil, iops_op, iops_grd, iK_some, iG_true, iG_false, gval_bool, beq_self_eq_true, beq_true, beq_false, Bool.not_true, Bool.not_false, iop, ev, upd, dstUpd, binV, binI, unV, ptr, Heap.cell, Heap.write, cellsOf, put, args0, partL, List.getD_cons_zero, List.getD_cons_succ, List.length_cons, List.length_nil, List.set_cons_zero, List.set_cons_succ, List.getElem?_cons_zero, List.getElem?_cons_succ, reduceIte, Nat.reduceEqDiff, Nat.reduceAdd, Nat.reduceMul, Nat.reduceLeDiff, Nat.zero_add, Nat.add_zero, Option.map_some, Int.reduceEq, Int.reduceLT, Int.reduceLE, Bool.false_eq_true, decide_true, decide_false, ge_iff_le, gt_iff_lt, set_get', z1, h5, e4, q1, hdiv, q2, hb0, g2]; rfl) ?_)))
    show Wc T _ _ _
    refine Wc_cond false (by simp only [upd, dstUpd, args0, List.getD_cons_zero, List.getD_cons_succ, reduceIte, Nat.reduceEqDiff, ptr] <;> first | rfl | assumption | (symm; assumption)) (fun e => by cases e) (fun _ => Wc_skip ?_)
    show Wc T _ _ _
    have hm := (Int.le_ediv_iff_mul_le hb).1 (show n ≤ (9223372036854775807 - figI 255 c.toNat) / base by omega)
    have hm0 : 0 ≤ n * base := Int.mul_nonneg hnr.1 (Int.le_of_lt hb)
    have q3 : IntKind.u64.wrap (n * base) = n * base := wrapU64 hm0 (by omega)
    have q4 : IntKind.u64.wrap (n * base + figI 255 c.toNat) = n * base + figI 255 c.toNat := wrapU64 (by omega) (by omega)
    refine Wc_ops (Wo_run (fun call => by simp only [List.drop_succ_cons, List.drop_zero, iops_nil, iops_op, iops_grd, iK_some, iG_true, iG_false, gval_bool, beq_self_eq_true, beq_true, beq_false, Bool.not_true, Bool.not_false, iop, ev, upd, dstUpd, binV, binI, unV, ptr, Heap.cell, Heap.write, cellsOf, put, args0, partL, List.getD_cons_zero, List.getD_cons_succ, List.length_cons, List.length_nil, List.set_cons_zero, List.set_cons_succ, List.getElem?_cons_zero, List.getElem?_cons_succ, reduceIte, Nat.reduceEqDiff, Nat.reduceAdd, Nat.reduceMul, Nat.reduceLeDiff, Nat.zero_add, Nat.add_zero, Option.map_some, Int.reduceEq, Int.reduceLT, Int.reduceLE, Bool.false_eq_true, decide_true, decide_false, ge_iff_le, gt_iff_lt, set_get', h5, e4, q3, q4]; rfl) ?_)
    refine ⟨rfl, rfl, n * base + figI 255 c.toNat, ?_, (by simp only [upd, dstUpd, args0, List.getD_cons_zero, List.getD_cons_succ, reduceIte, Nat.reduceEqDiff, ptr] <;> first | rfl | assumption | (symm; assumption))⟩
    rw [pre_succ hc, hn]
    simp only [wholeF, if_neg g1, if_neg g2]
  · rintro e h' d ⟨rfl, hh, n, hn, h5⟩ hfr h47
    rw [hh]
    have e0 : e 0 = .string s2 := (by rw [hfr 0 (by decide)]; try simp only [upd, dstUpd, args0, List.getD_cons_zero, List.getD_cons_succ, reduceIte, Nat.reduceEqDiff] <;> first | rfl | assumption | (symm; assumption))
    have hnr := wholeF_range hb (by omega) (by omega) hn
    rw [bs_size] at hn
    show Wc T _ _ _
    have hw : IntKind.i64.wrap n = n := wrap64 (by omega) (by omega)
    refine Wc_seq (Wc_ops (Wo_run (fun call => by simp only [List.drop_succ_cons, List.drop_zero, iops_nil, iops_op, iops_grd, iK_some, iG_true, iG_false, gval_bool, beq_self_eq_true, beq_true, beq_false, Bool.not_true, Bool.not_false, iop, ev, upd, dstUpd, binV, binI, unV, ptr, Heap.cell, Heap.write, cellsOf, put, args0, partL, List.getD_cons_zero, List.getD_cons_succ, List.length_cons, List.length_nil, List.set_cons_zero, List.set_cons_succ, List.getElem?_cons_zero, List.getElem?_cons_succ, reduceIte, Nat.reduceEqDiff, Nat.reduceAdd, Nat.reduceMul, Nat.reduceLeDiff, Nat.zero_add, Nat.add_zero, Option.map_some, Int.reduceEq, Int.reduceLT, Int.reduceLE, Bool.false_eq_true, decide_true, decide_false, ge_iff_le, gt_iff_lt, set_get', h5, e0, hw]; rfl) ?_))
    refine Wc_ret (fin _ n (!decide (s2 = ⟨#[]⟩)) (by simp only [upd, dstUpd, args0, List.getD_cons_zero, List.getD_cons_succ, reduceIte, Nat.reduceEqDiff, ptr] <;> first | rfl | assumption | (symm; assumption)) (by simp only [upd, dstUpd, args0, List.getD_cons_zero, List.getD_cons_succ, reduceIte, Nat.reduceEqDiff, ptr] <;> first | rfl | assumption | (symm; assumption)) ?_)
    rw [hnum2, whole_all hn]
    have : (!decide (s2 = ⟨#[]⟩)) = decide (bs s2 ≠ []) := by
      rw [← decide_not]
      congr 1
      refine propext ⟨fun hne he => hne (bs_inj he), fun hne he => hne (by rw [he]; rfl)⟩
    rw [this]

end Go.Idl
end
