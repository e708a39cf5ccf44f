/- slices.EqualFunc, at rows of any kind. -/
import Derived.Test.YtfdpknfndjllgaaI17
import Derived.Test.YtfdpknfndjllgaaFsm
namespace Go.Idl
set_option linter.unusedVariables false
set_option linter.unusedSimpArgs false

def CEqL (n : Nat) (z : List Value) : IC :=
  (.seq (.ops [⟨(some 18), .op (.bin .lss (.t 17) (.t 16)), none⟩])
  (.seq (.cond (.t 18)
    .skip
    (.exit 0))
  (.seq (.block 1
    (.seq (.ops [⟨(some 19), .op (.mov (.t 17)), none⟩,
      ⟨(some 20), .op (.iaddr (.sl n) (.t 15) (.t 17)), none⟩,
      ⟨(some 21), .op (.load (some n) (.t 20)), none⟩,
      ⟨(some 8), .op (.alloc z), none⟩,
      ⟨(some 7), .op (.mov (.t 19)), none⟩,
      ⟨none, .op (.store n (.t 8) (.t 21)), none⟩])
    (.seq (.ops [⟨(some 22), .op (.mov (.t 1)), none⟩,
      ⟨(some 23), .op (.mov (.t 7)), none⟩,
      ⟨(some 24), .op (.iaddr (.sl n) (.t 22) (.t 23)), none⟩,
      ⟨(some 25), .op (.load (some n) (.t 24)), none⟩,
      ⟨(some 9), .op (.alloc z), none⟩,
      ⟨none, .op (.store n (.t 9) (.t 25)), none⟩])
    (.seq (.ops [⟨(some 26), .op (.mov (.t 2)), none⟩,
      ⟨(some 27), .op (.load (some n) (.t 8)), none⟩,
      ⟨(some 28), .op (.load (some n) (.t 9)), none⟩,
      ⟨(some 29), .callv (.t 26) [(.t 27), (.t 28)], none⟩,
      ⟨(some 30), .op (.un .not (.t 29)), none⟩])
    (.cond (.t 30)
      (.seq (.ops [⟨(some 6), .op (.mov (.c (.bool false))), none⟩])
      .ret)
      .skip)))))
  (.ops [⟨(some 31), .op (.bin .add (.t 17) (.c (.int .i64 1))), none⟩,
    ⟨(some 17), .op (.mov (.t 31)), none⟩]))))
def CEq (n : Nat) (z : List Value) : IFn := ⟨32, (.seq (.ops [⟨(some 6), .op (.mov (.c (.bool false))), none⟩])
  (.seq (.seq (.ops [⟨(some 10), .op (.mov (.t 0)), none⟩,
    ⟨(some 11), .op (.len .sl (.t 10)), none⟩,
    ⟨(some 12), .op (.mov (.t 1)), none⟩,
    ⟨(some 13), .op (.len .sl (.t 12)), none⟩,
    ⟨(some 14), .op (.bin .neq (.t 11) (.t 13)), none⟩])
  (.cond (.t 14)
    (.seq (.ops [⟨(some 6), .op (.mov (.c (.bool false))), none⟩])
    .ret)
    .skip))
  (.seq (.seq (.ops [⟨(some 15), .op (.mov (.t 0)), none⟩,
    ⟨(some 16), .op (.len .sl (.t 15)), none⟩,
    ⟨(some 17), .op (.mov (.c (.int .i64 0))), none⟩])
  (.block 0
    (.loop (CEqL n z))))
  (.seq (.ops [⟨(some 6), .op (.mov (.c (.bool true))), none⟩])
  .ret)))), [.tmp 6]⟩

theorem C34_eq : C34 = CEq 6 [(.int .i64 0), (.int .i64 0), (.int .i64 0), (.int .i64 0), (.int .i64 0), (.slice none 0 0)] := rfl
theorem C32_eq : C32 = CEq 4 [(.string ⟨#[]⟩), (.int .i64 0), (.int .i64 0), (.slice none 0 0)] := rfl

def sameK {α κ : Type} [DecidableEq κ] (key : α → κ) (a b : List α) : Bool := decide (a.map key = b.map key)
theorem sameK_len {α κ : Type} [DecidableEq κ] {key : α → κ} {a b : List α} (h : a.length ≠ b.length) : sameK key a b = false := by
  simp only [sameK, decide_eq_false_iff_not]
  intro e
  have := congrArg List.length e
  simp at this; exact h this
theorem sameK_ne {α κ : Type} [DecidableEq κ] {key : α → κ} {a b : List α} {i : Nat} {x y : α} (hx : a[i]? = some x) (hy : b[i]? = some y) (h : key x ≠ key y) : sameK key a b = false := by
  simp only [sameK, decide_eq_false_iff_not]
  refine ne_of_at (i := i) (x := key x) (y := key y) (by simp [hx]) (by simp [hy]) h

theorem equalFunc {T : Tbl} {fE g : FuncId} {α κ : Type} [DecidableEq κ] {cells : α → List Value} {inner : Heap → α → Prop} {n : Nat} {z : List Value} (key : α → κ) (hT : T.fn fE = some (CEq n z)) (hn : ∀ x, (cells x).length = n) (hz : z.length = n)
    (hi : ∀ {h h' : Heap} {x : α}, Kept h h' → inner h x → inner h' x) {h : Heap} {va vb : Value} {a b : List α} (ha : rowsAt cells inner h va a) (hb : rowsAt cells inner h vb b) (hla : a.length < 4611686018427387904)
    (hge : ∀ (h : Heap) (x y : α), x ∈ a → y ∈ b → inner h x → inner h y → Wk T (.fn g) [.agg (cells x).toArray, .agg (cells y).toArray] h (fun o h' => Kept h h' ∧ o = .ret (.bool (decide (key x = key y))))) :
    Wk T (.fn fE) [va, vb, .func (.func g) #[] #[]] h (fun o h' => Kept h h' ∧ o = .ret (.bool (sameK key a b))) := by
  obtain ⟨p1, c1, h1⟩ := ha.len
  obtain ⟨p2, c2, h2⟩ := hb.len
  have fin : ∀ (e' : Env) (hp' : Heap) (r : Bool), Kept h hp' → sameK key a b = r → e' 6 = .bool r → (∃ vs, resAll e' hp' (CEq n z).res = some vs ∧ Kept h hp' ∧ Out.ret (tup vs) = .ret (.bool (sameK key a b))) := by
    intro e' hp' r hk hr h4
    exact ⟨[.bool r], by simp only [CEq, resAll, resV, h4], hk, by rw [hr]; rfl⟩
  refine Wk_fn hT (by simp [CEq]) ?_
  simp only [CEq]
  refine Wc_seq (Wc_ops (Wo_run (fun call => by simp only [List.drop_succ_cons, List.drop_zero, iops_nil, iops_op, iops_grd, iK_some, iG_true, iG_false, gval_bool, beq_true, beq_false, Bool.not_true, Bool.not_false, iop, ev, upd, dstUpd, binV, binI, unV, ptr, Heap.cell, Heap.write, cellsOf, put, args0, partL, List.getD_cons_zero, List.getD_cons_succ, List.length_cons, List.length_nil, List.set_cons_zero, List.set_cons_succ, List.getElem?_cons_zero, List.getElem?_cons_succ, reduceIte, Nat.reduceEqDiff, Nat.reduceAdd, Nat.reduceMul, Nat.reduceLeDiff, Nat.zero_add, Nat.add_zero, Option.map_some, Int.reduceEq, Int.reduceLT, Int.reduceLE, Bool.false_eq_true, decide_true, decide_false, ge_iff_le, gt_iff_lt, set_get']; rfl) ?_))
  show Wc T _ _ _
  refine Wc_seq (Wc_seq (Wc_ops (Wo_run (fun call => by simp only [List.drop_succ_cons, List.drop_zero, iops_nil, iops_op, iops_grd, iK_some, iG_true, iG_false, gval_bool, beq_true, beq_false, Bool.not_true, Bool.not_false, iop, ev, upd, dstUpd, binV, binI, unV, ptr, Heap.cell, Heap.write, cellsOf, put, args0, partL, List.getD_cons_zero, List.getD_cons_succ, List.length_cons, List.length_nil, List.set_cons_zero, List.set_cons_succ, List.getElem?_cons_zero, List.getElem?_cons_succ, reduceIte, Nat.reduceEqDiff, Nat.reduceAdd, Nat.reduceMul, Nat.reduceLeDiff, Nat.zero_add, Nat.add_zero, Option.map_some, Int.reduceEq, Int.reduceLT, Int.reduceLE, Bool.false_eq_true, decide_true, decide_false, ge_iff_le, gt_iff_lt, set_get', h1, h2]; rfl) ?_)))
  show Wc T _ _ _
  refine Wc_cond ((a.length : Int) != (b.length : Int)) (by simp [ev, upd]) (fun hne => ?_) (fun heq => Wc_skip ?_)
  · refine Wc_seq (Wc_ops (Wo_run (fun call => by simp only [List.drop_succ_cons, List.drop_zero, iops_nil, iops_op, iops_grd, iK_some, iG_true, iG_false, gval_bool, beq_true, beq_false, Bool.not_true, Bool.not_false, iop, ev, upd, dstUpd, binV, binI, unV, ptr, Heap.cell, Heap.write, cellsOf, put, args0, partL, List.getD_cons_zero, List.getD_cons_succ, List.length_cons, List.length_nil, List.set_cons_zero, List.set_cons_succ, List.getElem?_cons_zero, List.getElem?_cons_succ, reduceIte, Nat.reduceEqDiff, Nat.reduceAdd, Nat.reduceMul, Nat.reduceLeDiff, Nat.zero_add, Nat.add_zero, Option.map_some, Int.reduceEq, Int.reduceLT, Int.reduceLE, Bool.false_eq_true, decide_true, decide_false, ge_iff_le, gt_iff_lt, set_get']; rfl) ?_))
    refine Wc_ret ⟨.inr rfl, rfl, fin _ _ false (.refl h) (sameK_len (fun e => by rw [e] at hne; simp at hne)) (by simp [upd, dstUpd])⟩
  show Wc T _ _ _
  have hlen : a.length = b.length := by simp at heq; omega
  refine Wc_seq (Wc_seq (Wc_ops (Wo_run (fun call => by simp only [List.drop_succ_cons, List.drop_zero, iops_nil, iops_op, iops_grd, iK_some, iG_true, iG_false, gval_bool, beq_true, beq_false, Bool.not_true, Bool.not_false, iop, ev, upd, dstUpd, binV, binI, unV, ptr, Heap.cell, Heap.write, cellsOf, put, args0, partL, List.getD_cons_zero, List.getD_cons_succ, List.length_cons, List.length_nil, List.set_cons_zero, List.set_cons_succ, List.getElem?_cons_zero, List.getElem?_cons_succ, reduceIte, Nat.reduceEqDiff, Nat.reduceAdd, Nat.reduceMul, Nat.reduceLeDiff, Nat.zero_add, Nat.add_zero, Option.map_some, Int.reduceEq, Int.reduceLT, Int.reduceLE, Bool.false_eq_true, decide_true, decide_false, ge_iff_le, gt_iff_lt, set_get', h1]; rfl) ?_)))
  show Wc T _ _ _
  refine Wc_block (Wc_loop (fun s => s.d = some [] ∧ Kept h s.h ∧ s.e 15 = va ∧ s.e 1 = vb ∧ s.e 2 = .func (.func g) #[] #[] ∧ s.e 16 = .int .i64 a.length ∧ ∃ i : Nat, i ≤ a.length ∧ s.e 17 = .int .i64 i ∧ (a.take i).map key = (b.take i).map key)
    (fun s => match s.e 17 with | .int _ i => (a.length - i).toNat | _ => 0) ?_ ?_)
  · exact ⟨rfl, .refl h, by simp [upd, dstUpd, h1], by simp [upd, dstUpd, args0, h2], by simp [upd, dstUpd, args0], by simp [upd, dstUpd], 0, Nat.zero_le _, by simp [upd, dstUpd], rfl⟩
  rintro ⟨e, hp, d⟩ ⟨hd, hk, g15, g1, g2, g16, i, hii, g17, ht⟩
  simp only at hd hk g15 g1 g2 g16 g17
  subst hd
  rw [CEqL]
  refine Wc_seq (Wc_ops (Wo_run (fun call => by simp only [List.drop_succ_cons, List.drop_zero, iops_nil, iops_op, iops_grd, iK_some, iG_true, iG_false, gval_bool, beq_true, beq_false, Bool.not_true, Bool.not_false, iop, ev, upd, dstUpd, binV, binI, unV, ptr, Heap.cell, Heap.write, cellsOf, put, args0, partL, List.getD_cons_zero, List.getD_cons_succ, List.length_cons, List.length_nil, List.set_cons_zero, List.set_cons_succ, List.getElem?_cons_zero, List.getElem?_cons_succ, reduceIte, Nat.reduceEqDiff, Nat.reduceAdd, Nat.reduceMul, Nat.reduceLeDiff, Nat.zero_add, Nat.add_zero, Option.map_some, Int.reduceEq, Int.reduceLT, Int.reduceLE, Bool.false_eq_true, decide_true, decide_false, ge_iff_le, gt_iff_lt, set_get', g16, g17]; rfl) ?_))
  show Wc T _ _ _
  refine Wc_seq (Wc_cond (decide ((i : Int) < a.length)) (by simp [ev, upd]) (fun hlt => Wc_skip ?_) (fun hgt => Wc_exit ?_))
  case refine_2 =>
    show Wc T _ _ _
    have : i = a.length := by simp at hgt; omega
    subst this
    refine Wc_seq (Wc_ops (Wo_run (fun call => by simp only [List.drop_succ_cons, List.drop_zero, iops_nil, iops_op, iops_grd, iK_some, iG_true, iG_false, gval_bool, beq_true, beq_false, Bool.not_true, Bool.not_false, iop, ev, upd, dstUpd, binV, binI, unV, ptr, Heap.cell, Heap.write, cellsOf, put, args0, partL, List.getD_cons_zero, List.getD_cons_succ, List.length_cons, List.length_nil, List.set_cons_zero, List.set_cons_succ, List.getElem?_cons_zero, List.getElem?_cons_succ, reduceIte, Nat.reduceEqDiff, Nat.reduceAdd, Nat.reduceMul, Nat.reduceLeDiff, Nat.zero_add, Nat.add_zero, Option.map_some, Int.reduceEq, Int.reduceLT, Int.reduceLE, Bool.false_eq_true, decide_true, decide_false, ge_iff_le, gt_iff_lt, set_get']; rfl) ?_))
    refine Wc_ret ⟨.inr rfl, rfl, fin _ _ true hk ?_ (by simp [upd, dstUpd])⟩
    rw [List.take_length, hlen, List.take_length] at ht
    simp [sameK, ht]
  show Wc T _ _ _
  have hil : i < a.length := by simpa using hlt
  obtain ⟨x, hxi⟩ : ∃ x, a[i]? = some x := ⟨_, List.getElem?_eq_getElem hil⟩
  obtain ⟨y, hyi⟩ : ∃ y, b[i]? = some y := ⟨_, List.getElem?_eq_getElem (by omega)⟩
  have hil2 : i < b.length := by omega
  obtain ⟨bx, cx, hva, hbx, _, hcx, hxin⟩ := (rowsAt.keep (cells := cells) (inner := inner) hi hk ha).load hn hxi
  obtain ⟨by', cy, hvb, hby, _, hcy, hyin⟩ := (rowsAt.keep (cells := cells) (inner := inner) hi hk hb).load hn hyi
  have e1 : IntKind.i64.wrap ((i : Int) + 1) = ((i + 1 : Nat) : Int) := by rw [wrap64] <;> omega
  -- the copies
  refine Wc_seq (Wc_block (Wc_seq (Wc_ops ?_)))
  refine Wo_op rfl (Wo_op (iop_iaddr (b := bx) (len := a.length) (c := cx) (i := i) (by simp only [upd, dstUpd, reduceIte, Nat.reduceEqDiff, g15]; exact hva) (by simp only [upd, dstUpd, reduceIte, Nat.reduceEqDiff, g17]) hil) (Wo_op (iop_load (b := bx) (o := i * n) (cs := cells x) (by simp only [upd, dstUpd, reduceIte, Nat.reduceEqDiff]) hcx) (Wo_op rfl (Wo_op rfl (Wo_op (iop_store (b := hp.next) (esz := 0) (cs := cells x) (z := z) (by simp only [upd, dstUpd, reduceIte, Nat.reduceEqDiff]) (by simp only [upd, dstUpd, reduceIte, Nat.reduceEqDiff]) (hn x) (new_get' _ _) hz) (Wo_nil ?_))))))
  show Wc T _ _ _
  have hkA : Kept hp ((hp.new (.cells z true 0)).set hp.next (.cells (cells x) true 0)) := ((Kept.refl hp).new _).set (Nat.le_refl _) _
  have hgA : ((hp.new (.cells z true 0)).set hp.next (.cells (cells x) true 0)).get hp.next = some (.cells (cells x) true 0) := set_get' _ _ _
  have hnA : ((hp.new (.cells z true 0)).set hp.next (.cells (cells x) true 0)).next = hp.next + 1 := rfl
  generalize (hp.new (.cells z true 0)).set hp.next (.cells (cells x) true 0) = hpA at hkA hgA hnA ⊢
  have hcyA : hpA.cells by' (i * n) n = some (cells y) := by
    simp only [Heap.cells, hkA.get by' hby] at hcy ⊢
    exact hcy
  refine Wc_seq (Wc_ops ?_)
  refine Wo_op rfl (Wo_op rfl (Wo_op (iop_iaddr (b := by') (len := b.length) (c := cy) (i := i) (by simp only [upd, dstUpd, reduceIte, Nat.reduceEqDiff, ev, g1]; exact hvb) (by simp only [upd, dstUpd, reduceIte, Nat.reduceEqDiff, ev, g17]) hil2) (Wo_op (iop_load (b := by') (o := i * n) (cs := cells y) (by simp only [upd, dstUpd, reduceIte, Nat.reduceEqDiff]) hcyA) (Wo_op rfl (Wo_op (iop_store (b := hpA.next) (esz := 0) (cs := cells y) (z := z) (by simp only [upd, dstUpd, reduceIte, Nat.reduceEqDiff]) (by simp only [upd, dstUpd, reduceIte, Nat.reduceEqDiff]) (hn y) (new_get' _ _) hz) (Wo_nil ?_))))))
  show Wc T _ _ _
  have hkB : Kept hpA ((hpA.new (.cells z true 0)).set hpA.next (.cells (cells y) true 0)) := ((Kept.refl hpA).new _).set (Nat.le_refl _) _
  have hgB : ((hpA.new (.cells z true 0)).set hpA.next (.cells (cells y) true 0)).get hpA.next = some (.cells (cells y) true 0) := set_get' _ _ _
  have hgB2 : ((hpA.new (.cells z true 0)).set hpA.next (.cells (cells y) true 0)).get hp.next = some (.cells (cells x) true 0) := by rw [hkB.get _ (by omega)]; exact hgA
  generalize (hpA.new (.cells z true 0)).set hpA.next (.cells (cells y) true 0) = hpB at hkB hgB hgB2 ⊢
  have hkAB := hkA.trans hkB
  refine Wc_seq (Wc_ops ?_)
  refine Wo_op rfl (Wo_op (iop_load (b := hp.next) (o := 0) (cs := cells x) (by simp only [upd, dstUpd, reduceIte, Nat.reduceEqDiff, ptr]) (cells_all hgB2 (hn x))) (Wo_op (iop_load (b := hpA.next) (o := 0) (cs := cells y) (by simp only [upd, dstUpd, reduceIte, Nat.reduceEqDiff, ptr]) (cells_all hgB (hn y))) ?_))
  refine Wo_callv (c := .fn g) (vs := [.agg (cells x).toArray, .agg (cells y).toArray]) (by simp only [upd, dstUpd, reduceIte, Nat.reduceEqDiff, ev, List.map_cons, List.map_nil, g2]; rfl) ?_
  refine (hge hpB x y (List.mem_of_getElem? hxi) (List.mem_of_getElem? hyi) (hi hkAB hxin) (hi hkAB hyin)).mono fun o h3 ⟨hk3, ho3⟩ => ?_
  subst ho3
  show Wo T _ _ _
  have hk3' : Kept h h3 := (hk.trans hkAB).trans hk3
  refine (Wo_run (fun call => by simp only [List.drop_succ_cons, List.drop_zero, iops_nil, iops_op, iops_grd, iK_some, iG_true, iG_false, gval_bool, beq_true, beq_false, Bool.not_true, Bool.not_false, iop, ev, upd, dstUpd, binV, binI, unV, ptr, Heap.cell, Heap.write, cellsOf, put, args0, partL, List.getD_cons_zero, List.getD_cons_succ, List.length_cons, List.length_nil, List.set_cons_zero, List.set_cons_succ, List.getElem?_cons_zero, List.getElem?_cons_succ, reduceIte, Nat.reduceEqDiff, Nat.reduceAdd, Nat.reduceMul, Nat.reduceLeDiff, Nat.zero_add, Nat.add_zero, Option.map_some, Int.reduceEq, Int.reduceLT, Int.reduceLE, Bool.false_eq_true, decide_true, decide_false, ge_iff_le, gt_iff_lt, set_get']; rfl) ?_)
  show Wc T _ _ _
  refine Wc_cond (!decide (key x = key y)) (by simp [ev, upd]) (fun hne => ?_) (fun heq => Wc_skip ?_)
  · refine Wc_seq (Wc_ops (Wo_run (fun call => by simp only [List.drop_succ_cons, List.drop_zero, iops_nil, iops_op, iops_grd, iK_some, iG_true, iG_false, gval_bool, beq_true, beq_false, Bool.not_true, Bool.not_false, iop, ev, upd, dstUpd, binV, binI, unV, ptr, Heap.cell, Heap.write, cellsOf, put, args0, partL, List.getD_cons_zero, List.getD_cons_succ, List.length_cons, List.length_nil, List.set_cons_zero, List.set_cons_succ, List.getElem?_cons_zero, List.getElem?_cons_succ, reduceIte, Nat.reduceEqDiff, Nat.reduceAdd, Nat.reduceMul, Nat.reduceLeDiff, Nat.zero_add, Nat.add_zero, Option.map_some, Int.reduceEq, Int.reduceLT, Int.reduceLE, Bool.false_eq_true, decide_true, decide_false, ge_iff_le, gt_iff_lt, set_get']; rfl) ?_))
    exact Wc_ret ⟨.inr rfl, rfl, fin _ _ false hk3' (sameK_ne hxi hyi (by simpa using hne)) (by simp [upd, dstUpd])⟩
  show Wc T _ _ _
  refine Wc_ops (Wo_run (fun call => by simp only [List.drop_succ_cons, List.drop_zero, iops_nil, iops_op, iops_grd, iK_some, iG_true, iG_false, gval_bool, beq_true, beq_false, Bool.not_true, Bool.not_false, iop, ev, upd, dstUpd, binV, binI, unV, ptr, Heap.cell, Heap.write, cellsOf, put, args0, partL, List.getD_cons_zero, List.getD_cons_succ, List.length_cons, List.length_nil, List.set_cons_zero, List.set_cons_succ, List.getElem?_cons_zero, List.getElem?_cons_succ, reduceIte, Nat.reduceEqDiff, Nat.reduceAdd, Nat.reduceMul, Nat.reduceLeDiff, Nat.zero_add, Nat.add_zero, Option.map_some, Int.reduceEq, Int.reduceLT, Int.reduceLE, Bool.false_eq_true, decide_true, decide_false, ge_iff_le, gt_iff_lt, set_get', g17, e1]; rfl) ?_)
  refine ⟨⟨rfl, hk3', ?_, ?_, ?_, ?_, i + 1, by omega, ?_, ?_⟩, ?_⟩
  · simp only [upd, dstUpd, Nat.reduceEqDiff, reduceIte]; exact g15
  · simp only [upd, dstUpd, Nat.reduceEqDiff, reduceIte]; exact g1
  · simp only [upd, dstUpd, Nat.reduceEqDiff, reduceIte]; exact g2
  · simp only [upd, dstUpd, Nat.reduceEqDiff, reduceIte]; exact g16
  · simp only [upd, dstUpd, Nat.reduceEqDiff, reduceIte]
  · rw [List.map_take, List.map_take] at ht ⊢
    exact take_eq_succ ht (x := key x) (by simp [hxi]) (by simp [hyi]; exact (by simpa using heq : key x = key y).symm)
  · simp only [upd, dstUpd, Nat.reduceEqDiff, reduceIte, g17]; omega

end Go.Idl
