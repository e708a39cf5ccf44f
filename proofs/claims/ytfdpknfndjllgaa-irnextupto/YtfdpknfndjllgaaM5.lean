/- Functions and code as they come in. -/
import Derived.Test.YtfdpknfndjllgaaK2
import Derived.Test.YtfdpknfndjllgaaI21
section
/- What an instruction reads and writes: the reference; lists compared. -/
namespace Go.Idl
set_option linter.unusedVariables false
set_option linter.unusedSimpArgs false

theorem reads13 {T : Tbl} (hT : T.fn 13 = some C13) (hT28 : T.fn 28 = some C28) (h27 : ∀ {op : Int} {h : Heap} {K : Out → Heap → Prop}, K (.ret (.tuple (rowL op).toArray)) h → Wk T (.fn 27) [.int .i64 op] h K)
    (x : Ins) (h : Heap) (hx : intsAt h x.lv x.l) (hl : x.l.length ≤ 1000) : Wk T (.fn 13) [x.val] h (fun o h' => Kept h h' ∧ ∃ v, o = .ret v ∧ intsAt h' v (readsOf x)) := by
  refine Wk_fn hT (by simp [C13]) ?_
  simp only [C13]
  have hb : iop (.box (.t 0)) (args0 [x.val]) h = some (ptr h.next 0, h.new (.cells x.cells true 0)) := by simp [iop, ev, args0, Ins.val, cellsOf]
  refine Wc_seq (Wc_ops (Wo_op hb (Wo_run (fun call => by simp only [List.drop_succ_cons, List.drop_zero, iops_nil, iops_op, iops_grd, iK_some, iG_true, iG_false, gval_bool, beq_true, beq_false, Bool.not_true, Bool.not_false, iop, ev, upd, dstUpd, binV, binI, unV, ptr, Heap.cell, Heap.write, cellsOf, put, args0, partL, List.getD_cons_zero, List.getD_cons_succ, List.length_cons, List.length_nil, List.set_cons_zero, List.set_cons_succ, List.getElem?_cons_zero, List.getElem?_cons_succ, reduceIte, Nat.reduceEqDiff, Nat.reduceAdd, Nat.reduceMul, Nat.reduceLeDiff, Nat.zero_add, Nat.add_zero, Option.map_some, Int.reduceEq, Int.reduceLT, Int.reduceLE, Bool.false_eq_true, decide_true, decide_false, ge_iff_le, gt_iff_lt, set_get']; rfl) ?_)))
  show Wc T _ _ _
  have hg : (h.new (.cells x.cells true 0)).get h.next = some (.cells x.cells true 0) := new_get' _ _
  have hk : Kept h (h.new (.cells x.cells true 0)) := (Kept.refl h).new _
  have hn1 : (h.new (.cells x.cells true 0)).next = h.next + 1 := rfl
  generalize h.new (.cells x.cells true 0) = h1 at hg hk hn1 ⊢
  obtain ⟨hr3, hasc⟩ := rd_ok x
  have hrd : strB (rowAt x.op).2.2.1 = .string ⟨(rd x).toArray⟩ := rfl
  have hsz : (⟨(rd x).toArray⟩ : ByteArray).size = (rd x).length := by simp [ByteArray.size]
  refine Wc_seq (Wc_ops (Wo_pre 2 (fun call => by simp only [List.take_succ_cons, List.take_zero, List.drop_succ_cons, List.drop_zero, iops_nil, iops_op, iops_grd, iK_some, iG_true, iG_false, gval_bool, beq_true, beq_false, Bool.not_true, Bool.not_false, iop, ev, upd, dstUpd, binV, binI, unV, ptr, Heap.cell, Heap.write, cellsOf, put, args0, partL, List.getD_cons_zero, List.getD_cons_succ, List.length_cons, List.length_nil, List.set_cons_zero, List.set_cons_succ, List.getElem?_cons_zero, List.getElem?_cons_succ, reduceIte, Nat.reduceEqDiff, Nat.reduceAdd, Nat.reduceMul, Nat.reduceLeDiff, Nat.zero_add, Nat.add_zero, Option.map_some, Int.reduceEq, Int.reduceLT, Int.reduceLE, Bool.false_eq_true, decide_true, decide_false, ge_iff_le, gt_iff_lt, set_get', hg, Ins.cells]; rfl) ?_))
  refine Wo_call (h27 ?_)
  show Wo T _ _ _
  refine (Wo_run (fun call => by simp only [List.drop_succ_cons, List.drop_zero, iops_nil, iops_op, iops_grd, iK_some, iG_true, iG_false, gval_bool, beq_true, beq_false, Bool.not_true, Bool.not_false, iop, ev, upd, dstUpd, binV, binI, unV, ptr, Heap.cell, Heap.write, cellsOf, put, args0, partL, List.getD_cons_zero, List.getD_cons_succ, List.length_cons, List.length_nil, List.set_cons_zero, List.set_cons_succ, List.getElem?_cons_zero, List.getElem?_cons_succ, reduceIte, Nat.reduceEqDiff, Nat.reduceAdd, Nat.reduceMul, Nat.reduceLeDiff, Nat.zero_add, Nat.add_zero, Option.map_some, Int.reduceEq, Int.reduceLT, Int.reduceLE, Bool.false_eq_true, decide_true, decide_false, ge_iff_le, gt_iff_lt, set_get', rowL, hrd]; rfl) ?_)
  show Wc T _ _ _
  refine Wc_seq (Wc_ops (Wo_run (fun call => by simp only [List.drop_succ_cons, List.drop_zero, iops_nil, iops_op, iops_grd, iK_some, iG_true, iG_false, gval_bool, beq_true, beq_false, Bool.not_true, Bool.not_false, iop, ev, upd, dstUpd, binV, binI, unV, ptr, Heap.cell, Heap.write, cellsOf, put, args0, partL, List.getD_cons_zero, List.getD_cons_succ, List.length_cons, List.length_nil, List.set_cons_zero, List.set_cons_succ, List.getElem?_cons_zero, List.getElem?_cons_succ, reduceIte, Nat.reduceEqDiff, Nat.reduceAdd, Nat.reduceMul, Nat.reduceLeDiff, Nat.zero_add, Nat.add_zero, Option.map_some, Int.reduceEq, Int.reduceLT, Int.reduceLE, Bool.false_eq_true, decide_true, decide_false, ge_iff_le, gt_iff_lt, set_get']; rfl) ?_))
  show Wc T _ _ _
  refine Wc_seq (Wc_seq (Wc_ops (Wo_run (fun call => by simp only [List.drop_succ_cons, List.drop_zero, iops_nil, iops_op, iops_grd, iK_some, iG_true, iG_false, gval_bool, beq_true, beq_false, Bool.not_true, Bool.not_false, iop, ev, upd, dstUpd, binV, binI, unV, ptr, Heap.cell, Heap.write, cellsOf, put, args0, partL, List.getD_cons_zero, List.getD_cons_succ, List.length_cons, List.length_nil, List.set_cons_zero, List.set_cons_succ, List.getElem?_cons_zero, List.getElem?_cons_succ, reduceIte, Nat.reduceEqDiff, Nat.reduceAdd, Nat.reduceMul, Nat.reduceLeDiff, Nat.zero_add, Nat.add_zero, Option.map_some, Int.reduceEq, Int.reduceLT, Int.reduceLE, Bool.false_eq_true, decide_true, decide_false, ge_iff_le, gt_iff_lt, set_get']; rfl) ?_)))
  show Wc T _ _ _
  refine Wc_block (Wc_loop (fun s => s.d = some [] ∧ Kept h s.h ∧ h.next + 1 ≤ s.h.next ∧ s.e 1 = ptr h.next 0 ∧ s.e 5 = .string ⟨(rd x).toArray⟩ ∧ s.h.get h.next = some (.cells x.cells true 0) ∧
      ∃ (k : Nat) (v : Value), k ≤ (rd x).length ∧ s.e 8 = .int .i64 k ∧ s.e 7 = v ∧ ownI (h.next + 1) s.h v (((rd x).take k).flatMap (lets x)))
    (fun s => match s.e 8 with | .int _ k => ((rd x).length - k).toNat | _ => 0) ?_ ?_)
  · refine ⟨rfl, hk, Nat.le_of_eq hn1.symm, by simp [upd, dstUpd, ptr], by simp [upd, dstUpd], hg, 0, .slice none 0 0, Nat.zero_le _, by simp [upd, dstUpd], by simp [upd, dstUpd], .inl ⟨by simp, rfl⟩⟩
  rintro ⟨e, hp, d⟩ ⟨hd, hkp, hnp, g1, g5, gb, k, v, hkl, g8, g7, ho⟩
  simp only at hd hkp hnp g1 g5 gb g8 g7 ho
  subst hd
  rw [C13L0]
  refine Wc_seq (Wc_seq (Wc_ops (Wo_run (fun call => by simp only [List.drop_succ_cons, List.drop_zero, iops_nil, iops_op, iops_grd, iK_some, iG_true, iG_false, gval_bool, beq_true, beq_false, Bool.not_true, Bool.not_false, iop, ev, upd, dstUpd, binV, binI, unV, ptr, Heap.cell, Heap.write, cellsOf, put, args0, partL, List.getD_cons_zero, List.getD_cons_succ, List.length_cons, List.length_nil, List.set_cons_zero, List.set_cons_succ, List.getElem?_cons_zero, List.getElem?_cons_succ, reduceIte, Nat.reduceEqDiff, Nat.reduceAdd, Nat.reduceMul, Nat.reduceLeDiff, Nat.zero_add, Nat.add_zero, Option.map_some, Int.reduceEq, Int.reduceLT, Int.reduceLE, Bool.false_eq_true, decide_true, decide_false, ge_iff_le, gt_iff_lt, set_get', g8, g5, hsz]; rfl) ?_)))
  show Wc T _ _ _
  refine Wc_cond (decide ((k : Int) < (rd x).length)) (by simp [ev, upd]) (fun hlt => Wc_skip ?_) (fun hge => Wc_exit ?_)
  case refine_2 =>
    show Wc T _ _ _
    have hkk : k = (rd x).length := by simp at hge; omega
    refine Wc_seq (Wc_ops (Wo_run (fun call => by simp only [List.drop_succ_cons, List.drop_zero, iops_nil, iops_op, iops_grd, iK_some, iG_true, iG_false, gval_bool, beq_true, beq_false, Bool.not_true, Bool.not_false, iop, ev, upd, dstUpd, binV, binI, unV, ptr, Heap.cell, Heap.write, cellsOf, put, args0, partL, List.getD_cons_zero, List.getD_cons_succ, List.length_cons, List.length_nil, List.set_cons_zero, List.set_cons_succ, List.getElem?_cons_zero, List.getElem?_cons_succ, reduceIte, Nat.reduceEqDiff, Nat.reduceAdd, Nat.reduceMul, Nat.reduceLeDiff, Nat.zero_add, Nat.add_zero, Option.map_some, Int.reduceEq, Int.reduceLT, Int.reduceLE, Bool.false_eq_true, decide_true, decide_false, ge_iff_le, gt_iff_lt, set_get', g7]; rfl) ?_))
    refine Wc_ret ⟨.inr rfl, rfl, [v], by simp only [resAll, resV, upd, dstUpd, Nat.reduceEqDiff, reduceIte], hkp, v, rfl, ?_⟩
    rw [hkk, List.take_length] at ho
    exact ho.ints
  show Wc T _ _ _
  have hend : k < (rd x).length := by simpa using hlt
  obtain ⟨c, hc⟩ : ∃ c, (rd x)[k]? = some c := ⟨_, List.getElem?_eq_getElem hend⟩
  have hca := hasc c (List.mem_of_getElem? hc)
  have hat : (⟨(rd x).toArray⟩ : ByteArray).data.toList[k]? = some c := by simpa using hc
  have hidx : idxV (⟨(rd x).toArray⟩ : ByteArray).size (.int .i64 k) = some k := by rw [hsz]; exact idx_ok hend
  have e1 : IntKind.i64.wrap ((k : Int) + 1) = ((k + 1 : Nat) : Int) := by rw [wrap64] <;> omega
  have hlen : (((rd x).take k).flatMap (lets x)).length ≤ 3003 := by
    have h1 := flatMap_len (n := 1001) ((rd x).take k) (f := lets x) (fun c => by unfold lets; split; exact Nat.le_succ_of_le hl; exact Nat.succ_le_succ (Nat.zero_le _))
    have h2 : ((rd x).take k).length ≤ 3 := by rw [List.length_take]; omega
    omega
  refine Wc_seq (Wc_block (Wc_seq (Wc_ops (Wo_run (fun call => by simp only [List.drop_succ_cons, List.drop_zero, iops_nil, iops_op, iops_grd, iK_some, iG_true, iG_false, gval_bool, beq_true, beq_false, Bool.not_true, Bool.not_false, iop, ev, upd, dstUpd, binV, binI, unV, ptr, Heap.cell, Heap.write, cellsOf, put, args0, partL, List.getD_cons_zero, List.getD_cons_succ, List.length_cons, List.length_nil, List.set_cons_zero, List.set_cons_succ, List.getElem?_cons_zero, List.getElem?_cons_succ, reduceIte, Nat.reduceEqDiff, Nat.reduceAdd, Nat.reduceMul, Nat.reduceLeDiff, Nat.zero_add, Nat.add_zero, Option.map_some, Int.reduceEq, Int.reduceLT, Int.reduceLE, Bool.false_eq_true, decide_true, decide_false, ge_iff_le, gt_iff_lt, set_get', g5, g8, hidx, hat]; rfl) ?_))))
  show Wc T _ _ _
  have more : ∀ (e' : Env) (h4 : Heap) (v' : Value), e' 1 = ptr h.next 0 → e' 5 = .string ⟨(rd x).toArray⟩ → e' 7 = v' → e' 8 = .int .i64 k → Beside v hp h4 → ownI (h.next + 1) h4 v' (((rd x).take k).flatMap (lets x) ++ lets x c) →
      Wc T (.ops [⟨(some 21), .op (.mov (.t 8)), none⟩, ⟨(some 22), .op (.bin .add (.t 21) (.c (.int .i64 1))), none⟩, ⟨(some 8), .op (.mov (.t 22)), none⟩]) ⟨e', h4, some []⟩ (fun x_1 s' => match x_1 with
        | .normal => (s'.d = some [] ∧ Kept h s'.h ∧ h.next + 1 ≤ s'.h.next ∧ s'.e 1 = ptr h.next 0 ∧ s'.e 5 = .string ⟨(rd x).toArray⟩ ∧ s'.h.get h.next = some (.cells x.cells true 0) ∧
          ∃ (k : Nat) (v : Value), k ≤ (rd x).length ∧ s'.e 8 = .int .i64 k ∧ s'.e 7 = v ∧ ownI (h.next + 1) s'.h v (((rd x).take k).flatMap (lets x))) ∧
          (match s'.e 8 with | .int _ k => ((rd x).length - k).toNat | _ => 0) < (match e 8 with | .int _ k => ((rd x).length - k).toNat | _ => 0)
        | x_1 => Tb 0 (Tn T (.seq (.ops [⟨(some 39), .op (.mov (.t 7)), none⟩, ⟨(some 2), .op (.mov (.t 39)), none⟩]) .ret) (fun x_1 s => (x_1 = .normal ∨ x_1 = .ret) ∧ s.d = some [] ∧ ∃ vs, resAll s.e s.h [.tmp 2] = some vs ∧ Kept h s.h ∧ ∃ v, Out.ret (tup vs) = .ret v ∧ intsAt s.h v (readsOf x))) x_1 s') := by
    intro e' h4 v' f1 f5 f7 f8 hbs hown
    refine Wc_ops (Wo_run (fun call => by simp only [List.drop_succ_cons, List.drop_zero, iops_nil, iops_op, iops_grd, iK_some, iG_true, iG_false, gval_bool, beq_true, beq_false, Bool.not_true, Bool.not_false, iop, ev, upd, dstUpd, binV, binI, unV, ptr, Heap.cell, Heap.write, cellsOf, put, args0, partL, List.getD_cons_zero, List.getD_cons_succ, List.length_cons, List.length_nil, List.set_cons_zero, List.set_cons_succ, List.getElem?_cons_zero, List.getElem?_cons_succ, reduceIte, Nat.reduceEqDiff, Nat.reduceAdd, Nat.reduceMul, Nat.reduceLeDiff, Nat.zero_add, Nat.add_zero, Option.map_some, Int.reduceEq, Int.reduceLT, Int.reduceLE, Bool.false_eq_true, decide_true, decide_false, ge_iff_le, gt_iff_lt, set_get', f8, e1]; rfl) ?_)
    refine ⟨⟨rfl, hbs.kept ho (by omega) hkp, Nat.le_trans hnp hbs.next, by simp [upd, f1], by simp [upd, f5], by rw [hbs.at ho (by omega) (by omega)]; exact gb, k + 1, v', by omega, by simp [upd], by simp [upd, f7], by rw [take_flat (lets x) hc]; exact hown⟩, ?_⟩
    simp only [upd, reduceIte, g8]
    show (((rd x).length : Int) - ((k + 1 : Nat) : Int)).toNat < (((rd x).length : Int) - (k : Int)).toNat
    omega
  by_cases h76 : c = 76
  · subst h76
    refine Wc_cond true (by simp [ev, upd]) (fun _ => ?_) (fun h => by cases h)
    obtain ⟨v', h4, ha, hbs, hown, _⟩ := append_own ho hnp (hx.keep hkp).elems (by omega)
    refine Wc_ops (Wo_run (fun call => by simp only [List.drop_succ_cons, List.drop_zero, iops_nil, iops_op, iops_grd, iK_some, iG_true, iG_false, gval_bool, beq_true, beq_false, Bool.not_true, Bool.not_false, iop, ev, upd, dstUpd, binV, binI, unV, ptr, Heap.cell, Heap.write, cellsOf, put, args0, partL, List.getD_cons_zero, List.getD_cons_succ, List.length_cons, List.length_nil, List.set_cons_zero, List.set_cons_succ, List.getElem?_cons_zero, List.getElem?_cons_succ, reduceIte, Nat.reduceEqDiff, Nat.reduceAdd, Nat.reduceMul, Nat.reduceLeDiff, Nat.zero_add, Nat.add_zero, Option.map_some, Int.reduceEq, Int.reduceLT, Int.reduceLE, Bool.false_eq_true, decide_true, decide_false, ge_iff_le, gt_iff_lt, set_get', g7, g1, gb, Ins.cells, ha]; rfl) ?_)
    exact more _ _ v' (by simp [upd, dstUpd, g1]) (by simp [upd, dstUpd, g5]) (by simp [upd, dstUpd]) (by simp [upd, dstUpd, g8]) hbs (by simpa [lets] using hown)
  · have hne : ((c.toNat : Int) == 76) = false := by
      simp only [beq_eq_false_iff_ne, ne_eq]
      intro e
      apply h76
      apply UInt8.toNat_inj.1
      show c.toNat = 76
      omega
    refine Wc_cond false (by simp [ev, upd, hne]) (fun h => by cases h) (fun _ => ?_)
    have hload : hp.cells h.next 0 6 = some x.cells := by
      simp only [Heap.cells, gb]
      rfl
    refine Wc_draw_still (by decide) (Wo_pre 5 (fun call => by simp only [List.take_succ_cons, List.take_zero, List.drop_succ_cons, List.drop_zero, iops_nil, iops_op, iops_grd, iK_some, iG_true, iG_false, gval_bool, beq_true, beq_false, Bool.not_true, Bool.not_false, iop, ev, upd, dstUpd, binV, binI, unV, ptr, Heap.cell, Heap.write, cellsOf, put, args0, partL, List.getD_cons_zero, List.getD_cons_succ, List.length_cons, List.length_nil, List.set_cons_zero, List.set_cons_succ, List.getElem?_cons_zero, List.getElem?_cons_succ, reduceIte, Nat.reduceEqDiff, Nat.reduceAdd, Nat.reduceMul, Nat.reduceLeDiff, Nat.zero_add, Nat.add_zero, Option.map_some, Int.reduceEq, Int.reduceLT, Int.reduceLE, Bool.false_eq_true, decide_true, decide_false, ge_iff_le, gt_iff_lt, set_get', g7, g1, g5, g8, hload, hidx, hat]; rfl) ?_)
    refine Wo_call ?_
    show Wk T (.fn 28) [x.val, .int .u8 c.toNat] hp _
    refine (field28 hT28 x c.toNat hp).mono fun o h4 ⟨hk4, ho4⟩ => ?_
    subst ho4
    show Wo T _ _ _
    have ho4 : ownI (h.next + 1) h4 v (((rd x).take k).flatMap (lets x)) := ho.keep hk4.next (fun b h1 h2 => hk4.get b h2)
    have ho5 : ownI (h.next + 1) (h4.new (.cells [.int .i64 (fld x c.toNat)] true 1)) v (((rd x).take k).flatMap (lets x)) := ho4.keep (Nat.le_succ _) (fun b h1 h2 => new_get_ne' _ _ (Nat.ne_of_lt h2))
    have hel : elemsOf (h4.new (.cells [.int .i64 (fld x c.toNat)] true 1)) 1 (.slice (some ⟨h4.next, 0, none⟩) 1 1) = some ([fld x c.toNat].length, ints64 [fld x c.toNat]) := by
      simp [elemsOf, Heap.cells, new_get', ints64]
    obtain ⟨v', h5, ha, hbs, hown, _⟩ := append_own ho5 (by rw [new_next]; have := hk4.next; omega) hel (by rw [List.length_singleton]; omega)
    refine Wo_op rfl ?_
    refine (Wo_run (fun call => by simp only [List.drop_succ_cons, List.drop_zero, iops_nil, iops_op, iops_grd, iK_some, iG_true, iG_false, gval_bool, beq_true, beq_false, Bool.not_true, Bool.not_false, iop, ev, upd, dstUpd, binV, binI, unV, ptr, Heap.cell, Heap.write, cellsOf, put, args0, partL, List.getD_cons_zero, List.getD_cons_succ, List.length_cons, List.length_nil, List.set_cons_zero, List.set_cons_succ, List.getElem?_cons_zero, List.getElem?_cons_succ, reduceIte, Nat.reduceEqDiff, Nat.reduceAdd, Nat.reduceMul, Nat.reduceLeDiff, Nat.zero_add, Nat.add_zero, Option.map_some, Int.reduceEq, Int.reduceLT, Int.reduceLE, Bool.false_eq_true, decide_true, decide_false, ge_iff_le, gt_iff_lt, set_get', g7, ha]; rfl) ?_)
    refine ⟨rfl, more _ _ v' (by simp [upd, dstUpd, g1]) (by simp [upd, dstUpd, g5]) (by simp [upd, dstUpd]) (by simp [upd, dstUpd, g8]) ⟨?_, fun b h1 h2 => ?_⟩ (by simpa [lets, h76] using hown)⟩
    · show hp.next ≤ h5.next
      have := hk4.next; have := hbs.next; rw [new_next] at this; omega
    · have := hk4.next
      rw [hbs.get b (by rw [new_next]; omega) h2, new_get_ne' _ _ (by omega), hk4.get b h1]

def writesOf (x : Ins) : Int := if (rowAt x.op).2.2.2 = [] then -1 else x.a

theorem str_empty (l : List UInt8) : decide ((⟨l.toArray⟩ : ByteArray) = ⟨#[]⟩) = decide (l = []) := by
  rw [decide_eq_decide]
  constructor
  · intro h
    have := congrArg (fun b : ByteArray => b.data.toList) h
    simpa using this
  · rintro rfl; rfl

theorem writes14 {T : Tbl} (hT : T.fn 14 = some C14) (h25 : ∀ {op : Int} {h : Heap} {K : Out → Heap → Prop}, K (.ret (.agg (rowL op).toArray)) h → Wk T (.fn 25) [.int .i64 op] h K)
    (x : Ins) (h : Heap) : Wk T (.fn 14) [x.val] h (fun o h' => Kept h h' ∧ o = .ret (.int .i64 (writesOf x))) := by
  refine Wk_fn hT (by simp [C14]) ?_
  simp only [C14]
  have hb : iop (.box (.t 0)) (args0 [x.val]) h = some (ptr h.next 0, h.new (.cells x.cells true 0)) := by simp [iop, ev, args0, Ins.val, cellsOf]
  refine Wc_seq (Wc_ops (Wo_op hb (Wo_run (fun call => by simp only [List.drop_succ_cons, List.drop_zero, iops_nil, iops_op, iops_grd, iK_some, iG_true, iG_false, gval_bool, beq_true, beq_false, Bool.not_true, Bool.not_false, iop, ev, upd, dstUpd, binV, binI, unV, ptr, Heap.cell, Heap.write, cellsOf, put, args0, partL, List.getD_cons_zero, List.getD_cons_succ, List.length_cons, List.length_nil, List.set_cons_zero, List.set_cons_succ, List.getElem?_cons_zero, List.getElem?_cons_succ, reduceIte, Nat.reduceEqDiff, Nat.reduceAdd, Nat.reduceMul, Nat.reduceLeDiff, Nat.zero_add, Nat.add_zero, Option.map_some, Int.reduceEq, Int.reduceLT, Int.reduceLE, Bool.false_eq_true, decide_true, decide_false, ge_iff_le, gt_iff_lt, set_get']; rfl) ?_)))
  show Wc T _ _ _
  have hg : (h.new (.cells x.cells true 0)).get h.next = some (.cells x.cells true 0) := new_get' _ _
  have hk : Kept h (h.new (.cells x.cells true 0)) := (Kept.refl h).new _
  generalize h.new (.cells x.cells true 0) = h1 at hg hk ⊢
  refine Wc_seq (Wc_seq (Wc_ops (Wo_pre 2 (fun call => by simp only [List.take_succ_cons, List.take_zero, List.drop_succ_cons, List.drop_zero, iops_nil, iops_op, iops_grd, iK_some, iG_true, iG_false, gval_bool, beq_true, beq_false, Bool.not_true, Bool.not_false, iop, ev, upd, dstUpd, binV, binI, unV, ptr, Heap.cell, Heap.write, cellsOf, put, args0, partL, List.getD_cons_zero, List.getD_cons_succ, List.length_cons, List.length_nil, List.set_cons_zero, List.set_cons_succ, List.getElem?_cons_zero, List.getElem?_cons_succ, reduceIte, Nat.reduceEqDiff, Nat.reduceAdd, Nat.reduceMul, Nat.reduceLeDiff, Nat.zero_add, Nat.add_zero, Option.map_some, Int.reduceEq, Int.reduceLT, Int.reduceLE, Bool.false_eq_true, decide_true, decide_false, ge_iff_le, gt_iff_lt, set_get', hg, Ins.cells]; rfl) ?_)))
  refine Wo_call (h25 ?_)
  show Wo T _ _ _
  refine (Wo_run (fun call => by simp only [List.drop_succ_cons, List.drop_zero, iops_nil, iops_op, iops_grd, iK_some, iG_true, iG_false, gval_bool, beq_true, beq_false, Bool.not_true, Bool.not_false, iop, ev, upd, dstUpd, binV, binI, unV, ptr, Heap.cell, Heap.write, cellsOf, put, args0, partL, List.getD_cons_zero, List.getD_cons_succ, List.length_cons, List.length_nil, List.set_cons_zero, List.set_cons_succ, List.getElem?_cons_zero, List.getElem?_cons_succ, reduceIte, Nat.reduceEqDiff, Nat.reduceAdd, Nat.reduceMul, Nat.reduceLeDiff, Nat.zero_add, Nat.add_zero, Option.map_some, Int.reduceEq, Int.reduceLT, Int.reduceLE, Bool.false_eq_true, decide_true, decide_false, ge_iff_le, gt_iff_lt, set_get', rowL, strB, str_empty]; rfl) ?_)
  show Wc T _ _ _
  refine Wc_cond (decide ((rowAt x.op).2.2.2 = [])) (by simp [ev, upd]) (fun he => ?_) (fun hne => Wc_skip ?_)
  · refine Wc_seq (Wc_ops (Wo_run (fun call => by simp only [List.drop_succ_cons, List.drop_zero, iops_nil, iops_op, iops_grd, iK_some, iG_true, iG_false, gval_bool, beq_true, beq_false, Bool.not_true, Bool.not_false, iop, ev, upd, dstUpd, binV, binI, unV, ptr, Heap.cell, Heap.write, cellsOf, put, args0, partL, List.getD_cons_zero, List.getD_cons_succ, List.length_cons, List.length_nil, List.set_cons_zero, List.set_cons_succ, List.getElem?_cons_zero, List.getElem?_cons_succ, reduceIte, Nat.reduceEqDiff, Nat.reduceAdd, Nat.reduceMul, Nat.reduceLeDiff, Nat.zero_add, Nat.add_zero, Option.map_some, Int.reduceEq, Int.reduceLT, Int.reduceLE, Bool.false_eq_true, decide_true, decide_false, ge_iff_le, gt_iff_lt, set_get']; rfl) ?_))
    refine Wc_ret ⟨.inr rfl, rfl, [.int .i64 (-1)], by simp [resAll, resV, upd, dstUpd], hk, ?_⟩
    have : (rowAt x.op).2.2.2 = [] := by simpa using he
    simp [writesOf, this, tup]
  · show Wc T _ _ _
    refine Wc_seq (Wc_ops (Wo_run (fun call => by simp only [List.drop_succ_cons, List.drop_zero, iops_nil, iops_op, iops_grd, iK_some, iG_true, iG_false, gval_bool, beq_true, beq_false, Bool.not_true, Bool.not_false, iop, ev, upd, dstUpd, binV, binI, unV, ptr, Heap.cell, Heap.write, cellsOf, put, args0, partL, List.getD_cons_zero, List.getD_cons_succ, List.length_cons, List.length_nil, List.set_cons_zero, List.set_cons_succ, List.getElem?_cons_zero, List.getElem?_cons_succ, reduceIte, Nat.reduceEqDiff, Nat.reduceAdd, Nat.reduceMul, Nat.reduceLeDiff, Nat.zero_add, Nat.add_zero, Option.map_some, Int.reduceEq, Int.reduceLT, Int.reduceLE, Bool.false_eq_true, decide_true, decide_false, ge_iff_le, gt_iff_lt, set_get', hg, Ins.cells]; rfl) ?_))
    refine Wc_ret ⟨.inr rfl, rfl, [.int .i64 x.a], by simp [resAll, resV, upd, dstUpd], hk, ?_⟩
    have : ¬ (rowAt x.op).2.2.2 = [] := by simpa using hne
    simp [writesOf, this, tup]

theorem writes15 {T : Tbl} (hT : T.fn 15 = some C15) (h27 : ∀ {op : Int} {h : Heap} {K : Out → Heap → Prop}, K (.ret (.tuple (rowL op).toArray)) h → Wk T (.fn 27) [.int .i64 op] h K)
    (x : Ins) (h : Heap) : Wk T (.fn 15) [x.val] h (fun o h' => Kept h h' ∧ o = .ret (.int .i64 (writesOf x))) := by
  refine Wk_fn hT (by simp [C15]) ?_
  simp only [C15]
  have hb : iop (.box (.t 0)) (args0 [x.val]) h = some (ptr h.next 0, h.new (.cells x.cells true 0)) := by simp [iop, ev, args0, Ins.val, cellsOf]
  refine Wc_seq (Wc_ops (Wo_op hb (Wo_run (fun call => by simp only [List.drop_succ_cons, List.drop_zero, iops_nil, iops_op, iops_grd, iK_some, iG_true, iG_false, gval_bool, beq_true, beq_false, Bool.not_true, Bool.not_false, iop, ev, upd, dstUpd, binV, binI, unV, ptr, Heap.cell, Heap.write, cellsOf, put, args0, partL, List.getD_cons_zero, List.getD_cons_succ, List.length_cons, List.length_nil, List.set_cons_zero, List.set_cons_succ, List.getElem?_cons_zero, List.getElem?_cons_succ, reduceIte, Nat.reduceEqDiff, Nat.reduceAdd, Nat.reduceMul, Nat.reduceLeDiff, Nat.zero_add, Nat.add_zero, Option.map_some, Int.reduceEq, Int.reduceLT, Int.reduceLE, Bool.false_eq_true, decide_true, decide_false, ge_iff_le, gt_iff_lt, set_get']; rfl) ?_)))
  show Wc T _ _ _
  have hg : (h.new (.cells x.cells true 0)).get h.next = some (.cells x.cells true 0) := new_get' _ _
  have hk : Kept h (h.new (.cells x.cells true 0)) := (Kept.refl h).new _
  generalize h.new (.cells x.cells true 0) = h1 at hg hk ⊢
  refine Wc_seq (Wc_ops (Wo_pre 2 (fun call => by simp only [List.take_succ_cons, List.take_zero, List.drop_succ_cons, List.drop_zero, iops_nil, iops_op, iops_grd, iK_some, iG_true, iG_false, gval_bool, beq_true, beq_false, Bool.not_true, Bool.not_false, iop, ev, upd, dstUpd, binV, binI, unV, ptr, Heap.cell, Heap.write, cellsOf, put, args0, partL, List.getD_cons_zero, List.getD_cons_succ, List.length_cons, List.length_nil, List.set_cons_zero, List.set_cons_succ, List.getElem?_cons_zero, List.getElem?_cons_succ, reduceIte, Nat.reduceEqDiff, Nat.reduceAdd, Nat.reduceMul, Nat.reduceLeDiff, Nat.zero_add, Nat.add_zero, Option.map_some, Int.reduceEq, Int.reduceLT, Int.reduceLE, Bool.false_eq_true, decide_true, decide_false, ge_iff_le, gt_iff_lt, set_get', hg, Ins.cells]; rfl) ?_))
  refine Wo_call (h27 ?_)
  show Wo T _ _ _
  refine (Wo_run (fun call => by simp only [List.drop_succ_cons, List.drop_zero, iops_nil, iops_op, iops_grd, iK_some, iG_true, iG_false, gval_bool, beq_true, beq_false, Bool.not_true, Bool.not_false, iop, ev, upd, dstUpd, binV, binI, unV, ptr, Heap.cell, Heap.write, cellsOf, put, args0, partL, List.getD_cons_zero, List.getD_cons_succ, List.length_cons, List.length_nil, List.set_cons_zero, List.set_cons_succ, List.getElem?_cons_zero, List.getElem?_cons_succ, reduceIte, Nat.reduceEqDiff, Nat.reduceAdd, Nat.reduceMul, Nat.reduceLeDiff, Nat.zero_add, Nat.add_zero, Option.map_some, Int.reduceEq, Int.reduceLT, Int.reduceLE, Bool.false_eq_true, decide_true, decide_false, ge_iff_le, gt_iff_lt, set_get', rowL, strB]; rfl) ?_)
  show Wc T _ _ _
  refine Wc_seq (Wc_seq (Wc_ops (Wo_run (fun call => by simp only [List.drop_succ_cons, List.drop_zero, iops_nil, iops_op, iops_grd, iK_some, iG_true, iG_false, gval_bool, beq_true, beq_false, Bool.not_true, Bool.not_false, iop, ev, upd, dstUpd, binV, binI, unV, ptr, Heap.cell, Heap.write, cellsOf, put, args0, partL, List.getD_cons_zero, List.getD_cons_succ, List.length_cons, List.length_nil, List.set_cons_zero, List.set_cons_succ, List.getElem?_cons_zero, List.getElem?_cons_succ, reduceIte, Nat.reduceEqDiff, Nat.reduceAdd, Nat.reduceMul, Nat.reduceLeDiff, Nat.zero_add, Nat.add_zero, Option.map_some, Int.reduceEq, Int.reduceLT, Int.reduceLE, Bool.false_eq_true, decide_true, decide_false, ge_iff_le, gt_iff_lt, set_get', str_empty]; rfl) ?_)))
  show Wc T _ _ _
  refine Wc_cond (decide ((rowAt x.op).2.2.2 = [])) (by simp [ev, upd]) (fun he => ?_) (fun hne => Wc_skip ?_)
  · refine Wc_seq (Wc_ops (Wo_run (fun call => by simp only [List.drop_succ_cons, List.drop_zero, iops_nil, iops_op, iops_grd, iK_some, iG_true, iG_false, gval_bool, beq_true, beq_false, Bool.not_true, Bool.not_false, iop, ev, upd, dstUpd, binV, binI, unV, ptr, Heap.cell, Heap.write, cellsOf, put, args0, partL, List.getD_cons_zero, List.getD_cons_succ, List.length_cons, List.length_nil, List.set_cons_zero, List.set_cons_succ, List.getElem?_cons_zero, List.getElem?_cons_succ, reduceIte, Nat.reduceEqDiff, Nat.reduceAdd, Nat.reduceMul, Nat.reduceLeDiff, Nat.zero_add, Nat.add_zero, Option.map_some, Int.reduceEq, Int.reduceLT, Int.reduceLE, Bool.false_eq_true, decide_true, decide_false, ge_iff_le, gt_iff_lt, set_get']; rfl) ?_))
    refine Wc_ret ⟨.inr rfl, rfl, [.int .i64 (-1)], by simp [resAll, resV, upd, dstUpd], hk, ?_⟩
    have : (rowAt x.op).2.2.2 = [] := by simpa using he
    simp [writesOf, this, tup]
  · show Wc T _ _ _
    refine Wc_seq (Wc_ops (Wo_run (fun call => by simp only [List.drop_succ_cons, List.drop_zero, iops_nil, iops_op, iops_grd, iK_some, iG_true, iG_false, gval_bool, beq_true, beq_false, Bool.not_true, Bool.not_false, iop, ev, upd, dstUpd, binV, binI, unV, ptr, Heap.cell, Heap.write, cellsOf, put, args0, partL, List.getD_cons_zero, List.getD_cons_succ, List.length_cons, List.length_nil, List.set_cons_zero, List.set_cons_succ, List.getElem?_cons_zero, List.getElem?_cons_succ, reduceIte, Nat.reduceEqDiff, Nat.reduceAdd, Nat.reduceMul, Nat.reduceLeDiff, Nat.zero_add, Nat.add_zero, Option.map_some, Int.reduceEq, Int.reduceLT, Int.reduceLE, Bool.false_eq_true, decide_true, decide_false, ge_iff_le, gt_iff_lt, set_get', hg, Ins.cells]; rfl) ?_))
    refine Wc_ret ⟨.inr rfl, rfl, [.int .i64 x.a], by simp [resAll, resV, upd, dstUpd], hk, ?_⟩
    have : ¬ (rowAt x.op).2.2.2 = [] := by simpa using hne
    simp [writesOf, this, tup]

theorem ints11 {T : Tbl} {f : FuncId} (hT : T.fn f = some C11) {h : Heap} {va vb : Value} {a b : List Int} (ha : intsAt h va a) (hb : intsAt h vb b) (hla : a.length < 4611686018427387904) :
    Wk T (.fn f) [va, vb] h (fun o h' => h' = h ∧ o = .ret (.bool (decide (a = b)))) := by
  obtain ⟨p1, c1, h1⟩ := ha.len
  obtain ⟨p2, c2, h2⟩ := hb.len
  have fin : ∀ (e' : Env) (r : Bool), decide (a = b) = r → e' 4 = .bool r → (∃ vs, resAll e' h C11.res = some vs ∧ h = h ∧ Out.ret (tup vs) = .ret (.bool (decide (a = b)))) := by
    intro e' r hr h4
    exact ⟨[.bool r], by simp only [C11, resAll, resV, h4], rfl, by rw [hr]; rfl⟩
  refine Wk_fn hT (by simp [C11]) ?_
  simp only [C11]
  refine Wc_seq (Wc_ops (Wo_run (fun call => by simp only [List.drop_succ_cons, List.drop_zero, iops_nil, iops_op, iops_grd, iK_some, iG_true, iG_false, gval_bool, beq_true, beq_false, Bool.not_true, Bool.not_false, iop, ev, upd, dstUpd, binV, binI, unV, ptr, Heap.cell, Heap.write, cellsOf, put, args0, partL, List.getD_cons_zero, List.getD_cons_succ, List.length_cons, List.length_nil, List.set_cons_zero, List.set_cons_succ, List.getElem?_cons_zero, List.getElem?_cons_succ, reduceIte, Nat.reduceEqDiff, Nat.reduceAdd, Nat.reduceMul, Nat.reduceLeDiff, Nat.zero_add, Nat.add_zero, Option.map_some, Int.reduceEq, Int.reduceLT, Int.reduceLE, Bool.false_eq_true, decide_true, decide_false, ge_iff_le, gt_iff_lt, set_get']; rfl) ?_))
  show Wc T _ _ _
  refine Wc_seq (Wc_seq (Wc_ops (Wo_run (fun call => by simp only [List.drop_succ_cons, List.drop_zero, iops_nil, iops_op, iops_grd, iK_some, iG_true, iG_false, gval_bool, beq_true, beq_false, Bool.not_true, Bool.not_false, iop, ev, upd, dstUpd, binV, binI, unV, ptr, Heap.cell, Heap.write, cellsOf, put, args0, partL, List.getD_cons_zero, List.getD_cons_succ, List.length_cons, List.length_nil, List.set_cons_zero, List.set_cons_succ, List.getElem?_cons_zero, List.getElem?_cons_succ, reduceIte, Nat.reduceEqDiff, Nat.reduceAdd, Nat.reduceMul, Nat.reduceLeDiff, Nat.zero_add, Nat.add_zero, Option.map_some, Int.reduceEq, Int.reduceLT, Int.reduceLE, Bool.false_eq_true, decide_true, decide_false, ge_iff_le, gt_iff_lt, set_get', h1, h2]; rfl) ?_)))
  show Wc T _ _ _
  refine Wc_cond ((a.length : Int) != (b.length : Int)) (by simp [ev, upd]) (fun hne => ?_) (fun heq => Wc_skip ?_)
  · refine Wc_seq (Wc_ops (Wo_run (fun call => by simp only [List.drop_succ_cons, List.drop_zero, iops_nil, iops_op, iops_grd, iK_some, iG_true, iG_false, gval_bool, beq_true, beq_false, Bool.not_true, Bool.not_false, iop, ev, upd, dstUpd, binV, binI, unV, ptr, Heap.cell, Heap.write, cellsOf, put, args0, partL, List.getD_cons_zero, List.getD_cons_succ, List.length_cons, List.length_nil, List.set_cons_zero, List.set_cons_succ, List.getElem?_cons_zero, List.getElem?_cons_succ, reduceIte, Nat.reduceEqDiff, Nat.reduceAdd, Nat.reduceMul, Nat.reduceLeDiff, Nat.zero_add, Nat.add_zero, Option.map_some, Int.reduceEq, Int.reduceLT, Int.reduceLE, Bool.false_eq_true, decide_true, decide_false, ge_iff_le, gt_iff_lt, set_get']; rfl) ?_))
    refine Wc_ret ⟨.inr rfl, rfl, fin _ false ?_ (by simp [upd, dstUpd])⟩
    simp only [decide_eq_false_iff_not]
    rintro rfl
    simp at hne
  show Wc T _ _ _
  have hlen : a.length = b.length := by simp at heq; omega
  refine Wc_seq (Wc_seq (Wc_ops (Wo_run (fun call => by simp only [List.drop_succ_cons, List.drop_zero, iops_nil, iops_op, iops_grd, iK_some, iG_true, iG_false, gval_bool, beq_true, beq_false, Bool.not_true, Bool.not_false, iop, ev, upd, dstUpd, binV, binI, unV, ptr, Heap.cell, Heap.write, cellsOf, put, args0, partL, List.getD_cons_zero, List.getD_cons_succ, List.length_cons, List.length_nil, List.set_cons_zero, List.set_cons_succ, List.getElem?_cons_zero, List.getElem?_cons_succ, reduceIte, Nat.reduceEqDiff, Nat.reduceAdd, Nat.reduceMul, Nat.reduceLeDiff, Nat.zero_add, Nat.add_zero, Option.map_some, Int.reduceEq, Int.reduceLT, Int.reduceLE, Bool.false_eq_true, decide_true, decide_false, ge_iff_le, gt_iff_lt, set_get', h1]; rfl) ?_)))
  show Wc T _ _ _
  refine Wc_block (Wc_loop (fun s => s.d = some [] ∧ s.h = h ∧ s.e 0 = va ∧ s.e 1 = vb ∧ s.e 12 = .int .i64 a.length ∧ ∃ i : Nat, i ≤ a.length ∧ s.e 13 = .int .i64 i ∧ a.take i = b.take i)
    (fun s => match s.e 13 with | .int _ i => (a.length - i).toNat | _ => 0) ?_ ?_)
  · exact ⟨rfl, rfl, by simp [upd, dstUpd, args0, h1], by simp [upd, dstUpd, args0, h2], by simp [upd, dstUpd], 0, Nat.zero_le _, by simp [upd, dstUpd], rfl⟩
  rintro ⟨e, hp, d⟩ ⟨hd, hh, g0, g1, g12, i, hi, g13, ht⟩
  simp only at hd hh g0 g1 g12 g13
  subst hd hh
  rw [C11L0]
  refine Wc_seq (Wc_ops (Wo_run (fun call => by simp only [List.drop_succ_cons, List.drop_zero, iops_nil, iops_op, iops_grd, iK_some, iG_true, iG_false, gval_bool, beq_true, beq_false, Bool.not_true, Bool.not_false, iop, ev, upd, dstUpd, binV, binI, unV, ptr, Heap.cell, Heap.write, cellsOf, put, args0, partL, List.getD_cons_zero, List.getD_cons_succ, List.length_cons, List.length_nil, List.set_cons_zero, List.set_cons_succ, List.getElem?_cons_zero, List.getElem?_cons_succ, reduceIte, Nat.reduceEqDiff, Nat.reduceAdd, Nat.reduceMul, Nat.reduceLeDiff, Nat.zero_add, Nat.add_zero, Option.map_some, Int.reduceEq, Int.reduceLT, Int.reduceLE, Bool.false_eq_true, decide_true, decide_false, ge_iff_le, gt_iff_lt, set_get', g12, g13]; rfl) ?_))
  show Wc T _ _ _
  refine Wc_seq (Wc_cond (decide ((i : Int) < a.length)) (by simp [ev, upd]) (fun hlt => Wc_skip ?_) (fun hge => Wc_exit ?_))
  case refine_2 =>
    show Wc T _ _ _
    have : i = a.length := by simp at hge; omega
    subst this
    refine Wc_seq (Wc_ops (Wo_run (fun call => by simp only [List.drop_succ_cons, List.drop_zero, iops_nil, iops_op, iops_grd, iK_some, iG_true, iG_false, gval_bool, beq_true, beq_false, Bool.not_true, Bool.not_false, iop, ev, upd, dstUpd, binV, binI, unV, ptr, Heap.cell, Heap.write, cellsOf, put, args0, partL, List.getD_cons_zero, List.getD_cons_succ, List.length_cons, List.length_nil, List.set_cons_zero, List.set_cons_succ, List.getElem?_cons_zero, List.getElem?_cons_succ, reduceIte, Nat.reduceEqDiff, Nat.reduceAdd, Nat.reduceMul, Nat.reduceLeDiff, Nat.zero_add, Nat.add_zero, Option.map_some, Int.reduceEq, Int.reduceLT, Int.reduceLE, Bool.false_eq_true, decide_true, decide_false, ge_iff_le, gt_iff_lt, set_get']; rfl) ?_))
    refine Wc_ret ⟨.inr rfl, rfl, fin _ true ?_ (by simp [upd, dstUpd])⟩
    rw [List.take_length, hlen, List.take_length] at ht
    simp [ht]
  show Wc T _ _ _
  have hil : i < a.length := by simpa using hlt
  have hil2 : i < b.length := by omega
  obtain ⟨x, hxi⟩ : ∃ x, a[i]? = some x := ⟨_, List.getElem?_eq_getElem hil⟩
  obtain ⟨y, hyi⟩ : ∃ y, b[i]? = some y := ⟨_, List.getElem?_eq_getElem hil2⟩
  obtain ⟨bx, cx, hva, hbx, ⟨o1, z1, hgx⟩, hcx⟩ := ha.load hxi
  obtain ⟨by', cy, hvb, hby, ⟨o2, z2, hgy⟩, hcy⟩ := hb.load hyi
  rw [Nat.zero_add, Nat.mul_one] at hcx hcy
  have e1 : IntKind.i64.wrap ((i : Int) + 1) = ((i + 1 : Nat) : Int) := by rw [wrap64] <;> omega
  refine Wc_seq (Wc_block (Wc_seq (Wc_ops (Wo_run (fun call => by simp only [List.drop_succ_cons, List.drop_zero, iops_nil, iops_op, iops_grd, iK_some, iG_true, iG_false, gval_bool, beq_true, beq_false, Bool.not_true, Bool.not_false, iop, ev, upd, dstUpd, binV, binI, unV, ptr, Heap.cell, Heap.write, cellsOf, put, args0, partL, List.getD_cons_zero, List.getD_cons_succ, List.length_cons, List.length_nil, List.set_cons_zero, List.set_cons_succ, List.getElem?_cons_zero, List.getElem?_cons_succ, reduceIte, Nat.reduceEqDiff, Nat.reduceAdd, Nat.reduceMul, Nat.reduceLeDiff, Nat.zero_add, Nat.add_zero, Option.map_some, Int.reduceEq, Int.reduceLT, Int.reduceLE, Bool.false_eq_true, decide_true, decide_false, ge_iff_le, gt_iff_lt, set_get', g13]; rfl) ?_))))
  show Wc T _ _ _
  refine Wc_seq (Wc_draw_calm (by decide) (Wo_run (fun call => by simp only [iops_nil, iops_op, iK_some, iop, ev, upd, dstUpd, ptr, Heap.cell, binV, binI, Nat.reduceEqDiff, reduceIte, Nat.zero_add, Nat.mul_one, Option.map_some, g13, g0, g1, hva, hvb, idx_ok hil, idx_ok hil2, hgx, hcx, hgy, hcy]; rfl) ⟨rfl, ?_⟩))
  show Wc T _ _ _
  refine Wc_cond (x != y) (by simp [ev, upd]) (fun hne => ?_) (fun heq => Wc_skip ?_)
  · refine Wc_seq (Wc_ops (Wo_run (fun call => by simp only [List.drop_succ_cons, List.drop_zero, iops_nil, iops_op, iops_grd, iK_some, iG_true, iG_false, gval_bool, beq_true, beq_false, Bool.not_true, Bool.not_false, iop, ev, upd, dstUpd, binV, binI, unV, ptr, Heap.cell, Heap.write, cellsOf, put, args0, partL, List.getD_cons_zero, List.getD_cons_succ, List.length_cons, List.length_nil, List.set_cons_zero, List.set_cons_succ, List.getElem?_cons_zero, List.getElem?_cons_succ, reduceIte, Nat.reduceEqDiff, Nat.reduceAdd, Nat.reduceMul, Nat.reduceLeDiff, Nat.zero_add, Nat.add_zero, Option.map_some, Int.reduceEq, Int.reduceLT, Int.reduceLE, Bool.false_eq_true, decide_true, decide_false, ge_iff_le, gt_iff_lt, set_get']; rfl) ?_))
    refine Wc_ret ⟨.inr rfl, rfl, fin _ false ?_ (by simp [upd, dstUpd])⟩
    simp only [decide_eq_false_iff_not]
    exact ne_of_at hxi hyi (by simpa using hne)
  · show Wc T _ _ _
    have hxy : x = y := by simpa using heq
    subst hxy
    refine Wc_ops (Wo_run (fun call => by simp only [List.drop_succ_cons, List.drop_zero, iops_nil, iops_op, iops_grd, iK_some, iG_true, iG_false, gval_bool, beq_true, beq_false, Bool.not_true, Bool.not_false, iop, ev, upd, dstUpd, binV, binI, unV, ptr, Heap.cell, Heap.write, cellsOf, put, args0, partL, List.getD_cons_zero, List.getD_cons_succ, List.length_cons, List.length_nil, List.set_cons_zero, List.set_cons_succ, List.getElem?_cons_zero, List.getElem?_cons_succ, reduceIte, Nat.reduceEqDiff, Nat.reduceAdd, Nat.reduceMul, Nat.reduceLeDiff, Nat.zero_add, Nat.add_zero, Option.map_some, Int.reduceEq, Int.reduceLT, Int.reduceLE, Bool.false_eq_true, decide_true, decide_false, ge_iff_le, gt_iff_lt, set_get', g13, e1]; rfl) ?_)
    refine ⟨⟨rfl, rfl, ?_, ?_, ?_, i + 1, by omega, ?_, take_eq_succ ht hxi hyi⟩, ?_⟩
    · simp only [upd, Nat.reduceEqDiff, reduceIte]; exact g0
    · simp only [upd, Nat.reduceEqDiff, reduceIte]; exact g1
    · simp only [upd, Nat.reduceEqDiff, reduceIte]; exact g12
    · simp only [upd, Nat.reduceEqDiff, reduceIte]
    · simp only [upd, Nat.reduceEqDiff, reduceIte, g13]; omega

end Go.Idl
end

section
/- IrUses at the ideal level. -/
namespace Go.Idl
set_option linter.unusedVariables false
set_option linter.unusedSimpArgs false
set_option maxRecDepth 100000
open Go.Proofs

theorem T1_4 : T1.fn 4 = some C4 := by
  have h : cfn Try.prog Try.f4 = some C4 := by kernel_rfl
  simp only [T1, T0, Tb0, setPrim, Try.func4, Option.bind_some, h]; rfl
theorem T1_11 : T1.fn 11 = some C11 := by
  have h : cfn Try.prog Try.f11 = some C11 := by kernel_rfl
  simp only [T1, T0, Tb0, setPrim, Try.func11, Option.bind_some, h]; rfl
theorem T1_12 : T1.fn 12 = some C12 := by
  have h : cfn Try.prog Try.f12 = some C12 := by kernel_rfl
  simp only [T1, T0, Tb0, setPrim, Try.func12, Option.bind_some, h]; rfl
theorem T1_13 : T1.fn 13 = some C13 := by
  have h : cfn Try.prog Try.f13 = some C13 := by kernel_rfl
  simp only [T1, T0, Tb0, setPrim, Try.func13, Option.bind_some, h]; rfl
theorem T1_14 : T1.fn 14 = some C14 := by
  have h : cfn Try.prog Try.f14 = some C14 := by kernel_rfl
  simp only [T1, T0, Tb0, setPrim, Try.func14, Option.bind_some, h]; rfl
theorem T1_15 : T1.fn 15 = some C15 := by
  have h : cfn Try.prog Try.f15 = some C15 := by kernel_rfl
  simp only [T1, T0, Tb0, setPrim, Try.func15, Option.bind_some, h]; rfl
theorem T1_26 : T1.fn 26 = some C26 := by
  have h : cfn Try.prog Try.f26 = some C26 := by kernel_rfl
  simp only [T1, T0, Tb0, setPrim, Try.func26, Option.bind_some, h]; rfl
theorem T1_28 : T1.fn 28 = some C28 := by
  have h : cfn Try.prog Try.f28 = some C28 := by kernel_rfl
  simp only [T1, T0, Tb0, setPrim, Try.func28, Option.bind_some, h]; rfl

theorem law4 {x : Ins} {h : Heap} (hx : intsAt h x.lv x.l) : Wk T1 (.fn 4) [x.val] h (fun o h' => o = .ret (.bool true)) := by
  obtain ⟨pl, cl, hlv⟩ := hx.len
  refine Wk_fn T1_4 (by simp [C4]) ?_
  simp only [C4]
  have hb : iop (.box (.t 0)) (args0 [x.val]) h = some (ptr h.next 0, h.new (.cells x.cells true 0)) := by simp [iop, ev, args0, Ins.val, cellsOf]
  refine Wc_seq (Wc_ops (Wo_op hb (Wo_run (fun call => by simp only [List.drop_succ_cons, List.drop_zero, iops_nil, iops_op, iops_grd, iK_some, iG_true, iG_false, gval_bool, beq_true, beq_false, Bool.not_true, Bool.not_false, iop, ev, upd, dstUpd, binV, binI, unV, ptr, Heap.cell, Heap.write, cellsOf, put, args0, partL, List.getD_cons_zero, List.getD_cons_succ, List.length_cons, List.length_nil, List.set_cons_zero, List.set_cons_succ, List.getElem?_cons_zero, List.getElem?_cons_succ, reduceIte, Nat.reduceEqDiff, Nat.reduceAdd, Nat.reduceMul, Nat.reduceLeDiff, Nat.zero_add, Nat.add_zero, Option.map_some, Int.reduceEq, Int.reduceLT, Int.reduceLE, Bool.false_eq_true, decide_true, decide_false, ge_iff_le, gt_iff_lt, set_get']; rfl) ?_)))
  show Wc _ _ _ _
  have hg : (h.new (.cells x.cells true 0)).get h.next = some (.cells x.cells true 0) := new_get' _ _
  have hk : Kept h (h.new (.cells x.cells true 0)) := (Kept.refl h).new _
  have hn : (h.new (.cells x.cells true 0)).next = h.next + 1 := rfl
  generalize h.new (.cells x.cells true 0) = h1 at hg hk hn ⊢
  refine Wc_seq (Wc_seq (Wc_ops (Wo_call (wake7 ?_))))
  show Wo _ _ _ _
  refine (Wo_run (fun call => by simp only [List.drop_succ_cons, List.drop_zero, iops_nil, iops_op, iops_grd, iK_some, iG_true, iG_false, gval_bool, beq_true, beq_false, Bool.not_true, Bool.not_false, iop, ev, upd, dstUpd, binV, binI, unV, ptr, Heap.cell, Heap.write, cellsOf, put, args0, partL, List.getD_cons_zero, List.getD_cons_succ, List.length_cons, List.length_nil, List.set_cons_zero, List.set_cons_succ, List.getElem?_cons_zero, List.getElem?_cons_succ, reduceIte, Nat.reduceEqDiff, Nat.reduceAdd, Nat.reduceMul, Nat.reduceLeDiff, Nat.zero_add, Nat.add_zero, Option.map_some, Int.reduceEq, Int.reduceLT, Int.reduceLE, Bool.false_eq_true, decide_true, decide_false, ge_iff_le, gt_iff_lt, set_get']; rfl) ?_)
  show Wc _ _ _ _
  refine Wc_cond false (by simp [ev, upd]) (fun h => by cases h) (fun _ => Wc_skip ?_)
  show Wc _ _ _ _
  have out : ∀ (e' : Env) (hp' : Heap), e' 2 = .bool true → ((Ex.ret = .normal ∨ Ex.ret = .ret) ∧ some ([] : List Dfr) = some [] ∧ ∃ vs, resAll e' hp' [.tmp 2] = some vs ∧ Out.ret (tup vs) = .ret (.bool true)) := by
    intro e' hp' h4
    exact ⟨.inr rfl, rfl, [.bool true], by simp only [resAll, resV, h4], rfl⟩
  refine Wc_seq (Wc_seq (Wc_ops (Wo_run (fun call => by simp only [List.drop_succ_cons, List.drop_zero, iops_nil, iops_op, iops_grd, iK_some, iG_true, iG_false, gval_bool, beq_true, beq_false, Bool.not_true, Bool.not_false, iop, ev, upd, dstUpd, binV, binI, unV, ptr, Heap.cell, Heap.write, cellsOf, put, args0, partL, List.getD_cons_zero, List.getD_cons_succ, List.length_cons, List.length_nil, List.set_cons_zero, List.set_cons_succ, List.getElem?_cons_zero, List.getElem?_cons_succ, reduceIte, Nat.reduceEqDiff, Nat.reduceAdd, Nat.reduceMul, Nat.reduceLeDiff, Nat.zero_add, Nat.add_zero, Option.map_some, Int.reduceEq, Int.reduceLT, Int.reduceLE, Bool.false_eq_true, decide_true, decide_false, ge_iff_le, gt_iff_lt, set_get', hg, Ins.cells, hlv]; rfl) ?_)))
  show Wc _ _ _ _
  refine Wc_cond (decide ((100 : Int) < x.l.length)) (by simp [ev, upd]) (fun _ => ?_) (fun hle => Wc_skip ?_)
  · refine Wc_seq (Wc_ops (Wo_run (fun call => by simp only [List.drop_succ_cons, List.drop_zero, iops_nil, iops_op, iops_grd, iK_some, iG_true, iG_false, gval_bool, beq_true, beq_false, Bool.not_true, Bool.not_false, iop, ev, upd, dstUpd, binV, binI, unV, ptr, Heap.cell, Heap.write, cellsOf, put, args0, partL, List.getD_cons_zero, List.getD_cons_succ, List.length_cons, List.length_nil, List.set_cons_zero, List.set_cons_succ, List.getElem?_cons_zero, List.getElem?_cons_succ, reduceIte, Nat.reduceEqDiff, Nat.reduceAdd, Nat.reduceMul, Nat.reduceLeDiff, Nat.zero_add, Nat.add_zero, Option.map_some, Int.reduceEq, Int.reduceLT, Int.reduceLE, Bool.false_eq_true, decide_true, decide_false, ge_iff_le, gt_iff_lt, set_get']; rfl) ?_))
    exact Wc_ret (out _ _ (by simp [upd, dstUpd]))
  show Wc _ _ _ _
  have hl : x.l.length ≤ 1000 := by simp at hle; omega
  have hload : ∀ {hp : Heap}, hp.get h.next = some (.cells x.cells true 0) → hp.cells h.next 0 6 = some x.cells := by
    intro hp hg
    simp only [Heap.cells, hg]
    rfl
  refine Wc_seq (Wc_draw ?_)
  refine Wd_R rfl (by simp only [iop, ev, dstUpd, upd, reduceIte, Nat.reduceEqDiff, ptr, hload hg, Option.map_some]; rfl) (fun p hp => (by cases hp)) ?_
  refine Wd_call ?_
  show Wk _ (.fn 12) [x.val] h1 _
  refine (reads12 T1_12 T1_26 of25' x h1 (hx.keep hk) hl).mono fun o h2 ⟨hk2, v2, ho2, hv2⟩ => ?_
  subst ho2
  have hg2 : h2.get h.next = some (.cells x.cells true 0) := by rw [hk2.get _ (by omega)]; exact hg
  refine ⟨fun p hp => ?_, ?_⟩
  · simp only [List.mem_singleton] at hp
    subst hp; exact .inl (by simp)
  refine Wd_R rfl (by simp only [iop, ev, dstUpd, upd, reduceIte, Nat.reduceEqDiff, ptr, hload hg2, Option.map_some]; rfl) (fun p hp => ?_) ?_
  · simp only [List.mem_singleton] at hp
    subst hp
    refine .inr ?_
    simp only [locOp, ev, dstUpd, upd, reduceIte, Nat.reduceEqDiff, ptr]
    exact sameAt_kept hk2 (by omega)
  refine Wd_call ?_
  show Wk _ (.fn 13) [x.val] h2 _
  refine (reads13 T1_13 T1_28 row27' x h2 ((hx.keep hk).keep hk2) hl).mono fun o h3 ⟨hk3, v3, ho3, hv3⟩ => ?_
  subst ho3
  have hg3 : h3.get h.next = some (.cells x.cells true 0) := by rw [hk3.get _ (by have := hk2.next; omega)]; exact hg2
  have hrl : (readsOf x).length < 4611686018427387904 := by
    have h1 := flatMap_len (n := 1001) (rd x) (f := lets x) (fun c => by unfold lets; split; exact Nat.le_succ_of_le hl; exact Nat.succ_le_succ (Nat.zero_le _))
    have h2 := (rd_ok x).1
    unfold readsOf
    omega
  refine ⟨fun p hp => ?_, ?_⟩
  · simp only [List.mem_cons, List.not_mem_nil, or_false] at hp
    rcases hp with rfl | rfl <;> exact .inl (by simp)
  refine Wd_call ?_
  show Wk _ (.fn 11) [v2, v3] h3 _
  refine (ints11 T1_11 (hv2.keep hk3) hv3 hrl).mono fun o h4 ⟨hh4, ho4⟩ => ?_
  subst hh4 ho4
  refine ⟨fun p hp => ?_, ?_⟩
  · simp only [List.mem_cons, List.not_mem_nil, or_false] at hp
    rcases hp with rfl | rfl <;> exact .inl (by simp)
  refine Wd_P rfl (by simp only [iop, ev, dstUpd, upd, reduceIte, Nat.reduceEqDiff, decide_true]; rfl) ?_
  refine Wd_take (by simp only [dstUpd, upd, reduceIte, Nat.reduceEqDiff, gval_bool]; rfl) ?_
  refine Wd_R rfl (by simp only [iop, ev, dstUpd, upd, reduceIte, Nat.reduceEqDiff, ptr, hload hg3, Option.map_some]; rfl) (fun p hp => ?_) ?_
  · simp only [List.mem_cons, List.not_mem_nil, or_false] at hp
    rcases hp with rfl | rfl | rfl <;> exact .inl (by simp)
  refine Wd_take (by simp only [dstUpd, upd, reduceIte, Nat.reduceEqDiff, gval_bool]; rfl) ?_
  refine Wd_call ?_
  show Wk _ (.fn 14) [x.val] h4 _
  refine (writes14 T1_14 of25' x h4).mono fun o h5 ⟨hk5, ho5⟩ => ?_
  subst ho5
  have hg5 : h5.get h.next = some (.cells x.cells true 0) := by rw [hk5.get _ (by have := hk2.next; have := hk3.next; omega)]; exact hg3
  refine ⟨fun p hp => ?_, ?_⟩
  · simp only [List.mem_cons, List.not_mem_nil, or_false] at hp
    rcases hp with rfl | rfl | rfl <;> exact .inl (by simp)
  refine Wd_take (by simp only [dstUpd, upd, reduceIte, Nat.reduceEqDiff, gval_bool]; rfl) ?_
  refine Wd_R rfl (by simp only [iop, ev, dstUpd, upd, reduceIte, Nat.reduceEqDiff, ptr, hload hg5, Option.map_some]; rfl) (fun p hp => ?_) ?_
  · simp only [List.mem_cons, List.not_mem_nil, or_false] at hp
    rcases hp with rfl | rfl | rfl | rfl
    · refine .inr ?_
      simp only [locOp, ev, dstUpd, upd, reduceIte, Nat.reduceEqDiff, ptr]
      exact sameAt_kept hk5 (by have := hk2.next; have := hk3.next; omega)
    all_goals exact .inl (by simp)
  refine Wd_take (by simp only [dstUpd, upd, reduceIte, Nat.reduceEqDiff, gval_bool]; rfl) ?_
  refine Wd_call ?_
  show Wk _ (.fn 15) [x.val] h5 _
  refine (writes15 T1_15 row27' x h5).mono fun o h6 ⟨hk6, ho6⟩ => ?_
  subst ho6
  refine ⟨fun p hp => ?_, ?_⟩
  · simp only [List.mem_cons, List.not_mem_nil, or_false] at hp
    rcases hp with rfl | rfl | rfl | rfl <;> exact .inl (by simp)
  refine Wd_take (by simp only [dstUpd, upd, reduceIte, Nat.reduceEqDiff, gval_bool]; rfl) ?_
  refine Wd_P rfl (by simp only [iop, ev, dstUpd, upd, reduceIte, Nat.reduceEqDiff, binV, binI, beq_self_eq_true, Option.map_some]; rfl) ?_
  refine Wd_P rfl (by simp only [iop, ev, dstUpd, upd, reduceIte, Nat.reduceEqDiff]; rfl) ?_
  refine Wd_P rfl (by simp only [iop, ev, dstUpd, upd, reduceIte, Nat.reduceEqDiff]; rfl) ?_
  refine Wd_nil ?_
  show Wc _ _ _ _
  exact Wc_ret (out _ _ (by simp [upd, dstUpd]))

end Go.Idl
end

section
/- Instructions, functions, code as they come in. -/
namespace Go.Idl
set_option linter.unusedVariables false
set_option linter.unusedSimpArgs false

def i64ok (n : Int) : Prop := -9223372036854775808 ≤ n ∧ n ≤ 9223372036854775807

def insTD : TD := .st (.cons (.int .i64) (.cons (.int .i64) (.cons (.int .i64) (.cons (.int .i64) (.cons (.int .i64) (.cons (.sl (.int .i64)) .nil))))))

theorem wf64 {n : Int} (h : (Lit.int .i64 n).wf = true) : i64ok n := by
  simpa [i64ok, Lit.wf, IntKind.min, IntKind.max, IntKind.signed, IntKind.bits] using h

structure Ins.Ok (h : Heap) (x : Ins) : Prop where
  ints : intsAt h x.lv x.l
  len : x.l.length ≤ maxLen
  each : ∀ n ∈ x.l, i64ok n
  op : i64ok x.op
  a : i64ok x.a
  b : i64ok x.b
  c : i64ok x.c
  k : i64ok x.k

theorem Ins.Ok.keep {h h' : Heap} (hk : Kept h h') {x : Ins} (hx : x.Ok h) : x.Ok h' := ⟨hx.ints.keep hk, hx.len, hx.each, hx.op, hx.a, hx.b, hx.c, hx.k⟩

theorem ins_of_lays {H : Type} {h : Heap} {d : DataW H} {vs : List Value} (hl : Lays h insTD d vs) : ∃ x : Ins, vs = x.cells ∧ x.Ok h ∧ ∀ f : DataW H → Nat, Meas f → 1 + x.l.length ≤ f d := by
  simp only [insTD, Lays] at hl
  obtain ⟨ds, rfl, hl⟩ := hl
  simp only [LaysL] at hl
  obtain ⟨d1, r1, a1, b1, rfl, rfl, h1, d2, r2, a2, b2, rfl, rfl, h2, d3, r3, a3, b3, rfl, rfl, h3, d4, r4, a4, b4, rfl, rfl, h4, d5, r5, a5, b5, rfl, rfl, h5, d6, r6, a6, b6, rfl, rfl, h6, rfl, rfl⟩ := hl
  simp only [Lays] at h1 h2 h3 h4 h5
  obtain ⟨n1, rfl, w1, rfl⟩ := h1
  obtain ⟨n2, rfl, w2, rfl⟩ := h2
  obtain ⟨n3, rfl, w3, rfl⟩ := h3
  obtain ⟨n4, rfl, w4, rfl⟩ := h4
  obtain ⟨n5, rfl, w5, rfl⟩ := h5
  obtain ⟨l, lv, rfl, hi, hr, hm, hms⟩ := ints_of_lays h6
  refine ⟨⟨n1, n2, n3, n4, n5, l, lv⟩, by simp [Ins.cells], ⟨hi, hm, hr, wf64 w1, wf64 w2, wf64 w3, wf64 w4, wf64 w5⟩, fun f hf => ?_⟩
  have := hms f hf
  have := hf.agg [.lit (.int .i64 n1), .lit (.int .i64 n2), .lit (.int .i64 n3), .lit (.int .i64 n4), .lit (.int .i64 n5), d6]
  simp only [List.map_cons, List.map_nil, List.sum_cons, List.sum_nil] at this
  show 1 + l.length ≤ _
  omega

end Go.Idl
end

section
/- slices.EqualFunc, at rows of any kind. -/
namespace Go.Idl
set_option linter.unusedVariables false
set_option linter.unusedSimpArgs false

def CEqL (n : Nat) (z : List Value) : IC :=
  (.seq (.ops [⟨(some 18), .op (.bin .lss (.t 17) (.t 16)), none⟩])
  (.seq (.cond (.t 18)
    .skip
    (.exit 0))
  (.seq (.block 1
    (.seq (.ops [⟨(some 19), .op (.mov (.t 17)), none⟩,
      ⟨(some 20), .op (.iaddr (.sl n) (.t 15) (.t 17)), none⟩,
      ⟨(some 21), .op (.load (some n) (.t 20)), none⟩,
      ⟨(some 8), .op (.alloc z), none⟩,
      ⟨(some 7), .op (.mov (.t 19)), none⟩,
      ⟨none, .op (.store n (.t 8) (.t 21)), none⟩])
    (.seq (.ops [⟨(some 22), .op (.mov (.t 1)), none⟩,
      ⟨(some 23), .op (.mov (.t 7)), none⟩,
      ⟨(some 24), .op (.iaddr (.sl n) (.t 22) (.t 23)), none⟩,
      ⟨(some 25), .op (.load (some n) (.t 24)), none⟩,
      ⟨(some 9), .op (.alloc z), none⟩,
      ⟨none, .op (.store n (.t 9) (.t 25)), none⟩])
    (.seq (.ops [⟨(some 26), .op (.mov (.t 2)), none⟩,
      ⟨(some 27), .op (.load (some n) (.t 8)), none⟩,
      ⟨(some 28), .op (.load (some n) (.t 9)), none⟩,
      ⟨(some 29), .callv (.t 26) [(.t 27), (.t 28)], none⟩,
      ⟨(some 30), .op (.un .not (.t 29)), none⟩])
    (.cond (.t 30)
      (.seq (.ops [⟨(some 6), .op (.mov (.c (.bool false))), none⟩])
      .ret)
      .skip)))))
  (.ops [⟨(some 31), .op (.bin .add (.t 17) (.c (.int .i64 1))), none⟩,
    ⟨(some 17), .op (.mov (.t 31)), none⟩]))))
def CEq (n : Nat) (z : List Value) : IFn := ⟨32, (.seq (.ops [⟨(some 6), .op (.mov (.c (.bool false))), none⟩])
  (.seq (.seq (.ops [⟨(some 10), .op (.mov (.t 0)), none⟩,
    ⟨(some 11), .op (.len .sl (.t 10)), none⟩,
    ⟨(some 12), .op (.mov (.t 1)), none⟩,
    ⟨(some 13), .op (.len .sl (.t 12)), none⟩,
    ⟨(some 14), .op (.bin .neq (.t 11) (.t 13)), none⟩])
  (.cond (.t 14)
    (.seq (.ops [⟨(some 6), .op (.mov (.c (.bool false))), none⟩])
    .ret)
    .skip))
  (.seq (.seq (.ops [⟨(some 15), .op (.mov (.t 0)), none⟩,
    ⟨(some 16), .op (.len .sl (.t 15)), none⟩,
    ⟨(some 17), .op (.mov (.c (.int .i64 0))), none⟩])
  (.block 0
    (.loop (CEqL n z))))
  (.seq (.ops [⟨(some 6), .op (.mov (.c (.bool true))), none⟩])
  .ret)))), [.tmp 6]⟩

theorem C34_eq : C34 = CEq 6 [(.int .i64 0), (.int .i64 0), (.int .i64 0), (.int .i64 0), (.int .i64 0), (.slice none 0 0)] := rfl
theorem C32_eq : C32 = CEq 4 [(.string ⟨#[]⟩), (.int .i64 0), (.int .i64 0), (.slice none 0 0)] := rfl

def sameK {α κ : Type} [DecidableEq κ] (key : α → κ) (a b : List α) : Bool := decide (a.map key = b.map key)
theorem sameK_len {α κ : Type} [DecidableEq κ] {key : α → κ} {a b : List α} (h : a.length ≠ b.length) : sameK key a b = false := by
  simp only [sameK, decide_eq_false_iff_not]
  intro e
  have := congrArg List.length e
  simp at this; exact h this
theorem sameK_ne {α κ : Type} [DecidableEq κ] {key : α → κ} {a b : List α} {i : Nat} {x y : α} (hx : a[i]? = some x) (hy : b[i]? = some y) (h : key x ≠ key y) : sameK key a b = false := by
  simp only [sameK, decide_eq_false_iff_not]
  refine ne_of_at (i := i) (x := key x) (y := key y) (by simp [hx]) (by simp [hy]) h

theorem equalFunc {T : Tbl} {fE g : FuncId} {α κ : Type} [DecidableEq κ] {cells : α → List Value} {inner : Heap → α → Prop} {n : Nat} {z : List Value} (key : α → κ) (hT : T.fn fE = some (CEq n z)) (hn : ∀ x, (cells x).length = n) (hz : z.length = n)
    (hi : ∀ {h h' : Heap} {x : α}, Kept h h' → inner h x → inner h' x) {h : Heap} {va vb : Value} {a b : List α} (ha : rowsAt cells inner h va a) (hb : rowsAt cells inner h vb b) (hla : a.length < 4611686018427387904)
    (hge : ∀ (h : Heap) (x y : α), x ∈ a → y ∈ b → inner h x → inner h y → Wk T (.fn g) [.agg (cells x).toArray, .agg (cells y).toArray] h (fun o h' => Kept h h' ∧ o = .ret (.bool (decide (key x = key y))))) :
    Wk T (.fn fE) [va, vb, .func (.func g) #[] #[]] h (fun o h' => Kept h h' ∧ o = .ret (.bool (sameK key a b))) := by
  obtain ⟨p1, c1, h1⟩ := ha.len
  obtain ⟨p2, c2, h2⟩ := hb.len
  have fin : ∀ (e' : Env) (hp' : Heap) (r : Bool), Kept h hp' → sameK key a b = r → e' 6 = .bool r → (∃ vs, resAll e' hp' (CEq n z).res = some vs ∧ Kept h hp' ∧ Out.ret (tup vs) = .ret (.bool (sameK key a b))) := by
    intro e' hp' r hk hr h4
    exact ⟨[.bool r], by simp only [CEq, resAll, resV, h4], hk, by rw [hr]; rfl⟩
  refine Wk_fn hT (by simp [CEq]) ?_
  simp only [CEq]
  refine Wc_seq (Wc_ops (Wo_run (fun call => by simp only [List.drop_succ_cons, List.drop_zero, iops_nil, iops_op, iops_grd, iK_some, iG_true, iG_false, gval_bool, beq_true, beq_false, Bool.not_true, Bool.not_false, iop, ev, upd, dstUpd, binV, binI, unV, ptr, Heap.cell, Heap.write, cellsOf, put, args0, partL, List.getD_cons_zero, List.getD_cons_succ, List.length_cons, List.length_nil, List.set_cons_zero, List.set_cons_succ, List.getElem?_cons_zero, List.getElem?_cons_succ, reduceIte, Nat.reduceEqDiff, Nat.reduceAdd, Nat.reduceMul, Nat.reduceLeDiff, Nat.zero_add, Nat.add_zero, Option.map_some, Int.reduceEq, Int.reduceLT, Int.reduceLE, Bool.false_eq_true, decide_true, decide_false, ge_iff_le, gt_iff_lt, set_get']; rfl) ?_))
  show Wc T _ _ _
  refine Wc_seq (Wc_seq (Wc_ops (Wo_run (fun call => by simp only [List.drop_succ_cons, List.drop_zero, iops_nil, iops_op, iops_grd, iK_some, iG_true, iG_false, gval_bool, beq_true, beq_false, Bool.not_true, Bool.not_false, iop, ev, upd, dstUpd, binV, binI, unV, ptr, Heap.cell, Heap.write, cellsOf, put, args0, partL, List.getD_cons_zero, List.getD_cons_succ, List.length_cons, List.length_nil, List.set_cons_zero, List.set_cons_succ, List.getElem?_cons_zero, List.getElem?_cons_succ, reduceIte, Nat.reduceEqDiff, Nat.reduceAdd, Nat.reduceMul, Nat.reduceLeDiff, Nat.zero_add, Nat.add_zero, Option.map_some, Int.reduceEq, Int.reduceLT, Int.reduceLE, Bool.false_eq_true, decide_true, decide_false, ge_iff_le, gt_iff_lt, set_get', h1, h2]; rfl) ?_)))
  show Wc T _ _ _
  refine Wc_cond ((a.length : Int) != (b.length : Int)) (by simp [ev, upd]) (fun hne => ?_) (fun heq => Wc_skip ?_)
  · refine Wc_seq (Wc_ops (Wo_run (fun call => by simp only [List.drop_succ_cons, List.drop_zero, iops_nil, iops_op, iops_grd, iK_some, iG_true, iG_false, gval_bool, beq_true, beq_false, Bool.not_true, Bool.not_false, iop, ev, upd, dstUpd, binV, binI, unV, ptr, Heap.cell, Heap.write, cellsOf, put, args0, partL, List.getD_cons_zero, List.getD_cons_succ, List.length_cons, List.length_nil, List.set_cons_zero, List.set_cons_succ, List.getElem?_cons_zero, List.getElem?_cons_succ, reduceIte, Nat.reduceEqDiff, Nat.reduceAdd, Nat.reduceMul, Nat.reduceLeDiff, Nat.zero_add, Nat.add_zero, Option.map_some, Int.reduceEq, Int.reduceLT, Int.reduceLE, Bool.false_eq_true, decide_true, decide_false, ge_iff_le, gt_iff_lt, set_get']; rfl) ?_))
    refine Wc_ret ⟨.inr rfl, rfl, fin _ _ false (.refl h) (sameK_len (fun e => by rw [e] at hne; simp at hne)) (by simp [upd, dstUpd])⟩
  show Wc T _ _ _
  have hlen : a.length = b.length := by simp at heq; omega
  refine Wc_seq (Wc_seq (Wc_ops (Wo_run (fun call => by simp only [List.drop_succ_cons, List.drop_zero, iops_nil, iops_op, iops_grd, iK_some, iG_true, iG_false, gval_bool, beq_true, beq_false, Bool.not_true, Bool.not_false, iop, ev, upd, dstUpd, binV, binI, unV, ptr, Heap.cell, Heap.write, cellsOf, put, args0, partL, List.getD_cons_zero, List.getD_cons_succ, List.length_cons, List.length_nil, List.set_cons_zero, List.set_cons_succ, List.getElem?_cons_zero, List.getElem?_cons_succ, reduceIte, Nat.reduceEqDiff, Nat.reduceAdd, Nat.reduceMul, Nat.reduceLeDiff, Nat.zero_add, Nat.add_zero, Option.map_some, Int.reduceEq, Int.reduceLT, Int.reduceLE, Bool.false_eq_true, decide_true, decide_false, ge_iff_le, gt_iff_lt, set_get', h1]; rfl) ?_)))
  show Wc T _ _ _
  refine Wc_block (Wc_loop (fun s => s.d = some [] ∧ Kept h s.h ∧ s.e 15 = va ∧ s.e 1 = vb ∧ s.e 2 = .func (.func g) #[] #[] ∧ s.e 16 = .int .i64 a.length ∧ ∃ i : Nat, i ≤ a.length ∧ s.e 17 = .int .i64 i ∧ (a.take i).map key = (b.take i).map key)
    (fun s => match s.e 17 with | .int _ i => (a.length - i).toNat | _ => 0) ?_ ?_)
  · exact ⟨rfl, .refl h, by simp [upd, dstUpd, h1], by simp [upd, dstUpd, args0, h2], by simp [upd, dstUpd, args0], by simp [upd, dstUpd], 0, Nat.zero_le _, by simp [upd, dstUpd], rfl⟩
  rintro ⟨e, hp, d⟩ ⟨hd, hk, g15, g1, g2, g16, i, hii, g17, ht⟩
  simp only at hd hk g15 g1 g2 g16 g17
  subst hd
  rw [CEqL]
  refine Wc_seq (Wc_ops (Wo_run (fun call => by simp only [List.drop_succ_cons, List.drop_zero, iops_nil, iops_op, iops_grd, iK_some, iG_true, iG_false, gval_bool, beq_true, beq_false, Bool.not_true, Bool.not_false, iop, ev, upd, dstUpd, binV, binI, unV, ptr, Heap.cell, Heap.write, cellsOf, put, args0, partL, List.getD_cons_zero, List.getD_cons_succ, List.length_cons, List.length_nil, List.set_cons_zero, List.set_cons_succ, List.getElem?_cons_zero, List.getElem?_cons_succ, reduceIte, Nat.reduceEqDiff, Nat.reduceAdd, Nat.reduceMul, Nat.reduceLeDiff, Nat.zero_add, Nat.add_zero, Option.map_some, Int.reduceEq, Int.reduceLT, Int.reduceLE, Bool.false_eq_true, decide_true, decide_false, ge_iff_le, gt_iff_lt, set_get', g16, g17]; rfl) ?_))
  show Wc T _ _ _
  refine Wc_seq (Wc_cond (decide ((i : Int) < a.length)) (by simp [ev, upd]) (fun hlt => Wc_skip ?_) (fun hgt => Wc_exit ?_))
  case refine_2 =>
    show Wc T _ _ _
    have : i = a.length := by simp at hgt; omega
    subst this
    refine Wc_seq (Wc_ops (Wo_run (fun call => by simp only [List.drop_succ_cons, List.drop_zero, iops_nil, iops_op, iops_grd, iK_some, iG_true, iG_false, gval_bool, beq_true, beq_false, Bool.not_true, Bool.not_false, iop, ev, upd, dstUpd, binV, binI, unV, ptr, Heap.cell, Heap.write, cellsOf, put, args0, partL, List.getD_cons_zero, List.getD_cons_succ, List.length_cons, List.length_nil, List.set_cons_zero, List.set_cons_succ, List.getElem?_cons_zero, List.getElem?_cons_succ, reduceIte, Nat.reduceEqDiff, Nat.reduceAdd, Nat.reduceMul, Nat.reduceLeDiff, Nat.zero_add, Nat.add_zero, Option.map_some, Int.reduceEq, Int.reduceLT, Int.reduceLE, Bool.false_eq_true, decide_true, decide_false, ge_iff_le, gt_iff_lt, set_get']; rfl) ?_))
    refine Wc_ret ⟨.inr rfl, rfl, fin _ _ true hk ?_ (by simp [upd, dstUpd])⟩
    rw [List.take_length, hlen, List.take_length] at ht
    simp [sameK, ht]
  show Wc T _ _ _
  have hil : i < a.length := by simpa using hlt
  obtain ⟨x, hxi⟩ : ∃ x, a[i]? = some x := ⟨_, List.getElem?_eq_getElem hil⟩
  obtain ⟨y, hyi⟩ : ∃ y, b[i]? = some y := ⟨_, List.getElem?_eq_getElem (by omega)⟩
  have hil2 : i < b.length := by omega
  obtain ⟨bx, cx, hva, hbx, _, hcx, hxin⟩ := (rowsAt.keep (cells := cells) (inner := inner) hi hk ha).load hn hxi
  obtain ⟨by', cy, hvb, hby, _, hcy, hyin⟩ := (rowsAt.keep (cells := cells) (inner := inner) hi hk hb).load hn hyi
  have e1 : IntKind.i64.wrap ((i : Int) + 1) = ((i + 1 : Nat) : Int) := by rw [wrap64] <;> omega
  -- the copies
  refine Wc_seq (Wc_block (Wc_seq (Wc_ops ?_)))
  refine Wo_op rfl (Wo_op (iop_iaddr (b := bx) (len := a.length) (c := cx) (i := i) (by simp only [upd, dstUpd, reduceIte, Nat.reduceEqDiff, g15]; exact hva) (by simp only [upd, dstUpd, reduceIte, Nat.reduceEqDiff, g17]) hil) (Wo_op (iop_load (b := bx) (o := i * n) (cs := cells x) (by simp only [upd, dstUpd, reduceIte, Nat.reduceEqDiff]) hcx) (Wo_op rfl (Wo_op rfl (Wo_op (iop_store (b := hp.next) (esz := 0) (cs := cells x) (z := z) (by simp only [upd, dstUpd, reduceIte, Nat.reduceEqDiff]) (by simp only [upd, dstUpd, reduceIte, Nat.reduceEqDiff]) (hn x) (new_get' _ _) hz) (Wo_nil ?_))))))
  show Wc T _ _ _
  have hkA : Kept hp ((hp.new (.cells z true 0)).set hp.next (.cells (cells x) true 0)) := ((Kept.refl hp).new _).set (Nat.le_refl _) _
  have hgA : ((hp.new (.cells z true 0)).set hp.next (.cells (cells x) true 0)).get hp.next = some (.cells (cells x) true 0) := set_get' _ _ _
  have hnA : ((hp.new (.cells z true 0)).set hp.next (.cells (cells x) true 0)).next = hp.next + 1 := rfl
  generalize (hp.new (.cells z true 0)).set hp.next (.cells (cells x) true 0) = hpA at hkA hgA hnA ⊢
  have hcyA : hpA.cells by' (i * n) n = some (cells y) := by
    simp only [Heap.cells, hkA.get by' hby] at hcy ⊢
    exact hcy
  refine Wc_seq (Wc_ops ?_)
  refine Wo_op rfl (Wo_op rfl (Wo_op (iop_iaddr (b := by') (len := b.length) (c := cy) (i := i) (by simp only [upd, dstUpd, reduceIte, Nat.reduceEqDiff, ev, g1]; exact hvb) (by simp only [upd, dstUpd, reduceIte, Nat.reduceEqDiff, ev, g17]) hil2) (Wo_op (iop_load (b := by') (o := i * n) (cs := cells y) (by simp only [upd, dstUpd, reduceIte, Nat.reduceEqDiff]) hcyA) (Wo_op rfl (Wo_op (iop_store (b := hpA.next) (esz := 0) (cs := cells y) (z := z) (by simp only [upd, dstUpd, reduceIte, Nat.reduceEqDiff]) (by simp only [upd, dstUpd, reduceIte, Nat.reduceEqDiff]) (hn y) (new_get' _ _) hz) (Wo_nil ?_))))))
  show Wc T _ _ _
  have hkB : Kept hpA ((hpA.new (.cells z true 0)).set hpA.next (.cells (cells y) true 0)) := ((Kept.refl hpA).new _).set (Nat.le_refl _) _
  have hgB : ((hpA.new (.cells z true 0)).set hpA.next (.cells (cells y) true 0)).get hpA.next = some (.cells (cells y) true 0) := set_get' _ _ _
  have hgB2 : ((hpA.new (.cells z true 0)).set hpA.next (.cells (cells y) true 0)).get hp.next = some (.cells (cells x) true 0) := by rw [hkB.get _ (by omega)]; exact hgA
  generalize (hpA.new (.cells z true 0)).set hpA.next (.cells (cells y) true 0) = hpB at hkB hgB hgB2 ⊢
  have hkAB := hkA.trans hkB
  refine Wc_seq (Wc_ops ?_)
  refine Wo_op rfl (Wo_op (iop_load (b := hp.next) (o := 0) (cs := cells x) (by simp only [upd, dstUpd, reduceIte, Nat.reduceEqDiff, ptr]) (cells_all hgB2 (hn x))) (Wo_op (iop_load (b := hpA.next) (o := 0) (cs := cells y) (by simp only [upd, dstUpd, reduceIte, Nat.reduceEqDiff, ptr]) (cells_all hgB (hn y))) ?_))
  refine Wo_callv (c := .fn g) (vs := [.agg (cells x).toArray, .agg (cells y).toArray]) (by simp only [upd, dstUpd, reduceIte, Nat.reduceEqDiff, ev, List.map_cons, List.map_nil, g2]; rfl) ?_
  refine (hge hpB x y (List.mem_of_getElem? hxi) (List.mem_of_getElem? hyi) (hi hkAB hxin) (hi hkAB hyin)).mono fun o h3 ⟨hk3, ho3⟩ => ?_
  subst ho3
  show Wo T _ _ _
  have hk3' : Kept h h3 := (hk.trans hkAB).trans hk3
  refine (Wo_run (fun call => by simp only [List.drop_succ_cons, List.drop_zero, iops_nil, iops_op, iops_grd, iK_some, iG_true, iG_false, gval_bool, beq_true, beq_false, Bool.not_true, Bool.not_false, iop, ev, upd, dstUpd, binV, binI, unV, ptr, Heap.cell, Heap.write, cellsOf, put, args0, partL, List.getD_cons_zero, List.getD_cons_succ, List.length_cons, List.length_nil, List.set_cons_zero, List.set_cons_succ, List.getElem?_cons_zero, List.getElem?_cons_succ, reduceIte, Nat.reduceEqDiff, Nat.reduceAdd, Nat.reduceMul, Nat.reduceLeDiff, Nat.zero_add, Nat.add_zero, Option.map_some, Int.reduceEq, Int.reduceLT, Int.reduceLE, Bool.false_eq_true, decide_true, decide_false, ge_iff_le, gt_iff_lt, set_get']; rfl) ?_)
  show Wc T _ _ _
  refine Wc_cond (!decide (key x = key y)) (by simp [ev, upd]) (fun hne => ?_) (fun heq => Wc_skip ?_)
  · refine Wc_seq (Wc_ops (Wo_run (fun call => by simp only [List.drop_succ_cons, List.drop_zero, iops_nil, iops_op, iops_grd, iK_some, iG_true, iG_false, gval_bool, beq_true, beq_false, Bool.not_true, Bool.not_false, iop, ev, upd, dstUpd, binV, binI, unV, ptr, Heap.cell, Heap.write, cellsOf, put, args0, partL, List.getD_cons_zero, List.getD_cons_succ, List.length_cons, List.length_nil, List.set_cons_zero, List.set_cons_succ, List.getElem?_cons_zero, List.getElem?_cons_succ, reduceIte, Nat.reduceEqDiff, Nat.reduceAdd, Nat.reduceMul, Nat.reduceLeDiff, Nat.zero_add, Nat.add_zero, Option.map_some, Int.reduceEq, Int.reduceLT, Int.reduceLE, Bool.false_eq_true, decide_true, decide_false, ge_iff_le, gt_iff_lt, set_get']; rfl) ?_))
    exact Wc_ret ⟨.inr rfl, rfl, fin _ _ false hk3' (sameK_ne hxi hyi (by simpa using hne)) (by simp [upd, dstUpd])⟩
  show Wc T _ _ _
  refine Wc_ops (Wo_run (fun call => by simp only [List.drop_succ_cons, List.drop_zero, iops_nil, iops_op, iops_grd, iK_some, iG_true, iG_false, gval_bool, beq_true, beq_false, Bool.not_true, Bool.not_false, iop, ev, upd, dstUpd, binV, binI, unV, ptr, Heap.cell, Heap.write, cellsOf, put, args0, partL, List.getD_cons_zero, List.getD_cons_succ, List.length_cons, List.length_nil, List.set_cons_zero, List.set_cons_succ, List.getElem?_cons_zero, List.getElem?_cons_succ, reduceIte, Nat.reduceEqDiff, Nat.reduceAdd, Nat.reduceMul, Nat.reduceLeDiff, Nat.zero_add, Nat.add_zero, Option.map_some, Int.reduceEq, Int.reduceLT, Int.reduceLE, Bool.false_eq_true, decide_true, decide_false, ge_iff_le, gt_iff_lt, set_get', g17, e1]; rfl) ?_)
  refine ⟨⟨rfl, hk3', ?_, ?_, ?_, ?_, i + 1, by omega, ?_, ?_⟩, ?_⟩
  · simp only [upd, dstUpd, Nat.reduceEqDiff, reduceIte]; exact g15
  · simp only [upd, dstUpd, Nat.reduceEqDiff, reduceIte]; exact g1
  · simp only [upd, dstUpd, Nat.reduceEqDiff, reduceIte]; exact g2
  · simp only [upd, dstUpd, Nat.reduceEqDiff, reduceIte]; exact g16
  · simp only [upd, dstUpd, Nat.reduceEqDiff, reduceIte]
  · rw [List.map_take, List.map_take] at ht ⊢
    exact take_eq_succ ht (x := key x) (by simp [hxi]) (by simp [hyi]; exact (by simpa using heq : key x = key y).symm)
  · simp only [upd, dstUpd, Nat.reduceEqDiff, reduceIte, g17]; omega

end Go.Idl
end

section
/- Instructions and functions, whether they are alike: the program's. -/
namespace Go.Idl
set_option linter.unusedVariables false
set_option linter.unusedSimpArgs false

structure InsK where
  op : Int
  a : Int
  b : Int
  c : Int
  k : Int
  l : List Int
  deriving DecidableEq
def Ins.key (x : Ins) : InsK := ⟨x.op, x.a, x.b, x.c, x.k, x.l⟩

theorem C36_eq : C36 = C11 := rfl
theorem C37_eq : C37 = C11 := rfl

theorem eqIns35 {T : Tbl} (hT : T.fn 35 = some C35) (h36 : T.fn 36 = some C36) (x y : Ins) (h : Heap) (hx : x.Ok h) (hy : y.Ok h) (hl : x.l.length < 4611686018427387904) : Wk T (.fn 35) [.agg x.cells.toArray, .agg y.cells.toArray] h (fun o h' => Kept h h' ∧ o = .ret (.bool (decide (x.key = y.key)))) := by
  refine Wk_fn hT (by simp [C35]) ?_
  simp only [C35]
  have hb : iop (.box (.t 0)) (args0 [.agg x.cells.toArray, .agg y.cells.toArray]) h = some (ptr h.next 0, h.new (.cells x.cells true 0)) := by simp [iop, ev, args0, cellsOf]
  have hb2 : iop (.box (.t 1)) (dstUpd (args0 [.agg x.cells.toArray, .agg y.cells.toArray]) (some 2) (ptr h.next 0)) (h.new (.cells x.cells true 0)) = some (ptr (h.next + 1) 0, (h.new (.cells x.cells true 0)).new (.cells y.cells true 0)) := by simp [iop, ev, args0, cellsOf, dstUpd, upd, new_next]
  refine Wc_seq (Wc_ops (Wo_op hb (Wo_op hb2 (Wo_run (fun call => by simp only [List.drop_succ_cons, List.drop_zero, iops_nil, iops_op, iops_grd, iK_some, iG_true, iG_false, gval_bool, beq_true, beq_false, Bool.not_true, Bool.not_false, iop, ev, upd, dstUpd, binV, binI, unV, ptr, Heap.cell, Heap.write, cellsOf, put, args0, partL, List.getD_cons_zero, List.getD_cons_succ, List.length_cons, List.length_nil, List.set_cons_zero, List.set_cons_succ, List.getElem?_cons_zero, List.getElem?_cons_succ, reduceIte, Nat.reduceEqDiff, Nat.reduceAdd, Nat.reduceMul, Nat.reduceLeDiff, Nat.zero_add, Nat.add_zero, Option.map_some, Int.reduceEq, Int.reduceLT, Int.reduceLE, Bool.false_eq_true, decide_true, decide_false, ge_iff_le, gt_iff_lt, set_get']; rfl) ?_))))
  show Wc T _ _ _
  have hg3 : ((h.new (.cells x.cells true 0)).new (.cells y.cells true 0)).get (h.next + 1) = some (.cells y.cells true 0) := new_get' _ _
  have hg2 : ((h.new (.cells x.cells true 0)).new (.cells y.cells true 0)).get h.next = some (.cells x.cells true 0) := by rw [new_get_ne' _ _ (by rw [new_next]; omega), new_get']
  have hk : Kept h ((h.new (.cells x.cells true 0)).new (.cells y.cells true 0)) := ((Kept.refl h).new _).new _
  generalize (h.new (.cells x.cells true 0)).new (.cells y.cells true 0) = h1 at hg2 hg3 hk ⊢
  have fin : ∀ (e : Env) (hp : Heap) (r : Bool), Kept h hp → e 4 = .bool r → decide (x.key = y.key) = r → ((Ex.ret = .normal ∨ Ex.ret = .ret) ∧ some ([] : List Dfr) = some [] ∧ ∃ vs, resAll e hp [.tmp 4] = some vs ∧ Kept h hp ∧ Out.ret (tup vs) = .ret (.bool (decide (x.key = y.key)))) := by
    intro e hp r hk h4 hr
    exact ⟨.inr rfl, rfl, [.bool r], by simp only [resAll, resV, h4], hk, by rw [hr]; rfl⟩
  by_cases c0 : x.op = y.op
  case neg =>
    have d0 : (x.op == y.op) = false := by simpa using c0
    refine Wc_seq (Wc_ops (Wo_run (fun call => by simp only [List.drop_succ_cons, List.drop_zero, iops_nil, iops_op, iops_grd, iK_some, iG_true, iG_false, gval_bool, beq_true, beq_false, Bool.not_true, Bool.not_false, iop, ev, upd, dstUpd, binV, binI, unV, ptr, Heap.cell, Heap.write, cellsOf, put, args0, partL, List.getD_cons_zero, List.getD_cons_succ, List.length_cons, List.length_nil, List.set_cons_zero, List.set_cons_succ, List.getElem?_cons_zero, List.getElem?_cons_succ, reduceIte, Nat.reduceEqDiff, Nat.reduceAdd, Nat.reduceMul, Nat.reduceLeDiff, Nat.zero_add, Nat.add_zero, Option.map_some, Int.reduceEq, Int.reduceLT, Int.reduceLE, Bool.false_eq_true, decide_true, decide_false, ge_iff_le, gt_iff_lt, set_get', hg2, hg3, Ins.cells, d0]; rfl) ?_))
    exact Wc_ret (fin _ _ false hk (by simp [upd, dstUpd]) (by simp [Ins.key, c0]))
  have d0 : (x.op == y.op) = true := by simpa using c0
  by_cases c1 : x.a = y.a
  case neg =>
    have d1 : (x.a == y.a) = false := by simpa using c1
    refine Wc_seq (Wc_ops (Wo_run (fun call => by simp only [List.drop_succ_cons, List.drop_zero, iops_nil, iops_op, iops_grd, iK_some, iG_true, iG_false, gval_bool, beq_true, beq_false, Bool.not_true, Bool.not_false, iop, ev, upd, dstUpd, binV, binI, unV, ptr, Heap.cell, Heap.write, cellsOf, put, args0, partL, List.getD_cons_zero, List.getD_cons_succ, List.length_cons, List.length_nil, List.set_cons_zero, List.set_cons_succ, List.getElem?_cons_zero, List.getElem?_cons_succ, reduceIte, Nat.reduceEqDiff, Nat.reduceAdd, Nat.reduceMul, Nat.reduceLeDiff, Nat.zero_add, Nat.add_zero, Option.map_some, Int.reduceEq, Int.reduceLT, Int.reduceLE, Bool.false_eq_true, decide_true, decide_false, ge_iff_le, gt_iff_lt, set_get', hg2, hg3, Ins.cells, d1, d0]; rfl) ?_))
    exact Wc_ret (fin _ _ false hk (by simp [upd, dstUpd]) (by simp [Ins.key, c1]))
  have d1 : (x.a == y.a) = true := by simpa using c1
  by_cases c2 : x.b = y.b
  case neg =>
    have d2 : (x.b == y.b) = false := by simpa using c2
    refine Wc_seq (Wc_ops (Wo_run (fun call => by simp only [List.drop_succ_cons, List.drop_zero, iops_nil, iops_op, iops_grd, iK_some, iG_true, iG_false, gval_bool, beq_true, beq_false, Bool.not_true, Bool.not_false, iop, ev, upd, dstUpd, binV, binI, unV, ptr, Heap.cell, Heap.write, cellsOf, put, args0, partL, List.getD_cons_zero, List.getD_cons_succ, List.length_cons, List.length_nil, List.set_cons_zero, List.set_cons_succ, List.getElem?_cons_zero, List.getElem?_cons_succ, reduceIte, Nat.reduceEqDiff, Nat.reduceAdd, Nat.reduceMul, Nat.reduceLeDiff, Nat.zero_add, Nat.add_zero, Option.map_some, Int.reduceEq, Int.reduceLT, Int.reduceLE, Bool.false_eq_true, decide_true, decide_false, ge_iff_le, gt_iff_lt, set_get', hg2, hg3, Ins.cells, d2, d0, d1]; rfl) ?_))
    exact Wc_ret (fin _ _ false hk (by simp [upd, dstUpd]) (by simp [Ins.key, c2]))
  have d2 : (x.b == y.b) = true := by simpa using c2
  by_cases c3 : x.c = y.c
  case neg =>
    have d3 : (x.c == y.c) = false := by simpa using c3
    refine Wc_seq (Wc_ops (Wo_run (fun call => by simp only [List.drop_succ_cons, List.drop_zero, iops_nil, iops_op, iops_grd, iK_some, iG_true, iG_false, gval_bool, beq_true, beq_false, Bool.not_true, Bool.not_false, iop, ev, upd, dstUpd, binV, binI, unV, ptr, Heap.cell, Heap.write, cellsOf, put, args0, partL, List.getD_cons_zero, List.getD_cons_succ, List.length_cons, List.length_nil, List.set_cons_zero, List.set_cons_succ, List.getElem?_cons_zero, List.getElem?_cons_succ, reduceIte, Nat.reduceEqDiff, Nat.reduceAdd, Nat.reduceMul, Nat.reduceLeDiff, Nat.zero_add, Nat.add_zero, Option.map_some, Int.reduceEq, Int.reduceLT, Int.reduceLE, Bool.false_eq_true, decide_true, decide_false, ge_iff_le, gt_iff_lt, set_get', hg2, hg3, Ins.cells, d3, d0, d1, d2]; rfl) ?_))
    exact Wc_ret (fin _ _ false hk (by simp [upd, dstUpd]) (by simp [Ins.key, c3]))
  have d3 : (x.c == y.c) = true := by simpa using c3
  by_cases c4 : x.k = y.k
  case neg =>
    have d4 : (x.k == y.k) = false := by simpa using c4
    refine Wc_seq (Wc_ops (Wo_run (fun call => by simp only [List.drop_succ_cons, List.drop_zero, iops_nil, iops_op, iops_grd, iK_some, iG_true, iG_false, gval_bool, beq_true, beq_false, Bool.not_true, Bool.not_false, iop, ev, upd, dstUpd, binV, binI, unV, ptr, Heap.cell, Heap.write, cellsOf, put, args0, partL, List.getD_cons_zero, List.getD_cons_succ, List.length_cons, List.length_nil, List.set_cons_zero, List.set_cons_succ, List.getElem?_cons_zero, List.getElem?_cons_succ, reduceIte, Nat.reduceEqDiff, Nat.reduceAdd, Nat.reduceMul, Nat.reduceLeDiff, Nat.zero_add, Nat.add_zero, Option.map_some, Int.reduceEq, Int.reduceLT, Int.reduceLE, Bool.false_eq_true, decide_true, decide_false, ge_iff_le, gt_iff_lt, set_get', hg2, hg3, Ins.cells, d4, d0, d1, d2, d3]; rfl) ?_))
    exact Wc_ret (fin _ _ false hk (by simp [upd, dstUpd]) (by simp [Ins.key, c4]))
  have d4 : (x.k == y.k) = true := by simpa using c4
  refine Wc_seq (Wc_ops (Wo_pre 38 (fun call => by simp only [List.take_succ_cons, List.take_zero, List.drop_succ_cons, List.drop_zero, iops_nil, iops_op, iops_grd, iK_some, iG_true, iG_false, gval_bool, beq_true, beq_false, Bool.not_true, Bool.not_false, iop, ev, upd, dstUpd, binV, binI, unV, ptr, Heap.cell, Heap.write, cellsOf, put, args0, partL, List.getD_cons_zero, List.getD_cons_succ, List.length_cons, List.length_nil, List.set_cons_zero, List.set_cons_succ, List.getElem?_cons_zero, List.getElem?_cons_succ, reduceIte, Nat.reduceEqDiff, Nat.reduceAdd, Nat.reduceMul, Nat.reduceLeDiff, Nat.zero_add, Nat.add_zero, Option.map_some, Int.reduceEq, Int.reduceLT, Int.reduceLE, Bool.false_eq_true, decide_true, decide_false, ge_iff_le, gt_iff_lt, set_get', hg2, hg3, Ins.cells, d0, d1, d2, d3, d4]; rfl) ?_))
  refine Wo_take (by simp only [dstUpd, upd, reduceIte, Nat.reduceEqDiff, gval_bool]; rfl) (Wo_call ?_)
  show Wk T (.fn 36) [x.lv, y.lv] h1 _
  refine (ints11 (C36_eq ▸ h36) (hx.ints.keep hk) (hy.ints.keep hk) hl).mono fun o h2 ⟨hh2, ho2⟩ => ?_
  subst hh2 ho2
  have hkf := hk
  show Wo T _ _ _
  refine (Wo_run (fun call => by simp only [List.drop_succ_cons, List.drop_zero, iops_nil, iops_op, iops_grd, iK_some, iG_true, iG_false, gval_bool, beq_true, beq_false, Bool.not_true, Bool.not_false, iop, ev, upd, dstUpd, binV, binI, unV, ptr, Heap.cell, Heap.write, cellsOf, put, args0, partL, List.getD_cons_zero, List.getD_cons_succ, List.length_cons, List.length_nil, List.set_cons_zero, List.set_cons_succ, List.getElem?_cons_zero, List.getElem?_cons_succ, reduceIte, Nat.reduceEqDiff, Nat.reduceAdd, Nat.reduceMul, Nat.reduceLeDiff, Nat.zero_add, Nat.add_zero, Option.map_some, Int.reduceEq, Int.reduceLT, Int.reduceLE, Bool.false_eq_true, decide_true, decide_false, ge_iff_le, gt_iff_lt, set_get']; rfl) ?_)
  show Wc T _ _ _
  refine Wc_ret (fin _ _ _ hkf (by simp [upd, dstUpd]; rfl) ?_)
  try simp only [sameK]
  rw [decide_eq_decide]
  simp [Ins.key, c0, c1, c2, c3, c4]

structure Fn where
  name : ByteArray
  params : Int
  regs : Int
  code : List Ins
  cv : Value
def Fn.cells (f : Fn) : List Value := [.string f.name, .int .i64 f.params, .int .i64 f.regs, f.cv]
structure FnK where
  name : ByteArray
  params : Int
  regs : Int
  code : List InsK
  deriving DecidableEq
def Fn.key (f : Fn) : FnK := ⟨f.name, f.params, f.regs, f.code.map Ins.key⟩
def insIn (h : Heap) (x : Ins) : Prop := x.Ok h
structure Fn.Ok (h : Heap) (f : Fn) : Prop where
  code : rowsAt Ins.cells insIn h f.cv f.code
  len : f.code.length ≤ maxLen
  name : f.name.size ≤ maxLen
  params : i64ok f.params
  regs : i64ok f.regs
theorem insIn_keep {h h' : Heap} {x : Ins} (hk : Kept h h') (hx : insIn h x) : insIn h' x := Ins.Ok.keep hk hx
theorem Fn.Ok.keep {h h' : Heap} (hk : Kept h h') {f : Fn} (hf : f.Ok h) : f.Ok h' := ⟨rowsAt.keep (inner := insIn) insIn_keep hk hf.code, hf.len, hf.name, hf.params, hf.regs⟩
def fnIn (h : Heap) (f : Fn) : Prop := f.Ok h
theorem fnIn_keep {h h' : Heap} {x : Fn} (hk : Kept h h') (hx : fnIn h x) : fnIn h' x := Fn.Ok.keep hk hx
structure Cod where
  funcs : List Fn
  fv : Value
  main : Int
  merges : Int
def Cod.cells (c : Cod) : List Value := [c.fv, .int .i64 c.main, .int .i64 c.merges]
structure CodK where
  main : Int
  merges : Int
  funcs : List FnK
  deriving DecidableEq
def Cod.key (c : Cod) : CodK := ⟨c.main, c.merges, c.funcs.map Fn.key⟩
structure Cod.Ok (h : Heap) (c : Cod) : Prop where
  funcs : rowsAt Fn.cells fnIn h c.fv c.funcs
  len : c.funcs.length ≤ maxLen
  main : i64ok c.main
  merges : i64ok c.merges
theorem Cod.Ok.keep {h h' : Heap} (hk : Kept h h') {c : Cod} (hc : c.Ok h) : c.Ok h' := ⟨rowsAt.keep (inner := fnIn) fnIn_keep hk hc.funcs, hc.len, hc.main, hc.merges⟩

/-- Not too much of it. -/
def small (n : Nat) : Prop := n < 4611686018427387904
def Fn.small (f : Fn) : Prop := Idl.small f.code.length ∧ ∀ x ∈ f.code, Idl.small x.l.length
def Cod.small (c : Cod) : Prop := Idl.small c.funcs.length ∧ ∀ f ∈ c.funcs, f.small

theorem insCells_len (x : Ins) : x.cells.length = 6 := rfl
theorem fnCells_len (x : Fn) : x.cells.length = 4 := rfl

theorem eqFn33 {T : Tbl} (hT : T.fn 33 = some C33) (h34 : T.fn 34 = some C34) (h35 : T.fn 35 = some C35) (h36 : T.fn 36 = some C36) (x y : Fn) (h : Heap) (hx : x.Ok h) (hy : y.Ok h) (hs : x.small) : Wk T (.fn 33) [.agg x.cells.toArray, .agg y.cells.toArray] h (fun o h' => Kept h h' ∧ o = .ret (.bool (decide (x.key = y.key)))) := by
  refine Wk_fn hT (by simp [C33]) ?_
  simp only [C33]
  have hb : iop (.box (.t 0)) (args0 [.agg x.cells.toArray, .agg y.cells.toArray]) h = some (ptr h.next 0, h.new (.cells x.cells true 0)) := by simp [iop, ev, args0, cellsOf]
  have hb2 : iop (.box (.t 1)) (dstUpd (args0 [.agg x.cells.toArray, .agg y.cells.toArray]) (some 2) (ptr h.next 0)) (h.new (.cells x.cells true 0)) = some (ptr (h.next + 1) 0, (h.new (.cells x.cells true 0)).new (.cells y.cells true 0)) := by simp [iop, ev, args0, cellsOf, dstUpd, upd, new_next]
  refine Wc_seq (Wc_ops (Wo_op hb (Wo_op hb2 (Wo_run (fun call => by simp only [List.drop_succ_cons, List.drop_zero, iops_nil, iops_op, iops_grd, iK_some, iG_true, iG_false, gval_bool, beq_true, beq_false, Bool.not_true, Bool.not_false, iop, ev, upd, dstUpd, binV, binI, unV, ptr, Heap.cell, Heap.write, cellsOf, put, args0, partL, List.getD_cons_zero, List.getD_cons_succ, List.length_cons, List.length_nil, List.set_cons_zero, List.set_cons_succ, List.getElem?_cons_zero, List.getElem?_cons_succ, reduceIte, Nat.reduceEqDiff, Nat.reduceAdd, Nat.reduceMul, Nat.reduceLeDiff, Nat.zero_add, Nat.add_zero, Option.map_some, Int.reduceEq, Int.reduceLT, Int.reduceLE, Bool.false_eq_true, decide_true, decide_false, ge_iff_le, gt_iff_lt, set_get']; rfl) ?_))))
  show Wc T _ _ _
  have hg3 : ((h.new (.cells x.cells true 0)).new (.cells y.cells true 0)).get (h.next + 1) = some (.cells y.cells true 0) := new_get' _ _
  have hg2 : ((h.new (.cells x.cells true 0)).new (.cells y.cells true 0)).get h.next = some (.cells x.cells true 0) := by rw [new_get_ne' _ _ (by rw [new_next]; omega), new_get']
  have hk : Kept h ((h.new (.cells x.cells true 0)).new (.cells y.cells true 0)) := ((Kept.refl h).new _).new _
  generalize (h.new (.cells x.cells true 0)).new (.cells y.cells true 0) = h1 at hg2 hg3 hk ⊢
  have fin : ∀ (e : Env) (hp : Heap) (r : Bool), Kept h hp → e 4 = .bool r → decide (x.key = y.key) = r → ((Ex.ret = .normal ∨ Ex.ret = .ret) ∧ some ([] : List Dfr) = some [] ∧ ∃ vs, resAll e hp [.tmp 4] = some vs ∧ Kept h hp ∧ Out.ret (tup vs) = .ret (.bool (decide (x.key = y.key)))) := by
    intro e hp r hk h4 hr
    exact ⟨.inr rfl, rfl, [.bool r], by simp only [resAll, resV, h4], hk, by rw [hr]; rfl⟩
  by_cases c0 : x.name = y.name
  case neg =>
    have d0 : (decide (x.name = y.name)) = false := by simpa using c0
    refine Wc_seq (Wc_ops (Wo_run (fun call => by simp only [List.drop_succ_cons, List.drop_zero, iops_nil, iops_op, iops_grd, iK_some, iG_true, iG_false, gval_bool, beq_true, beq_false, Bool.not_true, Bool.not_false, iop, ev, upd, dstUpd, binV, binI, unV, ptr, Heap.cell, Heap.write, cellsOf, put, args0, partL, List.getD_cons_zero, List.getD_cons_succ, List.length_cons, List.length_nil, List.set_cons_zero, List.set_cons_succ, List.getElem?_cons_zero, List.getElem?_cons_succ, reduceIte, Nat.reduceEqDiff, Nat.reduceAdd, Nat.reduceMul, Nat.reduceLeDiff, Nat.zero_add, Nat.add_zero, Option.map_some, Int.reduceEq, Int.reduceLT, Int.reduceLE, Bool.false_eq_true, decide_true, decide_false, ge_iff_le, gt_iff_lt, set_get', hg2, hg3, Fn.cells, d0]; rfl) ?_))
    exact Wc_ret (fin _ _ false hk (by simp [upd, dstUpd]) (by simp [Fn.key, c0]))
  have d0 : (decide (x.name = y.name)) = true := by simpa using c0
  by_cases c1 : x.params = y.params
  case neg =>
    have d1 : (x.params == y.params) = false := by simpa using c1
    refine Wc_seq (Wc_ops (Wo_run (fun call => by simp only [List.drop_succ_cons, List.drop_zero, iops_nil, iops_op, iops_grd, iK_some, iG_true, iG_false, gval_bool, beq_true, beq_false, Bool.not_true, Bool.not_false, iop, ev, upd, dstUpd, binV, binI, unV, ptr, Heap.cell, Heap.write, cellsOf, put, args0, partL, List.getD_cons_zero, List.getD_cons_succ, List.length_cons, List.length_nil, List.set_cons_zero, List.set_cons_succ, List.getElem?_cons_zero, List.getElem?_cons_succ, reduceIte, Nat.reduceEqDiff, Nat.reduceAdd, Nat.reduceMul, Nat.reduceLeDiff, Nat.zero_add, Nat.add_zero, Option.map_some, Int.reduceEq, Int.reduceLT, Int.reduceLE, Bool.false_eq_true, decide_true, decide_false, ge_iff_le, gt_iff_lt, set_get', hg2, hg3, Fn.cells, d1, d0]; rfl) ?_))
    exact Wc_ret (fin _ _ false hk (by simp [upd, dstUpd]) (by simp [Fn.key, c1]))
  have d1 : (x.params == y.params) = true := by simpa using c1
  by_cases c2 : x.regs = y.regs
  case neg =>
    have d2 : (x.regs == y.regs) = false := by simpa using c2
    refine Wc_seq (Wc_ops (Wo_run (fun call => by simp only [List.drop_succ_cons, List.drop_zero, iops_nil, iops_op, iops_grd, iK_some, iG_true, iG_false, gval_bool, beq_true, beq_false, Bool.not_true, Bool.not_false, iop, ev, upd, dstUpd, binV, binI, unV, ptr, Heap.cell, Heap.write, cellsOf, put, args0, partL, List.getD_cons_zero, List.getD_cons_succ, List.length_cons, List.length_nil, List.set_cons_zero, List.set_cons_succ, List.getElem?_cons_zero, List.getElem?_cons_succ, reduceIte, Nat.reduceEqDiff, Nat.reduceAdd, Nat.reduceMul, Nat.reduceLeDiff, Nat.zero_add, Nat.add_zero, Option.map_some, Int.reduceEq, Int.reduceLT, Int.reduceLE, Bool.false_eq_true, decide_true, decide_false, ge_iff_le, gt_iff_lt, set_get', hg2, hg3, Fn.cells, d2, d0, d1]; rfl) ?_))
    exact Wc_ret (fin _ _ false hk (by simp [upd, dstUpd]) (by simp [Fn.key, c2]))
  have d2 : (x.regs == y.regs) = true := by simpa using c2
  refine Wc_seq (Wc_ops (Wo_pre 24 (fun call => by simp only [List.take_succ_cons, List.take_zero, List.drop_succ_cons, List.drop_zero, iops_nil, iops_op, iops_grd, iK_some, iG_true, iG_false, gval_bool, beq_true, beq_false, Bool.not_true, Bool.not_false, iop, ev, upd, dstUpd, binV, binI, unV, ptr, Heap.cell, Heap.write, cellsOf, put, args0, partL, List.getD_cons_zero, List.getD_cons_succ, List.length_cons, List.length_nil, List.set_cons_zero, List.set_cons_succ, List.getElem?_cons_zero, List.getElem?_cons_succ, reduceIte, Nat.reduceEqDiff, Nat.reduceAdd, Nat.reduceMul, Nat.reduceLeDiff, Nat.zero_add, Nat.add_zero, Option.map_some, Int.reduceEq, Int.reduceLT, Int.reduceLE, Bool.false_eq_true, decide_true, decide_false, ge_iff_le, gt_iff_lt, set_get', hg2, hg3, Fn.cells, d0, d1, d2]; rfl) ?_))
  refine Wo_take (by simp only [dstUpd, upd, reduceIte, Nat.reduceEqDiff, gval_bool]; rfl) (Wo_call ?_)
  show Wk T (.fn 34) [x.cv, y.cv, .func (.func 35) #[] #[]] h1 _
  refine (equalFunc (cells := Ins.cells) (inner := insIn) Ins.key (C34_eq ▸ h34) insCells_len rfl insIn_keep ((hx.keep hk).code) ((hy.keep hk).code) hs.1 (fun h a b ha hb ia ib => eqIns35 h35 h36 a b h ia ib (hs.2 a ha))).mono fun o h2 ⟨hk2, ho2⟩ => ?_
  subst ho2
  have hkf := hk.trans hk2
  show Wo T _ _ _
  refine (Wo_run (fun call => by simp only [List.drop_succ_cons, List.drop_zero, iops_nil, iops_op, iops_grd, iK_some, iG_true, iG_false, gval_bool, beq_true, beq_false, Bool.not_true, Bool.not_false, iop, ev, upd, dstUpd, binV, binI, unV, ptr, Heap.cell, Heap.write, cellsOf, put, args0, partL, List.getD_cons_zero, List.getD_cons_succ, List.length_cons, List.length_nil, List.set_cons_zero, List.set_cons_succ, List.getElem?_cons_zero, List.getElem?_cons_succ, reduceIte, Nat.reduceEqDiff, Nat.reduceAdd, Nat.reduceMul, Nat.reduceLeDiff, Nat.zero_add, Nat.add_zero, Option.map_some, Int.reduceEq, Int.reduceLT, Int.reduceLE, Bool.false_eq_true, decide_true, decide_false, ge_iff_le, gt_iff_lt, set_get']; rfl) ?_)
  show Wc T _ _ _
  refine Wc_ret (fin _ _ _ hkf (by simp [upd, dstUpd]; rfl) ?_)
  try simp only [sameK]
  rw [decide_eq_decide]
  simp [Fn.key, c0, c1, c2]

theorem same18 {T : Tbl} (hT : T.fn 18 = some C18) (h32 : T.fn 32 = some C32) (h33 : T.fn 33 = some C33) (h34 : T.fn 34 = some C34) (h35 : T.fn 35 = some C35) (h36 : T.fn 36 = some C36) (x y : Cod) (h : Heap) (hx : x.Ok h) (hy : y.Ok h) (hs : x.small) : Wk T (.fn 18) [.agg x.cells.toArray, .agg y.cells.toArray] h (fun o h' => Kept h h' ∧ o = .ret (.bool (decide (x.key = y.key)))) := by
  refine Wk_fn hT (by simp [C18]) ?_
  simp only [C18]
  have hb : iop (.box (.t 0)) (args0 [.agg x.cells.toArray, .agg y.cells.toArray]) h = some (ptr h.next 0, h.new (.cells x.cells true 0)) := by simp [iop, ev, args0, cellsOf]
  have hb2 : iop (.box (.t 1)) (dstUpd (args0 [.agg x.cells.toArray, .agg y.cells.toArray]) (some 2) (ptr h.next 0)) (h.new (.cells x.cells true 0)) = some (ptr (h.next + 1) 0, (h.new (.cells x.cells true 0)).new (.cells y.cells true 0)) := by simp [iop, ev, args0, cellsOf, dstUpd, upd, new_next]
  refine Wc_seq (Wc_ops (Wo_op hb (Wo_op hb2 (Wo_run (fun call => by simp only [List.drop_succ_cons, List.drop_zero, iops_nil, iops_op, iops_grd, iK_some, iG_true, iG_false, gval_bool, beq_true, beq_false, Bool.not_true, Bool.not_false, iop, ev, upd, dstUpd, binV, binI, unV, ptr, Heap.cell, Heap.write, cellsOf, put, args0, partL, List.getD_cons_zero, List.getD_cons_succ, List.length_cons, List.length_nil, List.set_cons_zero, List.set_cons_succ, List.getElem?_cons_zero, List.getElem?_cons_succ, reduceIte, Nat.reduceEqDiff, Nat.reduceAdd, Nat.reduceMul, Nat.reduceLeDiff, Nat.zero_add, Nat.add_zero, Option.map_some, Int.reduceEq, Int.reduceLT, Int.reduceLE, Bool.false_eq_true, decide_true, decide_false, ge_iff_le, gt_iff_lt, set_get']; rfl) ?_))))
  show Wc T _ _ _
  have hg3 : ((h.new (.cells x.cells true 0)).new (.cells y.cells true 0)).get (h.next + 1) = some (.cells y.cells true 0) := new_get' _ _
  have hg2 : ((h.new (.cells x.cells true 0)).new (.cells y.cells true 0)).get h.next = some (.cells x.cells true 0) := by rw [new_get_ne' _ _ (by rw [new_next]; omega), new_get']
  have hk : Kept h ((h.new (.cells x.cells true 0)).new (.cells y.cells true 0)) := ((Kept.refl h).new _).new _
  generalize (h.new (.cells x.cells true 0)).new (.cells y.cells true 0) = h1 at hg2 hg3 hk ⊢
  have fin : ∀ (e : Env) (hp : Heap) (r : Bool), Kept h hp → e 4 = .bool r → decide (x.key = y.key) = r → ((Ex.ret = .normal ∨ Ex.ret = .ret) ∧ some ([] : List Dfr) = some [] ∧ ∃ vs, resAll e hp [.tmp 4] = some vs ∧ Kept h hp ∧ Out.ret (tup vs) = .ret (.bool (decide (x.key = y.key)))) := by
    intro e hp r hk h4 hr
    exact ⟨.inr rfl, rfl, [.bool r], by simp only [resAll, resV, h4], hk, by rw [hr]; rfl⟩
  by_cases c0 : x.main = y.main
  case neg =>
    have d0 : (x.main == y.main) = false := by simpa using c0
    refine Wc_seq (Wc_ops (Wo_run (fun call => by simp only [List.drop_succ_cons, List.drop_zero, iops_nil, iops_op, iops_grd, iK_some, iG_true, iG_false, gval_bool, beq_true, beq_false, Bool.not_true, Bool.not_false, iop, ev, upd, dstUpd, binV, binI, unV, ptr, Heap.cell, Heap.write, cellsOf, put, args0, partL, List.getD_cons_zero, List.getD_cons_succ, List.length_cons, List.length_nil, List.set_cons_zero, List.set_cons_succ, List.getElem?_cons_zero, List.getElem?_cons_succ, reduceIte, Nat.reduceEqDiff, Nat.reduceAdd, Nat.reduceMul, Nat.reduceLeDiff, Nat.zero_add, Nat.add_zero, Option.map_some, Int.reduceEq, Int.reduceLT, Int.reduceLE, Bool.false_eq_true, decide_true, decide_false, ge_iff_le, gt_iff_lt, set_get', hg2, hg3, Cod.cells, d0]; rfl) ?_))
    exact Wc_ret (fin _ _ false hk (by simp [upd, dstUpd]) (by simp [Cod.key, c0]))
  have d0 : (x.main == y.main) = true := by simpa using c0
  by_cases c1 : x.merges = y.merges
  case neg =>
    have d1 : (x.merges == y.merges) = false := by simpa using c1
    refine Wc_seq (Wc_ops (Wo_run (fun call => by simp only [List.drop_succ_cons, List.drop_zero, iops_nil, iops_op, iops_grd, iK_some, iG_true, iG_false, gval_bool, beq_true, beq_false, Bool.not_true, Bool.not_false, iop, ev, upd, dstUpd, binV, binI, unV, ptr, Heap.cell, Heap.write, cellsOf, put, args0, partL, List.getD_cons_zero, List.getD_cons_succ, List.length_cons, List.length_nil, List.set_cons_zero, List.set_cons_succ, List.getElem?_cons_zero, List.getElem?_cons_succ, reduceIte, Nat.reduceEqDiff, Nat.reduceAdd, Nat.reduceMul, Nat.reduceLeDiff, Nat.zero_add, Nat.add_zero, Option.map_some, Int.reduceEq, Int.reduceLT, Int.reduceLE, Bool.false_eq_true, decide_true, decide_false, ge_iff_le, gt_iff_lt, set_get', hg2, hg3, Cod.cells, d1, d0]; rfl) ?_))
    exact Wc_ret (fin _ _ false hk (by simp [upd, dstUpd]) (by simp [Cod.key, c1]))
  have d1 : (x.merges == y.merges) = true := by simpa using c1
  refine Wc_seq (Wc_ops (Wo_pre 17 (fun call => by simp only [List.take_succ_cons, List.take_zero, List.drop_succ_cons, List.drop_zero, iops_nil, iops_op, iops_grd, iK_some, iG_true, iG_false, gval_bool, beq_true, beq_false, Bool.not_true, Bool.not_false, iop, ev, upd, dstUpd, binV, binI, unV, ptr, Heap.cell, Heap.write, cellsOf, put, args0, partL, List.getD_cons_zero, List.getD_cons_succ, List.length_cons, List.length_nil, List.set_cons_zero, List.set_cons_succ, List.getElem?_cons_zero, List.getElem?_cons_succ, reduceIte, Nat.reduceEqDiff, Nat.reduceAdd, Nat.reduceMul, Nat.reduceLeDiff, Nat.zero_add, Nat.add_zero, Option.map_some, Int.reduceEq, Int.reduceLT, Int.reduceLE, Bool.false_eq_true, decide_true, decide_false, ge_iff_le, gt_iff_lt, set_get', hg2, hg3, Cod.cells, d0, d1]; rfl) ?_))
  refine Wo_take (by simp only [dstUpd, upd, reduceIte, Nat.reduceEqDiff, gval_bool]; rfl) (Wo_call ?_)
  show Wk T (.fn 32) [x.fv, y.fv, .func (.func 33) #[] #[]] h1 _
  refine (equalFunc (cells := Fn.cells) (inner := fnIn) Fn.key (C32_eq ▸ h32) fnCells_len rfl fnIn_keep ((hx.keep hk).funcs) ((hy.keep hk).funcs) hs.1 (fun h a b ha hb ia ib => eqFn33 h33 h34 h35 h36 a b h ia ib (hs.2 a ha))).mono fun o h2 ⟨hk2, ho2⟩ => ?_
  subst ho2
  have hkf := hk.trans hk2
  show Wo T _ _ _
  refine (Wo_run (fun call => by simp only [List.drop_succ_cons, List.drop_zero, iops_nil, iops_op, iops_grd, iK_some, iG_true, iG_false, gval_bool, beq_true, beq_false, Bool.not_true, Bool.not_false, iop, ev, upd, dstUpd, binV, binI, unV, ptr, Heap.cell, Heap.write, cellsOf, put, args0, partL, List.getD_cons_zero, List.getD_cons_succ, List.length_cons, List.length_nil, List.set_cons_zero, List.set_cons_succ, List.getElem?_cons_zero, List.getElem?_cons_succ, reduceIte, Nat.reduceEqDiff, Nat.reduceAdd, Nat.reduceMul, Nat.reduceLeDiff, Nat.zero_add, Nat.add_zero, Option.map_some, Int.reduceEq, Int.reduceLT, Int.reduceLE, Bool.false_eq_true, decide_true, decide_false, ge_iff_le, gt_iff_lt, set_get']; rfl) ?_)
  show Wc T _ _ _
  refine Wc_ret (fin _ _ _ hkf (by simp [upd, dstUpd]; rfl) ?_)
  try simp only [sameK]
  rw [decide_eq_decide]
  simp [Cod.key, c0, c1]


end Go.Idl
end

section
/- Whether codes are alike: the reference's. -/
namespace Go.Idl
set_option linter.unusedVariables false
set_option linter.unusedSimpArgs false

theorem ins19 {T : Tbl} (h37 : T.fn 37 = some C37) {h0 hp0 : Heap} {e : Env} {f g : Fn} {b6 b7 : Nat} {Q : Ex → St → Prop} (hx : f.Ok h0) (hy : g.Ok h0) (hk0 : Kept h0 hp0) (hsm : f.small)
    (hl : g.code.length = f.code.length) (g6 : e 6 = ptr b6 0) (g7 : e 7 = ptr b7 0) (hb6 : b6 < hp0.next) (hb7 : b7 < hp0.next) (hg6 : hp0.get b6 = some (.cells f.cells true 0)) (hg7 : hp0.get b7 = some (.cells g.cells true 0)) (g78 : e 78 = .int .i64 f.code.length) (g79 : e 79 = .int .i64 0)
    (hyes : f.code.map Ins.key = g.code.map Ins.key → ∀ (e' : Env) (hp : Heap), Kept hp0 hp → (∀ t, t < 78 → t ≠ 4 → t ≠ 8 → t ≠ 9 → t ≠ 10 → e' t = e t) → Q (.brk 2) ⟨e', hp, some []⟩)
    (hno : f.code.map Ins.key ≠ g.code.map Ins.key → ∀ (e' : Env) (hp : Heap), Kept hp0 hp → e' 4 = .bool false → Q .ret ⟨e', hp, some []⟩) : Wc T (.loop C19L0) ⟨e, hp0, some []⟩ Q := by
  refine Wc_loop (fun s => s.d = some [] ∧ Kept hp0 s.h ∧ (∀ t, t < 79 → t ≠ 4 → t ≠ 8 → t ≠ 9 → t ≠ 10 → s.e t = e t) ∧ ∃ i : Nat, i ≤ f.code.length ∧ s.e 79 = .int .i64 i ∧ (f.code.take i).map Ins.key = (g.code.take i).map Ins.key)
    (fun s => match s.e 79 with | .int _ i => (f.code.length - i).toNat | _ => 0) ?_ ?_
  · exact ⟨rfl, .refl _, fun _ _ _ _ _ _ => rfl, 0, Nat.zero_le _, g79, rfl⟩
  rintro ⟨e1, hp, d⟩ ⟨hd, hk, hfr, i, hi, k79, ht⟩
  simp only at hd hk hfr k79
  subst hd
  have k6 : e1 6 = ptr b6 0 := by rw [hfr 6 (by omega) (by omega) (by omega) (by omega) (by omega)]; exact g6
  have k7 : e1 7 = ptr b7 0 := by rw [hfr 7 (by omega) (by omega) (by omega) (by omega) (by omega)]; exact g7
  have k78 : e1 78 = .int .i64 f.code.length := by rw [hfr 78 (by omega) (by omega) (by omega) (by omega) (by omega)]; exact g78
  have kg6 : hp.get b6 = some (.cells f.cells true 0) := by rw [hk.get _ hb6]; exact hg6
  have kg7 : hp.get b7 = some (.cells g.cells true 0) := by rw [hk.get _ hb7]; exact hg7
  have hb6' : b6 < hp.next := Nat.lt_of_lt_of_le hb6 hk.next
  have hb7' : b7 < hp.next := Nat.lt_of_lt_of_le hb7 hk.next
  rw [C19L0]
  refine Wc_seq (Wc_ops (Wo_run (fun call => by simp only [List.drop_succ_cons, List.drop_zero, iops_nil, iops_op, iops_grd, iK_some, iG_true, iG_false, gval_bool, beq_true, beq_false, Bool.not_true, Bool.not_false, iop, ev, upd, dstUpd, binV, binI, unV, ptr, Heap.cell, Heap.write, cellsOf, put, args0, partL, List.getD_cons_zero, List.getD_cons_succ, List.length_cons, List.length_nil, List.set_cons_zero, List.set_cons_succ, List.getElem?_cons_zero, List.getElem?_cons_succ, reduceIte, Nat.reduceEqDiff, Nat.reduceAdd, Nat.reduceMul, Nat.reduceLeDiff, Nat.zero_add, Nat.add_zero, Option.map_some, Int.reduceEq, Int.reduceLT, Int.reduceLE, Bool.false_eq_true, decide_true, decide_false, ge_iff_le, gt_iff_lt, set_get', k78, k79]; rfl) ?_))
  show Wc T _ _ _
  refine Wc_seq (Wc_cond (decide ((i : Int) < f.code.length)) (by simp [ev, upd]) (fun hlt => Wc_skip ?_) (fun hge => Wc_exit ?_))
  case refine_2 =>
    have : i = f.code.length := by simp at hge; omega
    subst this
    rw [List.take_length, ← hl, List.take_length] at ht
    refine hyes ht _ _ hk (fun t h1 h2 h3 h4 h5 => ?_)
    simp only [upd]
    rw [if_neg (by omega)]
    exact hfr t (by omega) h2 h3 h4 h5
  show Wc T _ _ _
  have hil : i < f.code.length := by simpa using hlt
  have hil2 : i < g.code.length := by omega
  obtain ⟨x, hxi⟩ : ∃ x, f.code[i]? = some x := ⟨_, List.getElem?_eq_getElem hil⟩
  obtain ⟨y, hyi⟩ : ∃ y, g.code[i]? = some y := ⟨_, List.getElem?_eq_getElem hil2⟩
  obtain ⟨bx, cx, hva, hbx, _, hcx, hxin⟩ := ((hx.keep (hk0.trans hk)).code).load insCells_len hxi
  obtain ⟨by', cy, hvb, hby, _, hcy, hyin⟩ := ((hy.keep (hk0.trans hk)).code).load insCells_len hyi
  have e1' : IntKind.i64.wrap ((i : Int) + 1) = ((i + 1 : Nat) : Int) := by
    have := hsm.1
    unfold Idl.small at this
    rw [wrap64] <;> omega
  refine Wc_seq (Wc_block (Wc_seq (Wc_ops (Wo_run (fun call => by simp only [List.drop_succ_cons, List.drop_zero, iops_nil, iops_op, iops_grd, iK_some, iG_true, iG_false, gval_bool, beq_true, beq_false, Bool.not_true, Bool.not_false, iop, ev, upd, dstUpd, binV, binI, unV, ptr, Heap.cell, Heap.write, cellsOf, put, args0, partL, List.getD_cons_zero, List.getD_cons_succ, List.length_cons, List.length_nil, List.set_cons_zero, List.set_cons_succ, List.getElem?_cons_zero, List.getElem?_cons_succ, reduceIte, Nat.reduceEqDiff, Nat.reduceAdd, Nat.reduceMul, Nat.reduceLeDiff, Nat.zero_add, Nat.add_zero, Option.map_some, Int.reduceEq, Int.reduceLT, Int.reduceLE, Bool.false_eq_true, decide_true, decide_false, ge_iff_le, gt_iff_lt, set_get', k79]; rfl) ?_))))
  show Wc T _ _ _
  refine Wc_seq (Wc_draw ?_)
  refine Wd_P rfl (by simp only [iop, ev, dstUpd, upd, reduceIte, Nat.reduceEqDiff, k6, ptr]; rfl) ?_
  refine Wd_R rfl (by simp only [iop, ev, dstUpd, upd, reduceIte, Nat.reduceEqDiff, Heap.cell, kg6, Fn.cells, Nat.zero_add, List.getElem?_cons_zero, List.getElem?_cons_succ, Option.map_some]; rfl) (fun p hp => (by cases hp)) ?_
  refine Wd_P rfl rfl ?_
  refine Wd_P rfl (iop_iaddr (b := bx) (len := f.code.length) (c := cx) (i := i) (by simp only [upd, dstUpd, reduceIte, Nat.reduceEqDiff]; exact hva) (by simp only [upd, dstUpd, reduceIte, Nat.reduceEqDiff, ev, k79]) hil) ?_
  refine Wd_R rfl (iop_load (b := bx) (o := i * 6) (cs := x.cells) (by simp only [upd, dstUpd, reduceIte, Nat.reduceEqDiff]) hcx) (fun p hp => (by cases hp)) ?_
  refine Wd_P rfl (by simp only [iop, ev, dstUpd, upd, reduceIte, Nat.reduceEqDiff, k7, ptr]; rfl) ?_
  refine Wd_R rfl (by simp only [iop, ev, dstUpd, upd, reduceIte, Nat.reduceEqDiff, Heap.cell, kg7, Fn.cells, Nat.zero_add, List.getElem?_cons_zero, List.getElem?_cons_succ, Option.map_some]; rfl) (fun p hp => (by cases hp)) ?_
  refine Wd_P rfl rfl ?_
  refine Wd_P rfl (iop_iaddr (b := by') (len := g.code.length) (c := cy) (i := i) (by simp only [upd, dstUpd, reduceIte, Nat.reduceEqDiff]; exact hvb) (by simp only [upd, dstUpd, reduceIte, Nat.reduceEqDiff, ev, k79]) hil2) ?_
  refine Wd_R rfl (iop_load (b := by') (o := i * 6) (cs := y.cells) (by simp only [upd, dstUpd, reduceIte, Nat.reduceEqDiff]) hcy) (fun p hp => (by cases hp)) ?_
  refine Wd_A rfl (by simp only [iop]; rfl) (Wd_A rfl (by simp only [iop]; rfl) ?_)
  simp only [locOp, ev, dstUpd, upd, reduceIte, Nat.reduceEqDiff, ptr]
  refine Wd_E rfl (iop_store (b := hp.next) (esz := 0) (cs := x.cells) (z := [(.int .i64 0), (.int .i64 0), (.int .i64 0), (.int .i64 0), (.int .i64 0), (.slice none 0 0)]) (by simp only [upd, dstUpd, reduceIte, Nat.reduceEqDiff, ptr]) (by simp only [upd, dstUpd, reduceIte, Nat.reduceEqDiff]) (insCells_len x) (by rw [new_get_ne' _ _ (by rw [new_next]; omega), new_get']) rfl) ?_ ?_
  · intro p hp'
    simp only [List.mem_cons, List.not_mem_nil, or_false] at hp'
    rcases hp' with rfl | rfl | rfl | rfl | rfl | rfl
    · exact .inl (by simp)
    · exact .inl (by simp)
    · exact .inr (sameAt_cells (by omega))
    · exact .inr (sameAt_cells (by omega))
    · exact .inl (by simp)
    · exact .inl (by simp)
  refine Wd_E rfl (iop_store (b := hp.next + 1) (esz := 0) (cs := y.cells) (z := [(.int .i64 0), (.int .i64 0), (.int .i64 0), (.int .i64 0), (.int .i64 0), (.slice none 0 0)]) (by simp only [upd, dstUpd, reduceIte, Nat.reduceEqDiff, ptr, new_next]) (by simp only [upd, dstUpd, reduceIte, Nat.reduceEqDiff]) (insCells_len y) (by rw [set_get_ne' _ _ (by omega)]; exact new_get' _ _) rfl) ?_ ?_
  · intro p hp'
    simp only [List.mem_cons, List.not_mem_nil, or_false] at hp'
    rcases hp' with rfl | rfl | rfl | rfl | rfl | rfl <;> exact .inl (by simp)
  refine Wd_nil ?_
  show Wc T _ _ _
  have hkpB : Kept hp (((hp.new (.cells [(.int .i64 0), (.int .i64 0), (.int .i64 0), (.int .i64 0), (.int .i64 0), (.slice none 0 0)] true 0)).new (.cells [(.int .i64 0), (.int .i64 0), (.int .i64 0), (.int .i64 0), (.int .i64 0), (.slice none 0 0)] true 0)).set hp.next (.cells x.cells true 0) |>.set (hp.next + 1) (.cells y.cells true 0)) := ((((Kept.refl hp).new _).new _).set (Nat.le_refl _) _).set (Nat.le_succ _) _
  have hgB : (((hp.new (.cells [(.int .i64 0), (.int .i64 0), (.int .i64 0), (.int .i64 0), (.int .i64 0), (.slice none 0 0)] true 0)).new (.cells [(.int .i64 0), (.int .i64 0), (.int .i64 0), (.int .i64 0), (.int .i64 0), (.slice none 0 0)] true 0)).set hp.next (.cells x.cells true 0) |>.set (hp.next + 1) (.cells y.cells true 0)).get (hp.next + 1) = some (.cells y.cells true 0) := set_get' _ _ _
  have hgA : (((hp.new (.cells [(.int .i64 0), (.int .i64 0), (.int .i64 0), (.int .i64 0), (.int .i64 0), (.slice none 0 0)] true 0)).new (.cells [(.int .i64 0), (.int .i64 0), (.int .i64 0), (.int .i64 0), (.int .i64 0), (.slice none 0 0)] true 0)).set hp.next (.cells x.cells true 0) |>.set (hp.next + 1) (.cells y.cells true 0)).get hp.next = some (.cells x.cells true 0) := by
    rw [set_get_ne' _ _ (by omega), set_get']
  have hnB : hp.next + 1 < (((hp.new (.cells [(.int .i64 0), (.int .i64 0), (.int .i64 0), (.int .i64 0), (.int .i64 0), (.slice none 0 0)] true 0)).new (.cells [(.int .i64 0), (.int .i64 0), (.int .i64 0), (.int .i64 0), (.int .i64 0), (.slice none 0 0)] true 0)).set hp.next (.cells x.cells true 0) |>.set (hp.next + 1) (.cells y.cells true 0)).next := Nat.lt_succ_self _
  generalize (((hp.new (.cells [(.int .i64 0), (.int .i64 0), (.int .i64 0), (.int .i64 0), (.int .i64 0), (.slice none 0 0)] true 0)).new (.cells [(.int .i64 0), (.int .i64 0), (.int .i64 0), (.int .i64 0), (.int .i64 0), (.slice none 0 0)] true 0)).set hp.next (.cells x.cells true 0) |>.set (hp.next + 1) (.cells y.cells true 0)) = hpB at hkpB hgA hgB hnB ⊢
  have bad : ∀ (e' : Env), e' 4 = .bool false → x.key ≠ y.key → Q .ret ⟨e', hpB, some []⟩ := fun e' h4 hne => hno (ne_of_at (i := i) (x := x.key) (y := y.key) (by simp [hxi]) (by simp [hyi]) hne) e' _ (hk.trans hkpB) h4
  by_cases c0 : x.op = y.op
  case neg =>
    have d0 : (x.op != y.op) = true := by simpa using c0
    refine Wc_seq (Wc_ops (Wo_run (fun call => by simp only [List.drop_succ_cons, List.drop_zero, iops_nil, iops_op, iops_grd, iK_some, iG_true, iG_false, gval_bool, beq_true, beq_false, Bool.not_true, Bool.not_false, iop, ev, upd, dstUpd, binV, binI, unV, ptr, Heap.cell, Heap.write, cellsOf, put, args0, partL, List.getD_cons_zero, List.getD_cons_succ, List.length_cons, List.length_nil, List.set_cons_zero, List.set_cons_succ, List.getElem?_cons_zero, List.getElem?_cons_succ, reduceIte, Nat.reduceEqDiff, Nat.reduceAdd, Nat.reduceMul, Nat.reduceLeDiff, Nat.zero_add, Nat.add_zero, Option.map_some, Int.reduceEq, Int.reduceLT, Int.reduceLE, Bool.false_eq_true, decide_true, decide_false, ge_iff_le, gt_iff_lt, set_get', new_next, hgA, hgB, Ins.cells, d0]; rfl) ?_))
    show Wc T _ _ _
    refine Wc_cond true (by simp [ev, upd]) (fun _ => ?_) (fun h => by cases h)
    refine Wc_seq (Wc_ops (Wo_run (fun call => by simp only [List.drop_succ_cons, List.drop_zero, iops_nil, iops_op, iops_grd, iK_some, iG_true, iG_false, gval_bool, beq_true, beq_false, Bool.not_true, Bool.not_false, iop, ev, upd, dstUpd, binV, binI, unV, ptr, Heap.cell, Heap.write, cellsOf, put, args0, partL, List.getD_cons_zero, List.getD_cons_succ, List.length_cons, List.length_nil, List.set_cons_zero, List.set_cons_succ, List.getElem?_cons_zero, List.getElem?_cons_succ, reduceIte, Nat.reduceEqDiff, Nat.reduceAdd, Nat.reduceMul, Nat.reduceLeDiff, Nat.zero_add, Nat.add_zero, Option.map_some, Int.reduceEq, Int.reduceLT, Int.reduceLE, Bool.false_eq_true, decide_true, decide_false, ge_iff_le, gt_iff_lt, set_get']; rfl) ?_))
    refine Wc_ret (bad _ (by simp [upd, dstUpd]) (by simp [Ins.key, c0]))
  have d0 : (x.op != y.op) = false := by simpa using c0
  by_cases c1 : x.a = y.a
  case neg =>
    have d1 : (x.a != y.a) = true := by simpa using c1
    refine Wc_seq (Wc_ops (Wo_run (fun call => by simp only [List.drop_succ_cons, List.drop_zero, iops_nil, iops_op, iops_grd, iK_some, iG_true, iG_false, gval_bool, beq_true, beq_false, Bool.not_true, Bool.not_false, iop, ev, upd, dstUpd, binV, binI, unV, ptr, Heap.cell, Heap.write, cellsOf, put, args0, partL, List.getD_cons_zero, List.getD_cons_succ, List.length_cons, List.length_nil, List.set_cons_zero, List.set_cons_succ, List.getElem?_cons_zero, List.getElem?_cons_succ, reduceIte, Nat.reduceEqDiff, Nat.reduceAdd, Nat.reduceMul, Nat.reduceLeDiff, Nat.zero_add, Nat.add_zero, Option.map_some, Int.reduceEq, Int.reduceLT, Int.reduceLE, Bool.false_eq_true, decide_true, decide_false, ge_iff_le, gt_iff_lt, set_get', new_next, hgA, hgB, Ins.cells, d1, d0]; rfl) ?_))
    show Wc T _ _ _
    refine Wc_cond true (by simp [ev, upd]) (fun _ => ?_) (fun h => by cases h)
    refine Wc_seq (Wc_ops (Wo_run (fun call => by simp only [List.drop_succ_cons, List.drop_zero, iops_nil, iops_op, iops_grd, iK_some, iG_true, iG_false, gval_bool, beq_true, beq_false, Bool.not_true, Bool.not_false, iop, ev, upd, dstUpd, binV, binI, unV, ptr, Heap.cell, Heap.write, cellsOf, put, args0, partL, List.getD_cons_zero, List.getD_cons_succ, List.length_cons, List.length_nil, List.set_cons_zero, List.set_cons_succ, List.getElem?_cons_zero, List.getElem?_cons_succ, reduceIte, Nat.reduceEqDiff, Nat.reduceAdd, Nat.reduceMul, Nat.reduceLeDiff, Nat.zero_add, Nat.add_zero, Option.map_some, Int.reduceEq, Int.reduceLT, Int.reduceLE, Bool.false_eq_true, decide_true, decide_false, ge_iff_le, gt_iff_lt, set_get']; rfl) ?_))
    refine Wc_ret (bad _ (by simp [upd, dstUpd]) (by simp [Ins.key, c1]))
  have d1 : (x.a != y.a) = false := by simpa using c1
  by_cases c2 : x.b = y.b
  case neg =>
    have d2 : (x.b != y.b) = true := by simpa using c2
    refine Wc_seq (Wc_ops (Wo_run (fun call => by simp only [List.drop_succ_cons, List.drop_zero, iops_nil, iops_op, iops_grd, iK_some, iG_true, iG_false, gval_bool, beq_true, beq_false, Bool.not_true, Bool.not_false, iop, ev, upd, dstUpd, binV, binI, unV, ptr, Heap.cell, Heap.write, cellsOf, put, args0, partL, List.getD_cons_zero, List.getD_cons_succ, List.length_cons, List.length_nil, List.set_cons_zero, List.set_cons_succ, List.getElem?_cons_zero, List.getElem?_cons_succ, reduceIte, Nat.reduceEqDiff, Nat.reduceAdd, Nat.reduceMul, Nat.reduceLeDiff, Nat.zero_add, Nat.add_zero, Option.map_some, Int.reduceEq, Int.reduceLT, Int.reduceLE, Bool.false_eq_true, decide_true, decide_false, ge_iff_le, gt_iff_lt, set_get', new_next, hgA, hgB, Ins.cells, d2, d0, d1]; rfl) ?_))
    show Wc T _ _ _
    refine Wc_cond true (by simp [ev, upd]) (fun _ => ?_) (fun h => by cases h)
    refine Wc_seq (Wc_ops (Wo_run (fun call => by simp only [List.drop_succ_cons, List.drop_zero, iops_nil, iops_op, iops_grd, iK_some, iG_true, iG_false, gval_bool, beq_true, beq_false, Bool.not_true, Bool.not_false, iop, ev, upd, dstUpd, binV, binI, unV, ptr, Heap.cell, Heap.write, cellsOf, put, args0, partL, List.getD_cons_zero, List.getD_cons_succ, List.length_cons, List.length_nil, List.set_cons_zero, List.set_cons_succ, List.getElem?_cons_zero, List.getElem?_cons_succ, reduceIte, Nat.reduceEqDiff, Nat.reduceAdd, Nat.reduceMul, Nat.reduceLeDiff, Nat.zero_add, Nat.add_zero, Option.map_some, Int.reduceEq, Int.reduceLT, Int.reduceLE, Bool.false_eq_true, decide_true, decide_false, ge_iff_le, gt_iff_lt, set_get']; rfl) ?_))
    refine Wc_ret (bad _ (by simp [upd, dstUpd]) (by simp [Ins.key, c2]))
  have d2 : (x.b != y.b) = false := by simpa using c2
  by_cases c3 : x.c = y.c
  case neg =>
    have d3 : (x.c != y.c) = true := by simpa using c3
    refine Wc_seq (Wc_ops (Wo_run (fun call => by simp only [List.drop_succ_cons, List.drop_zero, iops_nil, iops_op, iops_grd, iK_some, iG_true, iG_false, gval_bool, beq_true, beq_false, Bool.not_true, Bool.not_false, iop, ev, upd, dstUpd, binV, binI, unV, ptr, Heap.cell, Heap.write, cellsOf, put, args0, partL, List.getD_cons_zero, List.getD_cons_succ, List.length_cons, List.length_nil, List.set_cons_zero, List.set_cons_succ, List.getElem?_cons_zero, List.getElem?_cons_succ, reduceIte, Nat.reduceEqDiff, Nat.reduceAdd, Nat.reduceMul, Nat.reduceLeDiff, Nat.zero_add, Nat.add_zero, Option.map_some, Int.reduceEq, Int.reduceLT, Int.reduceLE, Bool.false_eq_true, decide_true, decide_false, ge_iff_le, gt_iff_lt, set_get', new_next, hgA, hgB, Ins.cells, d3, d0, d1, d2]; rfl) ?_))
    show Wc T _ _ _
    refine Wc_cond true (by simp [ev, upd]) (fun _ => ?_) (fun h => by cases h)
    refine Wc_seq (Wc_ops (Wo_run (fun call => by simp only [List.drop_succ_cons, List.drop_zero, iops_nil, iops_op, iops_grd, iK_some, iG_true, iG_false, gval_bool, beq_true, beq_false, Bool.not_true, Bool.not_false, iop, ev, upd, dstUpd, binV, binI, unV, ptr, Heap.cell, Heap.write, cellsOf, put, args0, partL, List.getD_cons_zero, List.getD_cons_succ, List.length_cons, List.length_nil, List.set_cons_zero, List.set_cons_succ, List.getElem?_cons_zero, List.getElem?_cons_succ, reduceIte, Nat.reduceEqDiff, Nat.reduceAdd, Nat.reduceMul, Nat.reduceLeDiff, Nat.zero_add, Nat.add_zero, Option.map_some, Int.reduceEq, Int.reduceLT, Int.reduceLE, Bool.false_eq_true, decide_true, decide_false, ge_iff_le, gt_iff_lt, set_get']; rfl) ?_))
    refine Wc_ret (bad _ (by simp [upd, dstUpd]) (by simp [Ins.key, c3]))
  have d3 : (x.c != y.c) = false := by simpa using c3
  by_cases c4 : x.k = y.k
  case neg =>
    have d4 : (x.k != y.k) = true := by simpa using c4
    refine Wc_seq (Wc_ops (Wo_run (fun call => by simp only [List.drop_succ_cons, List.drop_zero, iops_nil, iops_op, iops_grd, iK_some, iG_true, iG_false, gval_bool, beq_true, beq_false, Bool.not_true, Bool.not_false, iop, ev, upd, dstUpd, binV, binI, unV, ptr, Heap.cell, Heap.write, cellsOf, put, args0, partL, List.getD_cons_zero, List.getD_cons_succ, List.length_cons, List.length_nil, List.set_cons_zero, List.set_cons_succ, List.getElem?_cons_zero, List.getElem?_cons_succ, reduceIte, Nat.reduceEqDiff, Nat.reduceAdd, Nat.reduceMul, Nat.reduceLeDiff, Nat.zero_add, Nat.add_zero, Option.map_some, Int.reduceEq, Int.reduceLT, Int.reduceLE, Bool.false_eq_true, decide_true, decide_false, ge_iff_le, gt_iff_lt, set_get', new_next, hgA, hgB, Ins.cells, d4, d0, d1, d2, d3]; rfl) ?_))
    show Wc T _ _ _
    refine Wc_cond true (by simp [ev, upd]) (fun _ => ?_) (fun h => by cases h)
    refine Wc_seq (Wc_ops (Wo_run (fun call => by simp only [List.drop_succ_cons, List.drop_zero, iops_nil, iops_op, iops_grd, iK_some, iG_true, iG_false, gval_bool, beq_true, beq_false, Bool.not_true, Bool.not_false, iop, ev, upd, dstUpd, binV, binI, unV, ptr, Heap.cell, Heap.write, cellsOf, put, args0, partL, List.getD_cons_zero, List.getD_cons_succ, List.length_cons, List.length_nil, List.set_cons_zero, List.set_cons_succ, List.getElem?_cons_zero, List.getElem?_cons_succ, reduceIte, Nat.reduceEqDiff, Nat.reduceAdd, Nat.reduceMul, Nat.reduceLeDiff, Nat.zero_add, Nat.add_zero, Option.map_some, Int.reduceEq, Int.reduceLT, Int.reduceLE, Bool.false_eq_true, decide_true, decide_false, ge_iff_le, gt_iff_lt, set_get']; rfl) ?_))
    refine Wc_ret (bad _ (by simp [upd, dstUpd]) (by simp [Ins.key, c4]))
  have d4 : (x.k != y.k) = false := by simpa using c4
  refine Wc_seq (Wc_ops (Wo_pre 38 (fun call => by simp only [List.take_succ_cons, List.take_zero, List.drop_succ_cons, List.drop_zero, iops_nil, iops_op, iops_grd, iK_some, iG_true, iG_false, gval_bool, beq_true, beq_false, Bool.not_true, Bool.not_false, iop, ev, upd, dstUpd, binV, binI, unV, ptr, Heap.cell, Heap.write, cellsOf, put, args0, partL, List.getD_cons_zero, List.getD_cons_succ, List.length_cons, List.length_nil, List.set_cons_zero, List.set_cons_succ, List.getElem?_cons_zero, List.getElem?_cons_succ, reduceIte, Nat.reduceEqDiff, Nat.reduceAdd, Nat.reduceMul, Nat.reduceLeDiff, Nat.zero_add, Nat.add_zero, Option.map_some, Int.reduceEq, Int.reduceLT, Int.reduceLE, Bool.false_eq_true, decide_true, decide_false, ge_iff_le, gt_iff_lt, set_get', new_next, hgA, hgB, Ins.cells, d0, d1, d2, d3, d4]; rfl) ?_))
  refine Wo_take (by simp only [dstUpd, upd, reduceIte, Nat.reduceEqDiff, gval_bool]; rfl) (Wo_call ?_)
  show Wk T (.fn 37) [x.lv, y.lv] hpB _
  refine (ints11 (C37_eq ▸ h37) (hxin.keep hkpB).ints (hyin.keep hkpB).ints (hsm.2 x (List.mem_of_getElem? hxi))).mono fun o h2 ⟨hh2, ho2⟩ => ?_
  subst hh2 ho2
  show Wo T _ _ _
  refine (Wo_run (fun call => by simp only [List.drop_succ_cons, List.drop_zero, iops_nil, iops_op, iops_grd, iK_some, iG_true, iG_false, gval_bool, beq_true, beq_false, Bool.not_true, Bool.not_false, iop, ev, upd, dstUpd, binV, binI, unV, ptr, Heap.cell, Heap.write, cellsOf, put, args0, partL, List.getD_cons_zero, List.getD_cons_succ, List.length_cons, List.length_nil, List.set_cons_zero, List.set_cons_succ, List.getElem?_cons_zero, List.getElem?_cons_succ, reduceIte, Nat.reduceEqDiff, Nat.reduceAdd, Nat.reduceMul, Nat.reduceLeDiff, Nat.zero_add, Nat.add_zero, Option.map_some, Int.reduceEq, Int.reduceLT, Int.reduceLE, Bool.false_eq_true, decide_true, decide_false, ge_iff_le, gt_iff_lt, set_get']; rfl) ?_)
  show Wc T _ _ _
  refine Wc_cond (!decide (x.l = y.l)) (by simp [ev, upd]) (fun hne => ?_) (fun heq => Wc_skip ?_)
  · refine Wc_seq (Wc_ops (Wo_run (fun call => by simp only [List.drop_succ_cons, List.drop_zero, iops_nil, iops_op, iops_grd, iK_some, iG_true, iG_false, gval_bool, beq_true, beq_false, Bool.not_true, Bool.not_false, iop, ev, upd, dstUpd, binV, binI, unV, ptr, Heap.cell, Heap.write, cellsOf, put, args0, partL, List.getD_cons_zero, List.getD_cons_succ, List.length_cons, List.length_nil, List.set_cons_zero, List.set_cons_succ, List.getElem?_cons_zero, List.getElem?_cons_succ, reduceIte, Nat.reduceEqDiff, Nat.reduceAdd, Nat.reduceMul, Nat.reduceLeDiff, Nat.zero_add, Nat.add_zero, Option.map_some, Int.reduceEq, Int.reduceLT, Int.reduceLE, Bool.false_eq_true, decide_true, decide_false, ge_iff_le, gt_iff_lt, set_get']; rfl) ?_))
    refine Wc_ret (bad _ (by simp [upd, dstUpd]) ?_)
    have : ¬ x.l = y.l := by simpa using hne
    simp [Ins.key, this]
  show Wc T _ _ _
  have hll : x.l = y.l := by simpa using heq
  refine Wc_ops (Wo_run (fun call => by simp only [List.drop_succ_cons, List.drop_zero, iops_nil, iops_op, iops_grd, iK_some, iG_true, iG_false, gval_bool, beq_true, beq_false, Bool.not_true, Bool.not_false, iop, ev, upd, dstUpd, binV, binI, unV, ptr, Heap.cell, Heap.write, cellsOf, put, args0, partL, List.getD_cons_zero, List.getD_cons_succ, List.length_cons, List.length_nil, List.set_cons_zero, List.set_cons_succ, List.getElem?_cons_zero, List.getElem?_cons_succ, reduceIte, Nat.reduceEqDiff, Nat.reduceAdd, Nat.reduceMul, Nat.reduceLeDiff, Nat.zero_add, Nat.add_zero, Option.map_some, Int.reduceEq, Int.reduceLT, Int.reduceLE, Bool.false_eq_true, decide_true, decide_false, ge_iff_le, gt_iff_lt, set_get', k79, e1']; rfl) ?_)
  refine ⟨⟨rfl, hk.trans hkpB, fun t h1 h2 h3 h4 h5 => ?_, i + 1, by omega, ?_, ?_⟩, ?_⟩
  · simp only [upd]
    repeat rw [if_neg (by omega)]
    exact hfr t h1 h2 h3 h4 h5
  · simp only [upd, Nat.reduceEqDiff, reduceIte]
  · rw [List.map_take, List.map_take] at ht ⊢
    exact take_eq_succ ht (x := x.key) (by simp [hxi]) (by simp [hyi, Ins.key, c0, c1, c2, c3, c4, hll])
  · simp only [upd, Nat.reduceEqDiff, reduceIte, k79]; omega

theorem same19 {T : Tbl} (hT : T.fn 19 = some C19) (h37 : T.fn 37 = some C37) (x y : Cod) (h : Heap) (hx : x.Ok h) (hy : y.Ok h) (hs : x.small) : Wk T (.fn 19) [.agg x.cells.toArray, .agg y.cells.toArray] h (fun o h' => Kept h h' ∧ o = .ret (.bool (decide (x.key = y.key)))) := by
  refine Wk_fn hT (by simp [C19]) ?_
  simp only [C19]
  have hb : iop (.box (.t 0)) (args0 [.agg x.cells.toArray, .agg y.cells.toArray]) h = some (ptr h.next 0, h.new (.cells x.cells true 0)) := by simp [iop, ev, args0, cellsOf]
  have hb2 : iop (.box (.t 1)) (dstUpd (args0 [.agg x.cells.toArray, .agg y.cells.toArray]) (some 2) (ptr h.next 0)) (h.new (.cells x.cells true 0)) = some (ptr (h.next + 1) 0, (h.new (.cells x.cells true 0)).new (.cells y.cells true 0)) := by simp [iop, ev, args0, cellsOf, dstUpd, upd, new_next]
  refine Wc_seq (Wc_ops (Wo_op hb (Wo_op hb2 (Wo_run (fun call => by simp only [List.drop_succ_cons, List.drop_zero, iops_nil, iops_op, iops_grd, iK_some, iG_true, iG_false, gval_bool, beq_true, beq_false, Bool.not_true, Bool.not_false, iop, ev, upd, dstUpd, binV, binI, unV, ptr, Heap.cell, Heap.write, cellsOf, put, args0, partL, List.getD_cons_zero, List.getD_cons_succ, List.length_cons, List.length_nil, List.set_cons_zero, List.set_cons_succ, List.getElem?_cons_zero, List.getElem?_cons_succ, reduceIte, Nat.reduceEqDiff, Nat.reduceAdd, Nat.reduceMul, Nat.reduceLeDiff, Nat.zero_add, Nat.add_zero, Option.map_some, Int.reduceEq, Int.reduceLT, Int.reduceLE, Bool.false_eq_true, decide_true, decide_false, ge_iff_le, gt_iff_lt, set_get']; rfl) ?_))))
  show Wc T _ _ _
  have hg3 : ((h.new (.cells x.cells true 0)).new (.cells y.cells true 0)).get (h.next + 1) = some (.cells y.cells true 0) := new_get' _ _
  have hg2 : ((h.new (.cells x.cells true 0)).new (.cells y.cells true 0)).get h.next = some (.cells x.cells true 0) := by rw [new_get_ne' _ _ (by rw [new_next]; omega), new_get']
  have hk : Kept h ((h.new (.cells x.cells true 0)).new (.cells y.cells true 0)) := ((Kept.refl h).new _).new _
  have hn1 : ((h.new (.cells x.cells true 0)).new (.cells y.cells true 0)).next = h.next + 2 := rfl
  generalize (h.new (.cells x.cells true 0)).new (.cells y.cells true 0) = h1 at hg2 hg3 hk hn1 ⊢
  have fin : ∀ (e : Env) (hp : Heap) (r : Bool), Kept h1 hp → e 4 = .bool r → decide (x.key = y.key) = r → ((Ex.ret = .normal ∨ Ex.ret = .ret) ∧ some ([] : List Dfr) = some [] ∧ ∃ vs, resAll e hp [.tmp 4] = some vs ∧ Kept h hp ∧ Out.ret (tup vs) = .ret (.bool (decide (x.key = y.key)))) := by
    intro e hp r hk1 h4 hr
    exact ⟨.inr rfl, rfl, [.bool r], by simp only [resAll, resV, h4], hk.trans hk1, by rw [hr]; rfl⟩
  obtain ⟨pa, ca, hfx⟩ := hx.funcs.len
  obtain ⟨pb, cb, hfy⟩ := hy.funcs.len
  by_cases c0 : x.funcs.length = y.funcs.length
  case neg =>
    have d0 : ((x.funcs.length : Int) != (y.funcs.length : Int)) = true := by simp; omega
    refine Wc_seq (Wc_seq (Wc_ops (Wo_run (fun call => by simp only [List.drop_succ_cons, List.drop_zero, iops_nil, iops_op, iops_grd, iK_some, iG_true, iG_false, gval_bool, beq_true, beq_false, Bool.not_true, Bool.not_false, iop, ev, upd, dstUpd, binV, binI, unV, ptr, Heap.cell, Heap.write, cellsOf, put, args0, partL, List.getD_cons_zero, List.getD_cons_succ, List.length_cons, List.length_nil, List.set_cons_zero, List.set_cons_succ, List.getElem?_cons_zero, List.getElem?_cons_succ, reduceIte, Nat.reduceEqDiff, Nat.reduceAdd, Nat.reduceMul, Nat.reduceLeDiff, Nat.zero_add, Nat.add_zero, Option.map_some, Int.reduceEq, Int.reduceLT, Int.reduceLE, Bool.false_eq_true, decide_true, decide_false, ge_iff_le, gt_iff_lt, set_get', hg2, hg3, Cod.cells, hfx, hfy, d0]; rfl) ?_)))
    show Wc T _ _ _
    refine Wc_cond true (by simp [ev, upd]) (fun _ => ?_) (fun h => by cases h)
    refine Wc_seq (Wc_ops (Wo_run (fun call => by simp only [List.drop_succ_cons, List.drop_zero, iops_nil, iops_op, iops_grd, iK_some, iG_true, iG_false, gval_bool, beq_true, beq_false, Bool.not_true, Bool.not_false, iop, ev, upd, dstUpd, binV, binI, unV, ptr, Heap.cell, Heap.write, cellsOf, put, args0, partL, List.getD_cons_zero, List.getD_cons_succ, List.length_cons, List.length_nil, List.set_cons_zero, List.set_cons_succ, List.getElem?_cons_zero, List.getElem?_cons_succ, reduceIte, Nat.reduceEqDiff, Nat.reduceAdd, Nat.reduceMul, Nat.reduceLeDiff, Nat.zero_add, Nat.add_zero, Option.map_some, Int.reduceEq, Int.reduceLT, Int.reduceLE, Bool.false_eq_true, decide_true, decide_false, ge_iff_le, gt_iff_lt, set_get']; rfl) ?_))
    refine Wc_ret (fin _ _ false (.refl _) (by simp [upd, dstUpd]) ?_)
    simp only [decide_eq_false_iff_not]
    intro e
    have := congrArg (fun k : CodK => k.funcs.length) e
    simp [Cod.key] at this
    exact c0 this
  have d0 : ((x.funcs.length : Int) != (y.funcs.length : Int)) = false := by simp; omega
  by_cases c1 : x.main = y.main
  case neg =>
    have d1 : (x.main != y.main) = true := by simpa using c1
    refine Wc_seq (Wc_seq (Wc_ops (Wo_run (fun call => by simp only [List.drop_succ_cons, List.drop_zero, iops_nil, iops_op, iops_grd, iK_some, iG_true, iG_false, gval_bool, beq_true, beq_false, Bool.not_true, Bool.not_false, iop, ev, upd, dstUpd, binV, binI, unV, ptr, Heap.cell, Heap.write, cellsOf, put, args0, partL, List.getD_cons_zero, List.getD_cons_succ, List.length_cons, List.length_nil, List.set_cons_zero, List.set_cons_succ, List.getElem?_cons_zero, List.getElem?_cons_succ, reduceIte, Nat.reduceEqDiff, Nat.reduceAdd, Nat.reduceMul, Nat.reduceLeDiff, Nat.zero_add, Nat.add_zero, Option.map_some, Int.reduceEq, Int.reduceLT, Int.reduceLE, Bool.false_eq_true, decide_true, decide_false, ge_iff_le, gt_iff_lt, set_get', hg2, hg3, Cod.cells, hfx, hfy, d0, d1]; rfl) ?_)))
    show Wc T _ _ _
    refine Wc_cond true (by simp [ev, upd]) (fun _ => ?_) (fun h => by cases h)
    refine Wc_seq (Wc_ops (Wo_run (fun call => by simp only [List.drop_succ_cons, List.drop_zero, iops_nil, iops_op, iops_grd, iK_some, iG_true, iG_false, gval_bool, beq_true, beq_false, Bool.not_true, Bool.not_false, iop, ev, upd, dstUpd, binV, binI, unV, ptr, Heap.cell, Heap.write, cellsOf, put, args0, partL, List.getD_cons_zero, List.getD_cons_succ, List.length_cons, List.length_nil, List.set_cons_zero, List.set_cons_succ, List.getElem?_cons_zero, List.getElem?_cons_succ, reduceIte, Nat.reduceEqDiff, Nat.reduceAdd, Nat.reduceMul, Nat.reduceLeDiff, Nat.zero_add, Nat.add_zero, Option.map_some, Int.reduceEq, Int.reduceLT, Int.reduceLE, Bool.false_eq_true, decide_true, decide_false, ge_iff_le, gt_iff_lt, set_get']; rfl) ?_))
    exact Wc_ret (fin _ _ false (.refl _) (by simp [upd, dstUpd]) (by simp [Cod.key, c1]))
  have d1 : (x.main != y.main) = false := by simpa using c1
  by_cases c2 : x.merges = y.merges
  case neg =>
    have d2 : (x.merges != y.merges) = true := by simpa using c2
    refine Wc_seq (Wc_seq (Wc_ops (Wo_run (fun call => by simp only [List.drop_succ_cons, List.drop_zero, iops_nil, iops_op, iops_grd, iK_some, iG_true, iG_false, gval_bool, beq_true, beq_false, Bool.not_true, Bool.not_false, iop, ev, upd, dstUpd, binV, binI, unV, ptr, Heap.cell, Heap.write, cellsOf, put, args0, partL, List.getD_cons_zero, List.getD_cons_succ, List.length_cons, List.length_nil, List.set_cons_zero, List.set_cons_succ, List.getElem?_cons_zero, List.getElem?_cons_succ, reduceIte, Nat.reduceEqDiff, Nat.reduceAdd, Nat.reduceMul, Nat.reduceLeDiff, Nat.zero_add, Nat.add_zero, Option.map_some, Int.reduceEq, Int.reduceLT, Int.reduceLE, Bool.false_eq_true, decide_true, decide_false, ge_iff_le, gt_iff_lt, set_get', hg2, hg3, Cod.cells, hfx, hfy, d0, d1, d2]; rfl) ?_)))
    show Wc T _ _ _
    refine Wc_cond true (by simp [ev, upd]) (fun _ => ?_) (fun h => by cases h)
    refine Wc_seq (Wc_ops (Wo_run (fun call => by simp only [List.drop_succ_cons, List.drop_zero, iops_nil, iops_op, iops_grd, iK_some, iG_true, iG_false, gval_bool, beq_true, beq_false, Bool.not_true, Bool.not_false, iop, ev, upd, dstUpd, binV, binI, unV, ptr, Heap.cell, Heap.write, cellsOf, put, args0, partL, List.getD_cons_zero, List.getD_cons_succ, List.length_cons, List.length_nil, List.set_cons_zero, List.set_cons_succ, List.getElem?_cons_zero, List.getElem?_cons_succ, reduceIte, Nat.reduceEqDiff, Nat.reduceAdd, Nat.reduceMul, Nat.reduceLeDiff, Nat.zero_add, Nat.add_zero, Option.map_some, Int.reduceEq, Int.reduceLT, Int.reduceLE, Bool.false_eq_true, decide_true, decide_false, ge_iff_le, gt_iff_lt, set_get']; rfl) ?_))
    exact Wc_ret (fin _ _ false (.refl _) (by simp [upd, dstUpd]) (by simp [Cod.key, c2]))
  have d2 : (x.merges != y.merges) = false := by simpa using c2
  refine Wc_seq (Wc_seq (Wc_ops (Wo_run (fun call => by simp only [List.drop_succ_cons, List.drop_zero, iops_nil, iops_op, iops_grd, iK_some, iG_true, iG_false, gval_bool, beq_true, beq_false, Bool.not_true, Bool.not_false, iop, ev, upd, dstUpd, binV, binI, unV, ptr, Heap.cell, Heap.write, cellsOf, put, args0, partL, List.getD_cons_zero, List.getD_cons_succ, List.length_cons, List.length_nil, List.set_cons_zero, List.set_cons_succ, List.getElem?_cons_zero, List.getElem?_cons_succ, reduceIte, Nat.reduceEqDiff, Nat.reduceAdd, Nat.reduceMul, Nat.reduceLeDiff, Nat.zero_add, Nat.add_zero, Option.map_some, Int.reduceEq, Int.reduceLT, Int.reduceLE, Bool.false_eq_true, decide_true, decide_false, ge_iff_le, gt_iff_lt, set_get', hg2, hg3, Cod.cells, hfx, hfy, d0, d1, d2]; rfl) ?_)))
  show Wc T _ _ _
  refine Wc_cond false (by simp [ev, upd]) (fun h => by cases h) (fun _ => Wc_skip ?_)
  show Wc T _ _ _
  refine Wc_seq (Wc_seq (Wc_ops (Wo_run (fun call => by simp only [List.drop_succ_cons, List.drop_zero, iops_nil, iops_op, iops_grd, iK_some, iG_true, iG_false, gval_bool, beq_true, beq_false, Bool.not_true, Bool.not_false, iop, ev, upd, dstUpd, binV, binI, unV, ptr, Heap.cell, Heap.write, cellsOf, put, args0, partL, List.getD_cons_zero, List.getD_cons_succ, List.length_cons, List.length_nil, List.set_cons_zero, List.set_cons_succ, List.getElem?_cons_zero, List.getElem?_cons_succ, reduceIte, Nat.reduceEqDiff, Nat.reduceAdd, Nat.reduceMul, Nat.reduceLeDiff, Nat.zero_add, Nat.add_zero, Option.map_some, Int.reduceEq, Int.reduceLT, Int.reduceLE, Bool.false_eq_true, decide_true, decide_false, ge_iff_le, gt_iff_lt, set_get', hg2, Cod.cells, hfx]; rfl) ?_)))
  show Wc T _ _ _
  refine Wc_block (Wc_loop (fun s => s.d = some [] ∧ Kept h1 s.h ∧ s.e 2 = ptr h.next 0 ∧ s.e 3 = ptr (h.next + 1) 0 ∧ s.e 34 = .int .i64 x.funcs.length ∧ ∃ i : Nat, i ≤ x.funcs.length ∧ s.e 35 = .int .i64 i ∧ (x.funcs.take i).map Fn.key = (y.funcs.take i).map Fn.key)
    (fun s => match s.e 35 with | .int _ i => (x.funcs.length - i).toNat | _ => 0) ?_ ?_)
  · exact ⟨rfl, .refl _, by simp [upd, dstUpd, ptr], by simp [upd, dstUpd, ptr], by simp [upd, dstUpd], 0, Nat.zero_le _, by simp [upd, dstUpd], rfl⟩
  rintro ⟨e, hp, d⟩ ⟨hd, hkp, g2, g3, g34, i, hi, g35, ht⟩
  simp only at hd hkp g2 g3 g34 g35
  subst hd
  rw [C19L1]
  have kg2 : hp.get h.next = some (.cells x.cells true 0) := by rw [hkp.get _ (by omega)]; exact hg2
  have kg3 : hp.get (h.next + 1) = some (.cells y.cells true 0) := by rw [hkp.get _ (by omega)]; exact hg3
  have hnp : h.next + 2 ≤ hp.next := by have := hkp.next; omega
  refine Wc_seq (Wc_ops (Wo_run (fun call => by simp only [List.drop_succ_cons, List.drop_zero, iops_nil, iops_op, iops_grd, iK_some, iG_true, iG_false, gval_bool, beq_true, beq_false, Bool.not_true, Bool.not_false, iop, ev, upd, dstUpd, binV, binI, unV, ptr, Heap.cell, Heap.write, cellsOf, put, args0, partL, List.getD_cons_zero, List.getD_cons_succ, List.length_cons, List.length_nil, List.set_cons_zero, List.set_cons_succ, List.getElem?_cons_zero, List.getElem?_cons_succ, reduceIte, Nat.reduceEqDiff, Nat.reduceAdd, Nat.reduceMul, Nat.reduceLeDiff, Nat.zero_add, Nat.add_zero, Option.map_some, Int.reduceEq, Int.reduceLT, Int.reduceLE, Bool.false_eq_true, decide_true, decide_false, ge_iff_le, gt_iff_lt, set_get', g34, g35]; rfl) ?_))
  show Wc T _ _ _
  refine Wc_seq (Wc_cond (decide ((i : Int) < x.funcs.length)) (by simp [ev, upd]) (fun hlt => Wc_skip ?_) (fun hge => Wc_exit ?_))
  case refine_2 =>
    show Wc T _ _ _
    have : i = x.funcs.length := by simp at hge; omega
    subst this
    rw [List.take_length, c0, List.take_length] at ht
    refine Wc_seq (Wc_ops (Wo_run (fun call => by simp only [List.drop_succ_cons, List.drop_zero, iops_nil, iops_op, iops_grd, iK_some, iG_true, iG_false, gval_bool, beq_true, beq_false, Bool.not_true, Bool.not_false, iop, ev, upd, dstUpd, binV, binI, unV, ptr, Heap.cell, Heap.write, cellsOf, put, args0, partL, List.getD_cons_zero, List.getD_cons_succ, List.length_cons, List.length_nil, List.set_cons_zero, List.set_cons_succ, List.getElem?_cons_zero, List.getElem?_cons_succ, reduceIte, Nat.reduceEqDiff, Nat.reduceAdd, Nat.reduceMul, Nat.reduceLeDiff, Nat.zero_add, Nat.add_zero, Option.map_some, Int.reduceEq, Int.reduceLT, Int.reduceLE, Bool.false_eq_true, decide_true, decide_false, ge_iff_le, gt_iff_lt, set_get']; rfl) ?_))
    exact Wc_ret (fin _ _ true hkp (by simp [upd, dstUpd]) (by simp [Cod.key, c1, c2, ht]))
  show Wc T _ _ _
  have hil : i < x.funcs.length := by simpa using hlt
  have hil2 : i < y.funcs.length := by omega
  obtain ⟨f, hxi⟩ : ∃ f, x.funcs[i]? = some f := ⟨_, List.getElem?_eq_getElem hil⟩
  obtain ⟨g, hyi⟩ : ∃ g, y.funcs[i]? = some g := ⟨_, List.getElem?_eq_getElem hil2⟩
  obtain ⟨bx, cx, hva, hbx, _, hcx, hxin⟩ := ((hx.keep (hk.trans hkp)).funcs).load fnCells_len hxi
  obtain ⟨by', cy, hvb, hby, _, hcy, hyin⟩ := ((hy.keep (hk.trans hkp)).funcs).load fnCells_len hyi
  have e1' : IntKind.i64.wrap ((i : Int) + 1) = ((i + 1 : Nat) : Int) := by
    have := hs.1
    unfold Idl.small at this
    rw [wrap64] <;> omega
  refine Wc_seq (Wc_block (Wc_seq (Wc_ops (Wo_run (fun call => by simp only [List.drop_succ_cons, List.drop_zero, iops_nil, iops_op, iops_grd, iK_some, iG_true, iG_false, gval_bool, beq_true, beq_false, Bool.not_true, Bool.not_false, iop, ev, upd, dstUpd, binV, binI, unV, ptr, Heap.cell, Heap.write, cellsOf, put, args0, partL, List.getD_cons_zero, List.getD_cons_succ, List.length_cons, List.length_nil, List.set_cons_zero, List.set_cons_succ, List.getElem?_cons_zero, List.getElem?_cons_succ, reduceIte, Nat.reduceEqDiff, Nat.reduceAdd, Nat.reduceMul, Nat.reduceLeDiff, Nat.zero_add, Nat.add_zero, Option.map_some, Int.reduceEq, Int.reduceLT, Int.reduceLE, Bool.false_eq_true, decide_true, decide_false, ge_iff_le, gt_iff_lt, set_get', g35]; rfl) ?_))))
  show Wc T _ _ _
  refine Wc_seq (Wc_draw ?_)
  refine Wd_P rfl (by simp only [iop, ev, dstUpd, upd, reduceIte, Nat.reduceEqDiff, g2, ptr]; rfl) ?_
  refine Wd_R rfl (by simp only [iop, ev, dstUpd, upd, reduceIte, Nat.reduceEqDiff, Heap.cell, kg2, Cod.cells, Nat.zero_add, List.getElem?_cons_zero, List.getElem?_cons_succ, Option.map_some]; rfl) (fun p hp => (by cases hp)) ?_
  refine Wd_P rfl rfl ?_
  refine Wd_P rfl (iop_iaddr (b := bx) (len := x.funcs.length) (c := cx) (i := i) (by simp only [upd, dstUpd, reduceIte, Nat.reduceEqDiff]; exact hva) (by simp only [upd, dstUpd, reduceIte, Nat.reduceEqDiff, ev, g35]) hil) ?_
  refine Wd_R rfl (iop_load (b := bx) (o := i * 4) (cs := f.cells) (by simp only [upd, dstUpd, reduceIte, Nat.reduceEqDiff]) hcx) (fun p hp => (by cases hp)) ?_
  refine Wd_P rfl (by simp only [iop, ev, dstUpd, upd, reduceIte, Nat.reduceEqDiff, g3, ptr]; rfl) ?_
  refine Wd_R rfl (by simp only [iop, ev, dstUpd, upd, reduceIte, Nat.reduceEqDiff, Heap.cell, kg3, Cod.cells, Nat.zero_add, List.getElem?_cons_zero, List.getElem?_cons_succ, Option.map_some]; rfl) (fun p hp => (by cases hp)) ?_
  refine Wd_P rfl rfl ?_
  refine Wd_P rfl (iop_iaddr (b := by') (len := y.funcs.length) (c := cy) (i := i) (by simp only [upd, dstUpd, reduceIte, Nat.reduceEqDiff]; exact hvb) (by simp only [upd, dstUpd, reduceIte, Nat.reduceEqDiff, ev, g35]) hil2) ?_
  refine Wd_R rfl (iop_load (b := by') (o := i * 4) (cs := g.cells) (by simp only [upd, dstUpd, reduceIte, Nat.reduceEqDiff]) hcy) (fun p hp => (by cases hp)) ?_
  refine Wd_A rfl (by simp only [iop]; rfl) (Wd_A rfl (by simp only [iop]; rfl) ?_)
  simp only [locOp, ev, dstUpd, upd, reduceIte, Nat.reduceEqDiff, ptr]
  refine Wd_E rfl (iop_store (b := hp.next) (esz := 0) (cs := f.cells) (z := [(.string ⟨#[]⟩), (.int .i64 0), (.int .i64 0), (.slice none 0 0)]) (by simp only [upd, dstUpd, reduceIte, Nat.reduceEqDiff, ptr]) (by simp only [upd, dstUpd, reduceIte, Nat.reduceEqDiff]) (fnCells_len f) (by rw [new_get_ne' _ _ (by rw [new_next]; omega), new_get']) rfl) ?_ ?_
  · intro p hp'
    simp only [List.mem_cons, List.not_mem_nil, or_false] at hp'
    rcases hp' with rfl | rfl | rfl | rfl | rfl | rfl
    · exact .inl (by simp)
    · exact .inl (by simp)
    · exact .inr (sameAt_cells (by omega))
    · exact .inr (sameAt_cells (by omega))
    · exact .inl (by simp)
    · exact .inl (by simp)
  refine Wd_E rfl (iop_store (b := hp.next + 1) (esz := 0) (cs := g.cells) (z := [(.string ⟨#[]⟩), (.int .i64 0), (.int .i64 0), (.slice none 0 0)]) (by simp only [upd, dstUpd, reduceIte, Nat.reduceEqDiff, ptr, new_next]) (by simp only [upd, dstUpd, reduceIte, Nat.reduceEqDiff]) (fnCells_len g) (by rw [set_get_ne' _ _ (by omega)]; exact new_get' _ _) rfl) ?_ ?_
  · intro p hp'
    simp only [List.mem_cons, List.not_mem_nil, or_false] at hp'
    rcases hp' with rfl | rfl | rfl | rfl | rfl | rfl <;> exact .inl (by simp)
  refine Wd_nil ?_
  show Wc T _ _ _
  have hkpB : Kept hp (((hp.new (.cells [(.string ⟨#[]⟩), (.int .i64 0), (.int .i64 0), (.slice none 0 0)] true 0)).new (.cells [(.string ⟨#[]⟩), (.int .i64 0), (.int .i64 0), (.slice none 0 0)] true 0)).set hp.next (.cells f.cells true 0) |>.set (hp.next + 1) (.cells g.cells true 0)) := ((((Kept.refl hp).new _).new _).set (Nat.le_refl _) _).set (Nat.le_succ _) _
  have hgB : (((hp.new (.cells [(.string ⟨#[]⟩), (.int .i64 0), (.int .i64 0), (.slice none 0 0)] true 0)).new (.cells [(.string ⟨#[]⟩), (.int .i64 0), (.int .i64 0), (.slice none 0 0)] true 0)).set hp.next (.cells f.cells true 0) |>.set (hp.next + 1) (.cells g.cells true 0)).get (hp.next + 1) = some (.cells g.cells true 0) := set_get' _ _ _
  have hgA : (((hp.new (.cells [(.string ⟨#[]⟩), (.int .i64 0), (.int .i64 0), (.slice none 0 0)] true 0)).new (.cells [(.string ⟨#[]⟩), (.int .i64 0), (.int .i64 0), (.slice none 0 0)] true 0)).set hp.next (.cells f.cells true 0) |>.set (hp.next + 1) (.cells g.cells true 0)).get hp.next = some (.cells f.cells true 0) := by
    rw [set_get_ne' _ _ (by omega), set_get']
  have hnB : hp.next + 1 < (((hp.new (.cells [(.string ⟨#[]⟩), (.int .i64 0), (.int .i64 0), (.slice none 0 0)] true 0)).new (.cells [(.string ⟨#[]⟩), (.int .i64 0), (.int .i64 0), (.slice none 0 0)] true 0)).set hp.next (.cells f.cells true 0) |>.set (hp.next + 1) (.cells g.cells true 0)).next := Nat.lt_succ_self _
  generalize (((hp.new (.cells [(.string ⟨#[]⟩), (.int .i64 0), (.int .i64 0), (.slice none 0 0)] true 0)).new (.cells [(.string ⟨#[]⟩), (.int .i64 0), (.int .i64 0), (.slice none 0 0)] true 0)).set hp.next (.cells f.cells true 0) |>.set (hp.next + 1) (.cells g.cells true 0)) = hpB at hkpB hgA hgB hnB ⊢
  have hkB : Kept h1 hpB := hkp.trans hkpB
  have bad : ∀ (e' : Env) (hq : Heap), Kept hpB hq → e' 4 = .bool false → f.key ≠ g.key → ((Ex.ret = .normal ∨ Ex.ret = .ret) ∧ some ([] : List Dfr) = some [] ∧ ∃ vs, resAll e' hq [.tmp 4] = some vs ∧ Kept h hq ∧ Out.ret (tup vs) = .ret (.bool (decide (x.key = y.key)))) := by
    intro e' hq hkq h4 hne
    refine fin e' hq false (hkB.trans hkq) h4 ?_
    simp only [decide_eq_false_iff_not]
    intro e
    exact ne_of_at (i := i) (x := f.key) (y := g.key) (a := x.funcs.map Fn.key) (b := y.funcs.map Fn.key) (by simp [hxi]) (by simp [hyi]) hne (congrArg CodK.funcs e)
  obtain ⟨qa, ra, hfc⟩ := hxin.code.len
  obtain ⟨qb, rb, hgc⟩ := hyin.code.len
  by_cases q0 : f.name = g.name
  case neg =>
    have r0 : (!decide (f.name = g.name)) = true := by simpa using q0
    refine Wc_seq (Wc_seq (Wc_ops (Wo_run (fun call => by simp only [List.drop_succ_cons, List.drop_zero, iops_nil, iops_op, iops_grd, iK_some, iG_true, iG_false, gval_bool, beq_true, beq_false, Bool.not_true, Bool.not_false, iop, ev, upd, dstUpd, binV, binI, unV, ptr, Heap.cell, Heap.write, cellsOf, put, args0, partL, List.getD_cons_zero, List.getD_cons_succ, List.length_cons, List.length_nil, List.set_cons_zero, List.set_cons_succ, List.getElem?_cons_zero, List.getElem?_cons_succ, reduceIte, Nat.reduceEqDiff, Nat.reduceAdd, Nat.reduceMul, Nat.reduceLeDiff, Nat.zero_add, Nat.add_zero, Option.map_some, Int.reduceEq, Int.reduceLT, Int.reduceLE, Bool.false_eq_true, decide_true, decide_false, ge_iff_le, gt_iff_lt, set_get', new_next, hgA, hgB, Fn.cells, r0]; rfl) ?_)))
    show Wc T _ _ _
    refine Wc_cond true (by simp [ev, upd]) (fun _ => ?_) (fun h => by cases h)
    refine Wc_seq (Wc_ops (Wo_run (fun call => by simp only [List.drop_succ_cons, List.drop_zero, iops_nil, iops_op, iops_grd, iK_some, iG_true, iG_false, gval_bool, beq_true, beq_false, Bool.not_true, Bool.not_false, iop, ev, upd, dstUpd, binV, binI, unV, ptr, Heap.cell, Heap.write, cellsOf, put, args0, partL, List.getD_cons_zero, List.getD_cons_succ, List.length_cons, List.length_nil, List.set_cons_zero, List.set_cons_succ, List.getElem?_cons_zero, List.getElem?_cons_succ, reduceIte, Nat.reduceEqDiff, Nat.reduceAdd, Nat.reduceMul, Nat.reduceLeDiff, Nat.zero_add, Nat.add_zero, Option.map_some, Int.reduceEq, Int.reduceLT, Int.reduceLE, Bool.false_eq_true, decide_true, decide_false, ge_iff_le, gt_iff_lt, set_get']; rfl) ?_))
    refine Wc_ret (bad _ _ (.refl _) (by simp [upd, dstUpd]) (by simp [Fn.key, q0]))
  have r0 : (!decide (f.name = g.name)) = false := by simpa using q0
  by_cases q1 : f.params = g.params
  case neg =>
    have r1 : (f.params != g.params) = true := by simpa using q1
    refine Wc_seq (Wc_seq (Wc_ops (Wo_run (fun call => by simp only [List.drop_succ_cons, List.drop_zero, iops_nil, iops_op, iops_grd, iK_some, iG_true, iG_false, gval_bool, beq_true, beq_false, Bool.not_true, Bool.not_false, iop, ev, upd, dstUpd, binV, binI, unV, ptr, Heap.cell, Heap.write, cellsOf, put, args0, partL, List.getD_cons_zero, List.getD_cons_succ, List.length_cons, List.length_nil, List.set_cons_zero, List.set_cons_succ, List.getElem?_cons_zero, List.getElem?_cons_succ, reduceIte, Nat.reduceEqDiff, Nat.reduceAdd, Nat.reduceMul, Nat.reduceLeDiff, Nat.zero_add, Nat.add_zero, Option.map_some, Int.reduceEq, Int.reduceLT, Int.reduceLE, Bool.false_eq_true, decide_true, decide_false, ge_iff_le, gt_iff_lt, set_get', new_next, hgA, hgB, Fn.cells, r1, r0]; rfl) ?_)))
    show Wc T _ _ _
    refine Wc_cond true (by simp [ev, upd]) (fun _ => ?_) (fun h => by cases h)
    refine Wc_seq (Wc_ops (Wo_run (fun call => by simp only [List.drop_succ_cons, List.drop_zero, iops_nil, iops_op, iops_grd, iK_some, iG_true, iG_false, gval_bool, beq_true, beq_false, Bool.not_true, Bool.not_false, iop, ev, upd, dstUpd, binV, binI, unV, ptr, Heap.cell, Heap.write, cellsOf, put, args0, partL, List.getD_cons_zero, List.getD_cons_succ, List.length_cons, List.length_nil, List.set_cons_zero, List.set_cons_succ, List.getElem?_cons_zero, List.getElem?_cons_succ, reduceIte, Nat.reduceEqDiff, Nat.reduceAdd, Nat.reduceMul, Nat.reduceLeDiff, Nat.zero_add, Nat.add_zero, Option.map_some, Int.reduceEq, Int.reduceLT, Int.reduceLE, Bool.false_eq_true, decide_true, decide_false, ge_iff_le, gt_iff_lt, set_get']; rfl) ?_))
    refine Wc_ret (bad _ _ (.refl _) (by simp [upd, dstUpd]) (by simp [Fn.key, q1]))
  have r1 : (f.params != g.params) = false := by simpa using q1
  by_cases q2 : f.regs = g.regs
  case neg =>
    have r2 : (f.regs != g.regs) = true := by simpa using q2
    refine Wc_seq (Wc_seq (Wc_ops (Wo_run (fun call => by simp only [List.drop_succ_cons, List.drop_zero, iops_nil, iops_op, iops_grd, iK_some, iG_true, iG_false, gval_bool, beq_true, beq_false, Bool.not_true, Bool.not_false, iop, ev, upd, dstUpd, binV, binI, unV, ptr, Heap.cell, Heap.write, cellsOf, put, args0, partL, List.getD_cons_zero, List.getD_cons_succ, List.length_cons, List.length_nil, List.set_cons_zero, List.set_cons_succ, List.getElem?_cons_zero, List.getElem?_cons_succ, reduceIte, Nat.reduceEqDiff, Nat.reduceAdd, Nat.reduceMul, Nat.reduceLeDiff, Nat.zero_add, Nat.add_zero, Option.map_some, Int.reduceEq, Int.reduceLT, Int.reduceLE, Bool.false_eq_true, decide_true, decide_false, ge_iff_le, gt_iff_lt, set_get', new_next, hgA, hgB, Fn.cells, r2, r0, r1]; rfl) ?_)))
    show Wc T _ _ _
    refine Wc_cond true (by simp [ev, upd]) (fun _ => ?_) (fun h => by cases h)
    refine Wc_seq (Wc_ops (Wo_run (fun call => by simp only [List.drop_succ_cons, List.drop_zero, iops_nil, iops_op, iops_grd, iK_some, iG_true, iG_false, gval_bool, beq_true, beq_false, Bool.not_true, Bool.not_false, iop, ev, upd, dstUpd, binV, binI, unV, ptr, Heap.cell, Heap.write, cellsOf, put, args0, partL, List.getD_cons_zero, List.getD_cons_succ, List.length_cons, List.length_nil, List.set_cons_zero, List.set_cons_succ, List.getElem?_cons_zero, List.getElem?_cons_succ, reduceIte, Nat.reduceEqDiff, Nat.reduceAdd, Nat.reduceMul, Nat.reduceLeDiff, Nat.zero_add, Nat.add_zero, Option.map_some, Int.reduceEq, Int.reduceLT, Int.reduceLE, Bool.false_eq_true, decide_true, decide_false, ge_iff_le, gt_iff_lt, set_get']; rfl) ?_))
    refine Wc_ret (bad _ _ (.refl _) (by simp [upd, dstUpd]) (by simp [Fn.key, q2]))
  have r2 : (f.regs != g.regs) = false := by simpa using q2
  by_cases q3 : f.code.length = g.code.length
  case neg =>
    have r3 : ((f.code.length : Int) != (g.code.length : Int)) = true := by simp; omega
    refine Wc_seq (Wc_seq (Wc_ops (Wo_run (fun call => by simp only [List.drop_succ_cons, List.drop_zero, iops_nil, iops_op, iops_grd, iK_some, iG_true, iG_false, gval_bool, beq_true, beq_false, Bool.not_true, Bool.not_false, iop, ev, upd, dstUpd, binV, binI, unV, ptr, Heap.cell, Heap.write, cellsOf, put, args0, partL, List.getD_cons_zero, List.getD_cons_succ, List.length_cons, List.length_nil, List.set_cons_zero, List.set_cons_succ, List.getElem?_cons_zero, List.getElem?_cons_succ, reduceIte, Nat.reduceEqDiff, Nat.reduceAdd, Nat.reduceMul, Nat.reduceLeDiff, Nat.zero_add, Nat.add_zero, Option.map_some, Int.reduceEq, Int.reduceLT, Int.reduceLE, Bool.false_eq_true, decide_true, decide_false, ge_iff_le, gt_iff_lt, set_get', new_next, hgA, hgB, Fn.cells, hfc, hgc, r3, r0, r1, r2]; rfl) ?_)))
    show Wc T _ _ _
    refine Wc_cond true (by simp [ev, upd]) (fun _ => ?_) (fun h => by cases h)
    refine Wc_seq (Wc_ops (Wo_run (fun call => by simp only [List.drop_succ_cons, List.drop_zero, iops_nil, iops_op, iops_grd, iK_some, iG_true, iG_false, gval_bool, beq_true, beq_false, Bool.not_true, Bool.not_false, iop, ev, upd, dstUpd, binV, binI, unV, ptr, Heap.cell, Heap.write, cellsOf, put, args0, partL, List.getD_cons_zero, List.getD_cons_succ, List.length_cons, List.length_nil, List.set_cons_zero, List.set_cons_succ, List.getElem?_cons_zero, List.getElem?_cons_succ, reduceIte, Nat.reduceEqDiff, Nat.reduceAdd, Nat.reduceMul, Nat.reduceLeDiff, Nat.zero_add, Nat.add_zero, Option.map_some, Int.reduceEq, Int.reduceLT, Int.reduceLE, Bool.false_eq_true, decide_true, decide_false, ge_iff_le, gt_iff_lt, set_get']; rfl) ?_))
    refine Wc_ret (bad _ _ (.refl _) (by simp [upd, dstUpd]) ?_)
    intro e
    have := congrArg (fun k : FnK => k.code.length) e
    simp [Fn.key] at this
    exact q3 this
  have r3 : ((f.code.length : Int) != (g.code.length : Int)) = false := by simp; omega
  refine Wc_seq (Wc_seq (Wc_ops (Wo_run (fun call => by simp only [List.drop_succ_cons, List.drop_zero, iops_nil, iops_op, iops_grd, iK_some, iG_true, iG_false, gval_bool, beq_true, beq_false, Bool.not_true, Bool.not_false, iop, ev, upd, dstUpd, binV, binI, unV, ptr, Heap.cell, Heap.write, cellsOf, put, args0, partL, List.getD_cons_zero, List.getD_cons_succ, List.length_cons, List.length_nil, List.set_cons_zero, List.set_cons_succ, List.getElem?_cons_zero, List.getElem?_cons_succ, reduceIte, Nat.reduceEqDiff, Nat.reduceAdd, Nat.reduceMul, Nat.reduceLeDiff, Nat.zero_add, Nat.add_zero, Option.map_some, Int.reduceEq, Int.reduceLT, Int.reduceLE, Bool.false_eq_true, decide_true, decide_false, ge_iff_le, gt_iff_lt, set_get', new_next, hgA, hgB, Fn.cells, hfc, hgc, r3, r0, r1, r2]; rfl) ?_)))
  show Wc T _ _ _
  refine Wc_cond false (by simp [ev, upd]) (fun h => by cases h) (fun _ => Wc_skip ?_)
  show Wc T _ _ _
  refine Wc_seq (Wc_ops (Wo_run (fun call => by simp only [List.drop_succ_cons, List.drop_zero, iops_nil, iops_op, iops_grd, iK_some, iG_true, iG_false, gval_bool, beq_true, beq_false, Bool.not_true, Bool.not_false, iop, ev, upd, dstUpd, binV, binI, unV, ptr, Heap.cell, Heap.write, cellsOf, put, args0, partL, List.getD_cons_zero, List.getD_cons_succ, List.length_cons, List.length_nil, List.set_cons_zero, List.set_cons_succ, List.getElem?_cons_zero, List.getElem?_cons_succ, reduceIte, Nat.reduceEqDiff, Nat.reduceAdd, Nat.reduceMul, Nat.reduceLeDiff, Nat.zero_add, Nat.add_zero, Option.map_some, Int.reduceEq, Int.reduceLT, Int.reduceLE, Bool.false_eq_true, decide_true, decide_false, ge_iff_le, gt_iff_lt, set_get', hgA, Fn.cells, hfc]; rfl) ?_))
  show Wc T _ _ _
  refine Wc_block (ins19 h37 (f := f) (g := g) (b6 := hp.next) (b7 := hp.next + 1) hxin hyin hkpB (hs.2 f (List.mem_of_getElem? hxi)) q3.symm (by simp [upd, dstUpd, ptr]) (by simp [upd, dstUpd, ptr, new_next]) (by omega) (by omega) hgA hgB (by simp [upd, dstUpd]) (by simp [upd, dstUpd]) ?_ ?_)
  · intro hc e' hq hkq hfr
    show Wc T _ _ _
    have f35 : e' 35 = .int .i64 i := by rw [hfr 35 (by omega) (by omega) (by omega) (by omega) (by omega)]; simp only [upd, Nat.reduceEqDiff, reduceIte]; exact g35
    refine Wc_ops (Wo_run (fun call => by simp only [List.drop_succ_cons, List.drop_zero, iops_nil, iops_op, iops_grd, iK_some, iG_true, iG_false, gval_bool, beq_true, beq_false, Bool.not_true, Bool.not_false, iop, ev, upd, dstUpd, binV, binI, unV, ptr, Heap.cell, Heap.write, cellsOf, put, args0, partL, List.getD_cons_zero, List.getD_cons_succ, List.length_cons, List.length_nil, List.set_cons_zero, List.set_cons_succ, List.getElem?_cons_zero, List.getElem?_cons_succ, reduceIte, Nat.reduceEqDiff, Nat.reduceAdd, Nat.reduceMul, Nat.reduceLeDiff, Nat.zero_add, Nat.add_zero, Option.map_some, Int.reduceEq, Int.reduceLT, Int.reduceLE, Bool.false_eq_true, decide_true, decide_false, ge_iff_le, gt_iff_lt, set_get', f35, e1']; rfl) ?_)
    refine ⟨⟨rfl, hkB.trans hkq, ?_, ?_, ?_, i + 1, by omega, ?_, ?_⟩, ?_⟩
    · simp only [upd, Nat.reduceEqDiff, reduceIte]; rw [hfr 2 (by omega) (by omega) (by omega) (by omega) (by omega)]; simp only [upd, Nat.reduceEqDiff, reduceIte]; exact g2
    · simp only [upd, Nat.reduceEqDiff, reduceIte]; rw [hfr 3 (by omega) (by omega) (by omega) (by omega) (by omega)]; simp only [upd, Nat.reduceEqDiff, reduceIte]; exact g3
    · simp only [upd, Nat.reduceEqDiff, reduceIte]; rw [hfr 34 (by omega) (by omega) (by omega) (by omega) (by omega)]; simp only [upd, Nat.reduceEqDiff, reduceIte]; exact g34
    · simp only [upd, Nat.reduceEqDiff, reduceIte]
    · rw [List.map_take, List.map_take] at ht ⊢
      exact take_eq_succ ht (x := f.key) (by simp [hxi]) (by simp [hyi, Fn.key, q0, q1, q2, hc])
    · simp only [upd, Nat.reduceEqDiff, reduceIte, g35]; omega
  · intro hc e' hq hkq h4
    exact bad e' hq hkq h4 (fun e => hc (congrArg FnK.code e))

end Go.Idl
end

section
/- few; IrSame at the ideal level. -/
namespace Go.Idl
set_option linter.unusedVariables false
set_option linter.unusedSimpArgs false
set_option maxRecDepth 100000
open Go.Proofs

def insSize (l : List Ins) : Nat := (l.map fun x => x.l.length).sum
def fnSize (f : Fn) : Nat := 1 + f.code.length + f.name.size / 10 + insSize f.code
def fnsSize (l : List Fn) : Nat := (l.map fnSize).sum
def Cod.size (c : Cod) : Nat := fnsSize c.funcs

theorem insSize_take {l : List Ins} {i : Nat} {x : Ins} (h : l[i]? = some x) : insSize (l.take (i + 1)) = insSize (l.take i) + x.l.length := by
  unfold insSize
  rw [List.take_add_one, h]; simp
theorem insSize_le (l : List Ins) (i : Nat) : insSize (l.take i) ≤ insSize l := by
  have : insSize l = insSize (l.take i) + insSize (l.drop i) := by
    unfold insSize
    rw [← List.sum_append, ← List.map_append, List.take_append_drop]
  omega
theorem fnsSize_take {l : List Fn} {i : Nat} {x : Fn} (h : l[i]? = some x) : fnsSize (l.take (i + 1)) = fnsSize (l.take i) + fnSize x := by
  unfold fnsSize
  rw [List.take_add_one, h]; simp
theorem fnsSize_le (l : List Fn) (i : Nat) : fnsSize (l.take i) ≤ fnsSize l := by
  have : fnsSize l = fnsSize (l.take i) + fnsSize (l.drop i) := by
    unfold fnsSize
    rw [← List.sum_append, ← List.map_append, List.take_append_drop]
  omega

theorem size_ins {T : Tbl} {h0 hp0 : Heap} {cv : Value} {l : List Ins} {e : Env} {s : Nat} {Q : Ex → St → Prop} (hr : rowsAt Ins.cells insIn h0 cv l) (hk0 : Kept h0 hp0) (hb : s + insSize l < 4611686018427387904) (hl : l.length < 4611686018427387904)
    (g27 : e 27 = cv) (g28 : e 28 = .int .i64 l.length) (g29 : e 29 = .int .i64 0) (g3 : e 3 = .int .i64 s)
    (hQ : ∀ (e' : Env) (hp : Heap), Kept hp0 hp → e' 3 = .int .i64 ((s + insSize l : Nat) : Int) → (∀ t, t < 27 → t ≠ 3 → t ≠ 7 → e' t = e t) → Q (.brk 2) ⟨e', hp, some []⟩) : Wc T (.loop C20L0) ⟨e, hp0, some []⟩ Q := by
  refine Wc_loop (fun st => st.d = some [] ∧ Kept hp0 st.h ∧ st.e 27 = cv ∧ st.e 28 = .int .i64 l.length ∧ (∀ t, t < 27 → t ≠ 3 → t ≠ 7 → st.e t = e t) ∧ ∃ i : Nat, i ≤ l.length ∧ st.e 29 = .int .i64 i ∧ st.e 3 = .int .i64 ((s + insSize (l.take i) : Nat) : Int))
    (fun st => match st.e 29 with | .int _ i => (l.length - i).toNat | _ => 0) ?_ ?_
  · exact ⟨rfl, .refl _, g27, g28, fun _ _ _ _ => rfl, 0, Nat.zero_le _, g29, by simp [insSize, g3]⟩
  rintro ⟨e1, hp, d⟩ ⟨hd, hk, k27, k28, hfr, i, hi, k29, k3⟩
  simp only at hd hk k27 k28 hfr k29 k3
  subst hd
  rw [C20L0]
  refine Wc_seq (Wc_ops (Wo_run (fun call => by simp only [List.drop_succ_cons, List.drop_zero, iops_nil, iops_op, iops_grd, iK_some, iG_true, iG_false, gval_bool, beq_true, beq_false, Bool.not_true, Bool.not_false, iop, ev, upd, dstUpd, binV, binI, unV, ptr, Heap.cell, Heap.write, cellsOf, put, args0, partL, List.getD_cons_zero, List.getD_cons_succ, List.length_cons, List.length_nil, List.set_cons_zero, List.set_cons_succ, List.getElem?_cons_zero, List.getElem?_cons_succ, reduceIte, Nat.reduceEqDiff, Nat.reduceAdd, Nat.reduceMul, Nat.reduceLeDiff, Nat.zero_add, Nat.add_zero, Option.map_some, Int.reduceEq, Int.reduceLT, Int.reduceLE, Bool.false_eq_true, decide_true, decide_false, ge_iff_le, gt_iff_lt, set_get', k28, k29]; rfl) ?_))
  show Wc T _ _ _
  refine Wc_seq (Wc_cond (decide ((i : Int) < l.length)) (by simp [ev, upd]) (fun hlt => Wc_skip ?_) (fun hge => Wc_exit ?_))
  case refine_2 =>
    have : i = l.length := by simp at hge; omega
    subst this
    rw [List.take_length] at k3
    exact hQ _ _ hk (by simp [upd, k3]) (fun t h1 h2 h3 => by simp only [upd]; rw [if_neg (by omega)]; exact hfr t h1 h2 h3)
  show Wc T _ _ _
  have hil : i < l.length := by simpa using hlt
  obtain ⟨x, hxi⟩ : ∃ x, l[i]? = some x := ⟨_, List.getElem?_eq_getElem hil⟩
  obtain ⟨bx, cx, hva, hbx, _, hcx, hxin⟩ := (rowsAt.keep (inner := insIn) insIn_keep (hk0.trans hk) hr).load insCells_len hxi
  obtain ⟨al, cl, hlv⟩ := hxin.ints.len
  have hst := insSize_take hxi
  have hsl := insSize_le l (i + 1)
  have e1' : IntKind.i64.wrap ((i : Int) + 1) = ((i + 1 : Nat) : Int) := by rw [wrap64] <;> omega
  have e2' : IntKind.i64.wrap (((s + insSize (l.take i) : Nat) : Int) + (x.l.length : Int)) = ((s + insSize (l.take (i + 1)) : Nat) : Int) := by rw [wrap64] <;> omega
  refine Wc_seq (Wc_block (Wc_seq (Wc_ops ?_)))
  refine Wo_op (iop_iaddr (b := bx) (len := l.length) (c := cx) (i := i) (by simp only [upd, dstUpd, reduceIte, Nat.reduceEqDiff, k27]; exact hva) (by simp only [upd, dstUpd, reduceIte, Nat.reduceEqDiff, k29]) hil) (Wo_op (iop_load (b := bx) (o := i * 6) (cs := x.cells) (by simp only [upd, dstUpd, reduceIte, Nat.reduceEqDiff]) hcx) (Wo_op rfl (Wo_op (iop_store (b := hp.next) (esz := 0) (cs := x.cells) (z := [(.int .i64 0), (.int .i64 0), (.int .i64 0), (.int .i64 0), (.int .i64 0), (.slice none 0 0)]) (by simp only [upd, dstUpd, reduceIte, Nat.reduceEqDiff]) (by simp only [upd, dstUpd, reduceIte, Nat.reduceEqDiff]) rfl (new_get' _ _) rfl) (Wo_nil ?_))))
  show Wc T _ _ _
  have hkA : Kept hp ((hp.new (.cells [(.int .i64 0), (.int .i64 0), (.int .i64 0), (.int .i64 0), (.int .i64 0), (.slice none 0 0)] true 0)).set hp.next (.cells x.cells true 0)) := ((Kept.refl hp).new _).set (Nat.le_refl _) _
  have hgA : ((hp.new (.cells [(.int .i64 0), (.int .i64 0), (.int .i64 0), (.int .i64 0), (.int .i64 0), (.slice none 0 0)] true 0)).set hp.next (.cells x.cells true 0)).get hp.next = some (.cells x.cells true 0) := set_get' _ _ _
  generalize (hp.new (.cells [(.int .i64 0), (.int .i64 0), (.int .i64 0), (.int .i64 0), (.int .i64 0), (.slice none 0 0)] true 0)).set hp.next (.cells x.cells true 0) = hpA at hkA hgA ⊢
  refine Wc_ops (Wo_run (fun call => by simp only [List.drop_succ_cons, List.drop_zero, iops_nil, iops_op, iops_grd, iK_some, iG_true, iG_false, gval_bool, beq_true, beq_false, Bool.not_true, Bool.not_false, iop, ev, upd, dstUpd, binV, binI, unV, ptr, Heap.cell, Heap.write, cellsOf, put, args0, partL, List.getD_cons_zero, List.getD_cons_succ, List.length_cons, List.length_nil, List.set_cons_zero, List.set_cons_succ, List.getElem?_cons_zero, List.getElem?_cons_succ, reduceIte, Nat.reduceEqDiff, Nat.reduceAdd, Nat.reduceMul, Nat.reduceLeDiff, Nat.zero_add, Nat.add_zero, Option.map_some, Int.reduceEq, Int.reduceLT, Int.reduceLE, Bool.false_eq_true, decide_true, decide_false, ge_iff_le, gt_iff_lt, set_get', k3, hgA, Ins.cells, hlv, e2']; rfl) ?_)
  show Wc T _ _ _
  refine Wc_ops (Wo_run (fun call => by simp only [List.drop_succ_cons, List.drop_zero, iops_nil, iops_op, iops_grd, iK_some, iG_true, iG_false, gval_bool, beq_true, beq_false, Bool.not_true, Bool.not_false, iop, ev, upd, dstUpd, binV, binI, unV, ptr, Heap.cell, Heap.write, cellsOf, put, args0, partL, List.getD_cons_zero, List.getD_cons_succ, List.length_cons, List.length_nil, List.set_cons_zero, List.set_cons_succ, List.getElem?_cons_zero, List.getElem?_cons_succ, reduceIte, Nat.reduceEqDiff, Nat.reduceAdd, Nat.reduceMul, Nat.reduceLeDiff, Nat.zero_add, Nat.add_zero, Option.map_some, Int.reduceEq, Int.reduceLT, Int.reduceLE, Bool.false_eq_true, decide_true, decide_false, ge_iff_le, gt_iff_lt, set_get', k29, e1']; rfl) ?_)
  refine ⟨⟨rfl, hk.trans hkA, by simp [upd, dstUpd, k27], by simp [upd, dstUpd, k28], fun t h1 h2 h3 => ?_, i + 1, by omega, by simp [upd, dstUpd], by simp [upd, dstUpd]⟩, ?_⟩
  · simp only [upd, dstUpd]
    repeat rw [if_neg (by omega)]
    exact hfr t h1 h2 h3
  · simp only [upd, dstUpd, Nat.reduceEqDiff, reduceIte, k29]; omega

theorem size20 {T : Tbl} (hT : T.fn 20 = some C20) (x : Cod) (h : Heap) (hx : x.Ok h) (hs : x.small) (hb : x.size < 4611686018427387904) : Wk T (.fn 20) [.agg x.cells.toArray] h (fun o h' => Kept h h' ∧ o = .ret (.int .i64 (x.size : Int))) := by
  refine Wk_fn hT (by simp [C20]) ?_
  simp only [C20]
  have hbx : iop (.box (.t 0)) (args0 [.agg x.cells.toArray]) h = some (ptr h.next 0, h.new (.cells x.cells true 0)) := by simp [iop, ev, args0, cellsOf]
  refine Wc_seq (Wc_ops (Wo_op hbx (Wo_run (fun call => by simp only [List.drop_succ_cons, List.drop_zero, iops_nil, iops_op, iops_grd, iK_some, iG_true, iG_false, gval_bool, beq_true, beq_false, Bool.not_true, Bool.not_false, iop, ev, upd, dstUpd, binV, binI, unV, ptr, Heap.cell, Heap.write, cellsOf, put, args0, partL, List.getD_cons_zero, List.getD_cons_succ, List.length_cons, List.length_nil, List.set_cons_zero, List.set_cons_succ, List.getElem?_cons_zero, List.getElem?_cons_succ, reduceIte, Nat.reduceEqDiff, Nat.reduceAdd, Nat.reduceMul, Nat.reduceLeDiff, Nat.zero_add, Nat.add_zero, Option.map_some, Int.reduceEq, Int.reduceLT, Int.reduceLE, Bool.false_eq_true, decide_true, decide_false, ge_iff_le, gt_iff_lt, set_get']; rfl) ?_)))
  show Wc T _ _ _
  have hg : (h.new (.cells x.cells true 0)).get h.next = some (.cells x.cells true 0) := new_get' _ _
  have hk : Kept h (h.new (.cells x.cells true 0)) := (Kept.refl h).new _
  generalize h.new (.cells x.cells true 0) = h1 at hg hk ⊢
  obtain ⟨pa, ca, hfx⟩ := hx.funcs.len
  refine Wc_seq (Wc_ops (Wo_run (fun call => by simp only [List.drop_succ_cons, List.drop_zero, iops_nil, iops_op, iops_grd, iK_some, iG_true, iG_false, gval_bool, beq_true, beq_false, Bool.not_true, Bool.not_false, iop, ev, upd, dstUpd, binV, binI, unV, ptr, Heap.cell, Heap.write, cellsOf, put, args0, partL, List.getD_cons_zero, List.getD_cons_succ, List.length_cons, List.length_nil, List.set_cons_zero, List.set_cons_succ, List.getElem?_cons_zero, List.getElem?_cons_succ, reduceIte, Nat.reduceEqDiff, Nat.reduceAdd, Nat.reduceMul, Nat.reduceLeDiff, Nat.zero_add, Nat.add_zero, Option.map_some, Int.reduceEq, Int.reduceLT, Int.reduceLE, Bool.false_eq_true, decide_true, decide_false, ge_iff_le, gt_iff_lt, set_get']; rfl) ?_))
  show Wc T _ _ _
  refine Wc_seq (Wc_seq (Wc_ops (Wo_run (fun call => by simp only [List.drop_succ_cons, List.drop_zero, iops_nil, iops_op, iops_grd, iK_some, iG_true, iG_false, gval_bool, beq_true, beq_false, Bool.not_true, Bool.not_false, iop, ev, upd, dstUpd, binV, binI, unV, ptr, Heap.cell, Heap.write, cellsOf, put, args0, partL, List.getD_cons_zero, List.getD_cons_succ, List.length_cons, List.length_nil, List.set_cons_zero, List.set_cons_succ, List.getElem?_cons_zero, List.getElem?_cons_succ, reduceIte, Nat.reduceEqDiff, Nat.reduceAdd, Nat.reduceMul, Nat.reduceLeDiff, Nat.zero_add, Nat.add_zero, Option.map_some, Int.reduceEq, Int.reduceLT, Int.reduceLE, Bool.false_eq_true, decide_true, decide_false, ge_iff_le, gt_iff_lt, set_get', hg, Cod.cells, hfx]; rfl) ?_)))
  show Wc T _ _ _
  refine Wc_block (Wc_loop (fun s => s.d = some [] ∧ Kept h1 s.h ∧ s.e 9 = x.fv ∧ s.e 10 = .int .i64 x.funcs.length ∧ ∃ i : Nat, i ≤ x.funcs.length ∧ s.e 11 = .int .i64 i ∧ s.e 3 = .int .i64 (fnsSize (x.funcs.take i) : Int))
    (fun s => match s.e 11 with | .int _ i => (x.funcs.length - i).toNat | _ => 0) ?_ ?_)
  · exact ⟨rfl, .refl _, by simp [upd, dstUpd, hfx], by simp [upd, dstUpd], 0, Nat.zero_le _, by simp [upd, dstUpd], by simp [upd, dstUpd, fnsSize]⟩
  rintro ⟨e, hp, d⟩ ⟨hd, hkp, g9, g10, i, hi, g11, g3⟩
  simp only at hd hkp g9 g10 g11 g3
  subst hd
  rw [C20L1]
  refine Wc_seq (Wc_ops (Wo_run (fun call => by simp only [List.drop_succ_cons, List.drop_zero, iops_nil, iops_op, iops_grd, iK_some, iG_true, iG_false, gval_bool, beq_true, beq_false, Bool.not_true, Bool.not_false, iop, ev, upd, dstUpd, binV, binI, unV, ptr, Heap.cell, Heap.write, cellsOf, put, args0, partL, List.getD_cons_zero, List.getD_cons_succ, List.length_cons, List.length_nil, List.set_cons_zero, List.set_cons_succ, List.getElem?_cons_zero, List.getElem?_cons_succ, reduceIte, Nat.reduceEqDiff, Nat.reduceAdd, Nat.reduceMul, Nat.reduceLeDiff, Nat.zero_add, Nat.add_zero, Option.map_some, Int.reduceEq, Int.reduceLT, Int.reduceLE, Bool.false_eq_true, decide_true, decide_false, ge_iff_le, gt_iff_lt, set_get', g10, g11]; rfl) ?_))
  show Wc T _ _ _
  refine Wc_seq (Wc_cond (decide ((i : Int) < x.funcs.length)) (by simp [ev, upd]) (fun hlt => Wc_skip ?_) (fun hge => Wc_exit ?_))
  case refine_2 =>
    show Wc T _ _ _
    have : i = x.funcs.length := by simp at hge; omega
    subst this
    rw [List.take_length] at g3
    refine Wc_seq (Wc_ops (Wo_run (fun call => by simp only [List.drop_succ_cons, List.drop_zero, iops_nil, iops_op, iops_grd, iK_some, iG_true, iG_false, gval_bool, beq_true, beq_false, Bool.not_true, Bool.not_false, iop, ev, upd, dstUpd, binV, binI, unV, ptr, Heap.cell, Heap.write, cellsOf, put, args0, partL, List.getD_cons_zero, List.getD_cons_succ, List.length_cons, List.length_nil, List.set_cons_zero, List.set_cons_succ, List.getElem?_cons_zero, List.getElem?_cons_succ, reduceIte, Nat.reduceEqDiff, Nat.reduceAdd, Nat.reduceMul, Nat.reduceLeDiff, Nat.zero_add, Nat.add_zero, Option.map_some, Int.reduceEq, Int.reduceLT, Int.reduceLE, Bool.false_eq_true, decide_true, decide_false, ge_iff_le, gt_iff_lt, set_get', g3]; rfl) ?_))
    exact Wc_ret ⟨.inr rfl, rfl, [.int .i64 x.size], by simp [resAll, resV, upd, dstUpd, Cod.size], hk.trans hkp, rfl⟩
  show Wc T _ _ _
  have hil : i < x.funcs.length := by simpa using hlt
  obtain ⟨f, hxi⟩ : ∃ f, x.funcs[i]? = some f := ⟨_, List.getElem?_eq_getElem hil⟩
  obtain ⟨bx, cx, hva, hbx', _, hcx, hxin⟩ := ((hx.keep (hk.trans hkp)).funcs).load fnCells_len hxi
  obtain ⟨qa, ra, hfc⟩ := hxin.code.len
  have hst := fnsSize_take hxi
  have hsl := fnsSize_le x.funcs (i + 1)
  have hsm := (hs.2 f (List.mem_of_getElem? hxi)).1
  have hs1 := hs.1
  unfold Idl.small at hsm hs1
  unfold Cod.size at hb
  unfold fnSize at hst
  have e1' : IntKind.i64.wrap ((i : Int) + 1) = ((i + 1 : Nat) : Int) := by rw [wrap64] <;> omega
  have w1 : IntKind.i64.wrap (1 + (f.code.length : Int)) = ((1 + f.code.length : Nat) : Int) := by rw [wrap64] <;> omega
  have w2 : IntKind.i64.wrap ((f.name.size : Int).tdiv 10) = ((f.name.size / 10 : Nat) : Int) := by
    have : (f.name.size : Int).tdiv 10 = ((f.name.size / 10 : Nat) : Int) := by rw [Int.tdiv_eq_ediv_of_nonneg (by omega)]; rfl
    have hnm := hxin.name
    unfold maxLen at hnm
    rw [this, wrap64] <;> omega
  have w3 : IntKind.i64.wrap (((1 + f.code.length : Nat) : Int) + ((f.name.size / 10 : Nat) : Int)) = ((1 + f.code.length + f.name.size / 10 : Nat) : Int) := by rw [wrap64] <;> omega
  have w4 : IntKind.i64.wrap ((fnsSize (x.funcs.take i) : Int) + ((1 + f.code.length + f.name.size / 10 : Nat) : Int)) = ((fnsSize (x.funcs.take i) + (1 + f.code.length + f.name.size / 10) : Nat) : Int) := by rw [wrap64] <;> omega
  refine Wc_seq (Wc_block (Wc_seq (Wc_ops ?_)))
  refine Wo_op (iop_iaddr (b := bx) (len := x.funcs.length) (c := cx) (i := i) (by simp only [upd, dstUpd, reduceIte, Nat.reduceEqDiff, g9]; exact hva) (by simp only [upd, dstUpd, reduceIte, Nat.reduceEqDiff, g11]) hil) (Wo_op (iop_load (b := bx) (o := i * 4) (cs := f.cells) (by simp only [upd, dstUpd, reduceIte, Nat.reduceEqDiff]) hcx) (Wo_op rfl (Wo_op (iop_store (b := hp.next) (esz := 0) (cs := f.cells) (z := [(.string ⟨#[]⟩), (.int .i64 0), (.int .i64 0), (.slice none 0 0)]) (by simp only [upd, dstUpd, reduceIte, Nat.reduceEqDiff]) (by simp only [upd, dstUpd, reduceIte, Nat.reduceEqDiff]) rfl (new_get' _ _) rfl) (Wo_nil ?_))))
  show Wc T _ _ _
  have hkA : Kept hp ((hp.new (.cells [(.string ⟨#[]⟩), (.int .i64 0), (.int .i64 0), (.slice none 0 0)] true 0)).set hp.next (.cells f.cells true 0)) := ((Kept.refl hp).new _).set (Nat.le_refl _) _
  have hgA : ((hp.new (.cells [(.string ⟨#[]⟩), (.int .i64 0), (.int .i64 0), (.slice none 0 0)] true 0)).set hp.next (.cells f.cells true 0)).get hp.next = some (.cells f.cells true 0) := set_get' _ _ _
  generalize (hp.new (.cells [(.string ⟨#[]⟩), (.int .i64 0), (.int .i64 0), (.slice none 0 0)] true 0)).set hp.next (.cells f.cells true 0) = hpA at hkA hgA ⊢
  refine Wc_seq (Wc_ops (Wo_run (fun call => by simp only [List.drop_succ_cons, List.drop_zero, iops_nil, iops_op, iops_grd, iK_some, iG_true, iG_false, gval_bool, beq_true, beq_false, Bool.not_true, Bool.not_false, iop, ev, upd, dstUpd, binV, binI, unV, ptr, Heap.cell, Heap.write, cellsOf, put, args0, partL, List.getD_cons_zero, List.getD_cons_succ, List.length_cons, List.length_nil, List.set_cons_zero, List.set_cons_succ, List.getElem?_cons_zero, List.getElem?_cons_succ, reduceIte, Nat.reduceEqDiff, Nat.reduceAdd, Nat.reduceMul, Nat.reduceLeDiff, Nat.zero_add, Nat.add_zero, Option.map_some, Int.reduceEq, Int.reduceLT, Int.reduceLE, Bool.false_eq_true, decide_true, decide_false, ge_iff_le, gt_iff_lt, set_get', g3, hgA, Fn.cells, hfc, w1, w2, w3, w4]; rfl) ?_))
  show Wc T _ _ _
  refine Wc_seq (Wc_ops (Wo_run (fun call => by simp only [List.drop_succ_cons, List.drop_zero, iops_nil, iops_op, iops_grd, iK_some, iG_true, iG_false, gval_bool, beq_true, beq_false, Bool.not_true, Bool.not_false, iop, ev, upd, dstUpd, binV, binI, unV, ptr, Heap.cell, Heap.write, cellsOf, put, args0, partL, List.getD_cons_zero, List.getD_cons_succ, List.length_cons, List.length_nil, List.set_cons_zero, List.set_cons_succ, List.getElem?_cons_zero, List.getElem?_cons_succ, reduceIte, Nat.reduceEqDiff, Nat.reduceAdd, Nat.reduceMul, Nat.reduceLeDiff, Nat.zero_add, Nat.add_zero, Option.map_some, Int.reduceEq, Int.reduceLT, Int.reduceLE, Bool.false_eq_true, decide_true, decide_false, ge_iff_le, gt_iff_lt, set_get', hgA, Fn.cells, hfc]; rfl) ?_))
  show Wc T _ _ _
  refine Wc_block (size_ins (hxin.code) hkA (s := fnsSize (x.funcs.take i) + (1 + f.code.length + f.name.size / 10)) (by omega) hsm (by simp [upd, dstUpd, hfc]) (by simp [upd, dstUpd]) (by simp [upd, dstUpd]) (by simp [upd, dstUpd]) ?_)
  intro e' hq hkq k3 hfr
  show Wc T _ _ _
  have f11 : e' 11 = .int .i64 i := by rw [hfr 11 (by omega) (by omega) (by omega)]; simp only [upd, dstUpd, Nat.reduceEqDiff, reduceIte]; exact g11
  refine Wc_ops (Wo_run (fun call => by simp only [List.drop_succ_cons, List.drop_zero, iops_nil, iops_op, iops_grd, iK_some, iG_true, iG_false, gval_bool, beq_true, beq_false, Bool.not_true, Bool.not_false, iop, ev, upd, dstUpd, binV, binI, unV, ptr, Heap.cell, Heap.write, cellsOf, put, args0, partL, List.getD_cons_zero, List.getD_cons_succ, List.length_cons, List.length_nil, List.set_cons_zero, List.set_cons_succ, List.getElem?_cons_zero, List.getElem?_cons_succ, reduceIte, Nat.reduceEqDiff, Nat.reduceAdd, Nat.reduceMul, Nat.reduceLeDiff, Nat.zero_add, Nat.add_zero, Option.map_some, Int.reduceEq, Int.reduceLT, Int.reduceLE, Bool.false_eq_true, decide_true, decide_false, ge_iff_le, gt_iff_lt, set_get', f11, e1']; rfl) ?_)
  refine ⟨⟨rfl, (hkp.trans hkA).trans hkq, ?_, ?_, i + 1, by omega, ?_, ?_⟩, ?_⟩
  · simp only [upd, dstUpd, Nat.reduceEqDiff, reduceIte]; rw [hfr 9 (by omega) (by omega) (by omega)]; simp only [upd, dstUpd, Nat.reduceEqDiff, reduceIte]; exact g9
  · simp only [upd, dstUpd, Nat.reduceEqDiff, reduceIte]; rw [hfr 10 (by omega) (by omega) (by omega)]; simp only [upd, dstUpd, Nat.reduceEqDiff, reduceIte]; exact g10
  · simp only [upd, dstUpd, Nat.reduceEqDiff, reduceIte]
  · simp only [upd, dstUpd, Nat.reduceEqDiff, reduceIte, k3]
    rw [hst]
    congr 1; omega
  · simp only [upd, dstUpd, Nat.reduceEqDiff, reduceIte, g11]; omega

theorem few8 {T : Tbl} (hT : T.fn 8 = some C8) (h20 : T.fn 20 = some C20) (x : Cod) (h : Heap) (hx : x.Ok h) (hs : x.small) (hb : x.size < 4611686018427387904) : Wk T (.fn 8) [.agg x.cells.toArray] h (fun o h' => Kept h h' ∧ o = .ret (.bool (decide (x.size ≤ 2000)))) := by
  refine Wk_fn hT (by simp [C8]) ?_
  simp only [C8]
  have hbx : iop (.box (.t 0)) (args0 [.agg x.cells.toArray]) h = some (ptr h.next 0, h.new (.cells x.cells true 0)) := by simp [iop, ev, args0, cellsOf]
  refine Wc_seq (Wc_ops (Wo_op hbx (Wo_run (fun call => by simp only [List.drop_succ_cons, List.drop_zero, iops_nil, iops_op, iops_grd, iK_some, iG_true, iG_false, gval_bool, beq_true, beq_false, Bool.not_true, Bool.not_false, iop, ev, upd, dstUpd, binV, binI, unV, ptr, Heap.cell, Heap.write, cellsOf, put, args0, partL, List.getD_cons_zero, List.getD_cons_succ, List.length_cons, List.length_nil, List.set_cons_zero, List.set_cons_succ, List.getElem?_cons_zero, List.getElem?_cons_succ, reduceIte, Nat.reduceEqDiff, Nat.reduceAdd, Nat.reduceMul, Nat.reduceLeDiff, Nat.zero_add, Nat.add_zero, Option.map_some, Int.reduceEq, Int.reduceLT, Int.reduceLE, Bool.false_eq_true, decide_true, decide_false, ge_iff_le, gt_iff_lt, set_get']; rfl) ?_)))
  show Wc T _ _ _
  have hg : (h.new (.cells x.cells true 0)).get h.next = some (.cells x.cells true 0) := new_get' _ _
  have hk : Kept h (h.new (.cells x.cells true 0)) := (Kept.refl h).new _
  generalize h.new (.cells x.cells true 0) = h1 at hg hk ⊢
  refine Wc_seq (Wc_ops (Wo_op (iop_load (b := h.next) (o := 0) (cs := x.cells) (by simp only [upd, dstUpd, reduceIte, Nat.reduceEqDiff, ptr]) (cells_all hg rfl)) (Wo_call ?_)))
  show Wk T (.fn 20) [.agg x.cells.toArray] h1 _
  refine (size20 h20 x h1 (hx.keep hk) hs hb).mono fun o h2 ⟨hk2, ho2⟩ => ?_
  subst ho2
  show Wo T _ _ _
  have hd : decide ((x.size : Int) ≤ 2000) = decide (x.size ≤ 2000) := by rw [decide_eq_decide]; omega
  refine (Wo_run (fun call => by simp only [List.drop_succ_cons, List.drop_zero, iops_nil, iops_op, iops_grd, iK_some, iG_true, iG_false, gval_bool, beq_true, beq_false, Bool.not_true, Bool.not_false, iop, ev, upd, dstUpd, binV, binI, unV, ptr, Heap.cell, Heap.write, cellsOf, put, args0, partL, List.getD_cons_zero, List.getD_cons_succ, List.length_cons, List.length_nil, List.set_cons_zero, List.set_cons_succ, List.getElem?_cons_zero, List.getElem?_cons_succ, reduceIte, Nat.reduceEqDiff, Nat.reduceAdd, Nat.reduceMul, Nat.reduceLeDiff, Nat.zero_add, Nat.add_zero, Option.map_some, Int.reduceEq, Int.reduceLT, Int.reduceLE, Bool.false_eq_true, decide_true, decide_false, ge_iff_le, gt_iff_lt, set_get', hd]; rfl) ?_)
  exact Wc_ret ⟨.inr rfl, rfl, [.bool (decide (x.size ≤ 2000))], by simp [resAll, resV, upd, dstUpd], hk.trans hk2, rfl⟩

theorem T1_6 : T1.fn 6 = some C6 := by
  have h : cfn Try.prog Try.f6 = some C6 := by kernel_rfl
  simp only [T1, T0, Tb0, setPrim, Try.func6, Option.bind_some, h]; rfl
theorem T1_8 : T1.fn 8 = some C8 := by
  have h : cfn Try.prog Try.f8 = some C8 := by kernel_rfl
  simp only [T1, T0, Tb0, setPrim, Try.func8, Option.bind_some, h]; rfl
theorem T1_18 : T1.fn 18 = some C18 := by
  have h : cfn Try.prog Try.f18 = some C18 := by kernel_rfl
  simp only [T1, T0, Tb0, setPrim, Try.func18, Option.bind_some, h]; rfl
theorem T1_19 : T1.fn 19 = some C19 := by
  have h : cfn Try.prog Try.f19 = some C19 := by kernel_rfl
  simp only [T1, T0, Tb0, setPrim, Try.func19, Option.bind_some, h]; rfl
theorem T1_20 : T1.fn 20 = some C20 := by
  have h : cfn Try.prog Try.f20 = some C20 := by kernel_rfl
  simp only [T1, T0, Tb0, setPrim, Try.func20, Option.bind_some, h]; rfl
theorem T1_32 : T1.fn 32 = some C32 := by
  have h : cfn Try.prog Try.f32 = some C32 := by kernel_rfl
  simp only [T1, T0, Tb0, setPrim, Try.func32, Option.bind_some, h]; rfl
theorem T1_33 : T1.fn 33 = some C33 := by
  have h : cfn Try.prog Try.f33 = some C33 := by kernel_rfl
  simp only [T1, T0, Tb0, setPrim, Try.func33, Option.bind_some, h]; rfl
theorem T1_34 : T1.fn 34 = some C34 := by
  have h : cfn Try.prog Try.f34 = some C34 := by kernel_rfl
  simp only [T1, T0, Tb0, setPrim, Try.func34, Option.bind_some, h]; rfl
theorem T1_35 : T1.fn 35 = some C35 := by
  have h : cfn Try.prog Try.f35 = some C35 := by kernel_rfl
  simp only [T1, T0, Tb0, setPrim, Try.func35, Option.bind_some, h]; rfl
theorem T1_36 : T1.fn 36 = some C36 := by
  have h : cfn Try.prog Try.f36 = some C36 := by kernel_rfl
  simp only [T1, T0, Tb0, setPrim, Try.func36, Option.bind_some, h]; rfl
theorem T1_37 : T1.fn 37 = some C37 := by
  have h : cfn Try.prog Try.f37 = some C37 := by kernel_rfl
  simp only [T1, T0, Tb0, setPrim, Try.func37, Option.bind_some, h]; rfl

theorem law6 {x y : Cod} {h : Heap} (hx : x.Ok h) (hy : y.Ok h) (hsx : x.small) (hsy : y.small) (hbx : x.size < 4611686018427387904) (hby : y.size < 4611686018427387904) : Wk T1 (.fn 6) [.agg x.cells.toArray, .agg y.cells.toArray] h (fun o h' => o = .ret (.bool true)) := by
  refine Wk_fn T1_6 (by simp [C6]) ?_
  simp only [C6]
  have hb : iop (.box (.t 0)) (args0 [.agg x.cells.toArray, .agg y.cells.toArray]) h = some (ptr h.next 0, h.new (.cells x.cells true 0)) := by simp [iop, ev, args0, cellsOf]
  have hb2 : iop (.box (.t 1)) (dstUpd (args0 [.agg x.cells.toArray, .agg y.cells.toArray]) (some 2) (ptr h.next 0)) (h.new (.cells x.cells true 0)) = some (ptr (h.next + 1) 0, (h.new (.cells x.cells true 0)).new (.cells y.cells true 0)) := by simp [iop, ev, args0, cellsOf, dstUpd, upd, new_next]
  refine Wc_seq (Wc_ops (Wo_op hb (Wo_op hb2 (Wo_run (fun call => by simp only [List.drop_succ_cons, List.drop_zero, iops_nil, iops_op, iops_grd, iK_some, iG_true, iG_false, gval_bool, beq_true, beq_false, Bool.not_true, Bool.not_false, iop, ev, upd, dstUpd, binV, binI, unV, ptr, Heap.cell, Heap.write, cellsOf, put, args0, partL, List.getD_cons_zero, List.getD_cons_succ, List.length_cons, List.length_nil, List.set_cons_zero, List.set_cons_succ, List.getElem?_cons_zero, List.getElem?_cons_succ, reduceIte, Nat.reduceEqDiff, Nat.reduceAdd, Nat.reduceMul, Nat.reduceLeDiff, Nat.zero_add, Nat.add_zero, Option.map_some, Int.reduceEq, Int.reduceLT, Int.reduceLE, Bool.false_eq_true, decide_true, decide_false, ge_iff_le, gt_iff_lt, set_get']; rfl) ?_))))
  show Wc _ _ _ _
  have hg3 : ((h.new (.cells x.cells true 0)).new (.cells y.cells true 0)).get (h.next + 1) = some (.cells y.cells true 0) := new_get' _ _
  have hg2 : ((h.new (.cells x.cells true 0)).new (.cells y.cells true 0)).get h.next = some (.cells x.cells true 0) := by rw [new_get_ne' _ _ (by rw [new_next]; omega), new_get']
  have hk : Kept h ((h.new (.cells x.cells true 0)).new (.cells y.cells true 0)) := ((Kept.refl h).new _).new _
  have hn1 : ((h.new (.cells x.cells true 0)).new (.cells y.cells true 0)).next = h.next + 2 := rfl
  generalize (h.new (.cells x.cells true 0)).new (.cells y.cells true 0) = h1 at hg2 hg3 hk hn1 ⊢
  have hx1 := hx.keep hk
  have hy1 := hy.keep hk
  have out : ∀ (e' : Env) (hp' : Heap), e' 4 = .bool true → ((Ex.ret = .normal ∨ Ex.ret = .ret) ∧ some ([] : List Dfr) = some [] ∧ ∃ vs, resAll e' hp' [.tmp 4] = some vs ∧ Out.ret (tup vs) = .ret (.bool true)) := by
    intro e' hp' h4
    exact ⟨.inr rfl, rfl, [.bool true], by simp only [resAll, resV, h4], rfl⟩
  have lx : ∀ {hq : Heap}, Kept h1 hq → hq.cells h.next 0 3 = some x.cells := fun hkq => cells_all (by rw [hkq.get _ (by omega)]; exact hg2) rfl
  have ly : ∀ {hq : Heap}, Kept h1 hq → hq.cells (h.next + 1) 0 3 = some y.cells := fun hkq => cells_all (by rw [hkq.get _ (by omega)]; exact hg3) rfl
  refine Wc_seq (Wc_seq (Wc_ops (Wo_call (wake7 ?_))))
  show Wo _ _ _ _
  refine (Wo_run (fun call => by simp only [List.drop_succ_cons, List.drop_zero, iops_nil, iops_op, iops_grd, iK_some, iG_true, iG_false, gval_bool, beq_true, beq_false, Bool.not_true, Bool.not_false, iop, ev, upd, dstUpd, binV, binI, unV, ptr, Heap.cell, Heap.write, cellsOf, put, args0, partL, List.getD_cons_zero, List.getD_cons_succ, List.length_cons, List.length_nil, List.set_cons_zero, List.set_cons_succ, List.getElem?_cons_zero, List.getElem?_cons_succ, reduceIte, Nat.reduceEqDiff, Nat.reduceAdd, Nat.reduceMul, Nat.reduceLeDiff, Nat.zero_add, Nat.add_zero, Option.map_some, Int.reduceEq, Int.reduceLT, Int.reduceLE, Bool.false_eq_true, decide_true, decide_false, ge_iff_le, gt_iff_lt, set_get']; rfl) ?_)
  show Wc _ _ _ _
  refine Wc_cond false (by simp [ev, upd]) (fun h => by cases h) (fun _ => Wc_skip ?_)
  show Wc _ _ _ _
  refine Wc_seq (Wc_seq (Wc_ops (Wo_op (iop_load (b := h.next) (o := 0) (cs := x.cells) (by simp only [upd, dstUpd, reduceIte, Nat.reduceEqDiff, ptr]) (lx (.refl _))) (Wo_call ?_))))
  show Wk _ (.fn 8) [.agg x.cells.toArray] h1 _
  refine (few8 T1_8 T1_20 x h1 hx1 hsx hbx).mono fun o h2 ⟨hk2, ho2⟩ => ?_
  subst ho2
  show Wo _ _ _ _
  by_cases hfx : x.size ≤ 2000
  case neg =>
    refine (Wo_run (fun call => by simp only [List.drop_succ_cons, List.drop_zero, iops_nil, iops_op, iops_grd, iK_some, iG_true, iG_false, gval_bool, beq_true, beq_false, Bool.not_true, Bool.not_false, iop, ev, upd, dstUpd, binV, binI, unV, ptr, Heap.cell, Heap.write, cellsOf, put, args0, partL, List.getD_cons_zero, List.getD_cons_succ, List.length_cons, List.length_nil, List.set_cons_zero, List.set_cons_succ, List.getElem?_cons_zero, List.getElem?_cons_succ, reduceIte, Nat.reduceEqDiff, Nat.reduceAdd, Nat.reduceMul, Nat.reduceLeDiff, Nat.zero_add, Nat.add_zero, Option.map_some, Int.reduceEq, Int.reduceLT, Int.reduceLE, Bool.false_eq_true, decide_true, decide_false, ge_iff_le, gt_iff_lt, set_get', hfx]; rfl) ?_)
    show Wc _ _ _ _
    refine Wc_cond true (by simp [ev, upd]) (fun _ => ?_) (fun h => by cases h)
    refine Wc_seq (Wc_ops (Wo_run (fun call => by simp only [List.drop_succ_cons, List.drop_zero, iops_nil, iops_op, iops_grd, iK_some, iG_true, iG_false, gval_bool, beq_true, beq_false, Bool.not_true, Bool.not_false, iop, ev, upd, dstUpd, binV, binI, unV, ptr, Heap.cell, Heap.write, cellsOf, put, args0, partL, List.getD_cons_zero, List.getD_cons_succ, List.length_cons, List.length_nil, List.set_cons_zero, List.set_cons_succ, List.getElem?_cons_zero, List.getElem?_cons_succ, reduceIte, Nat.reduceEqDiff, Nat.reduceAdd, Nat.reduceMul, Nat.reduceLeDiff, Nat.zero_add, Nat.add_zero, Option.map_some, Int.reduceEq, Int.reduceLT, Int.reduceLE, Bool.false_eq_true, decide_true, decide_false, ge_iff_le, gt_iff_lt, set_get']; rfl) ?_))
    exact Wc_ret (out _ _ (by simp [upd, dstUpd]))
  refine (Wo_pre 2 (fun call => by simp only [List.take_succ_cons, List.take_zero, List.drop_succ_cons, List.drop_zero, iops_nil, iops_op, iops_grd, iK_some, iG_true, iG_false, gval_bool, beq_true, beq_false, Bool.not_true, Bool.not_false, iop, ev, upd, dstUpd, binV, binI, unV, ptr, Heap.cell, Heap.write, cellsOf, put, args0, partL, List.getD_cons_zero, List.getD_cons_succ, List.length_cons, List.length_nil, List.set_cons_zero, List.set_cons_succ, List.getElem?_cons_zero, List.getElem?_cons_succ, reduceIte, Nat.reduceEqDiff, Nat.reduceAdd, Nat.reduceMul, Nat.reduceLeDiff, Nat.zero_add, Nat.add_zero, Option.map_some, Int.reduceEq, Int.reduceLT, Int.reduceLE, Bool.false_eq_true, decide_true, decide_false, ge_iff_le, gt_iff_lt, set_get', hfx]; rfl) ?_)
  refine Wo_take (by simp only [dstUpd, upd, reduceIte, Nat.reduceEqDiff, gval_bool]; rfl) (Wo_op (iop_load (b := h.next + 1) (o := 0) (cs := y.cells) (by simp only [upd, dstUpd, reduceIte, Nat.reduceEqDiff, ptr]) (ly hk2)) ?_)
  refine Wo_take (by simp only [dstUpd, upd, reduceIte, Nat.reduceEqDiff, gval_bool]; rfl) (Wo_call ?_)
  show Wk _ (.fn 8) [.agg y.cells.toArray] h2 _
  refine (few8 T1_8 T1_20 y h2 (hy1.keep hk2) hsy hby).mono fun o h3 ⟨hk3, ho3⟩ => ?_
  subst ho3
  show Wo _ _ _ _
  by_cases hfy : y.size ≤ 2000
  case neg =>
    refine (Wo_run (fun call => by simp only [List.drop_succ_cons, List.drop_zero, iops_nil, iops_op, iops_grd, iK_some, iG_true, iG_false, gval_bool, beq_true, beq_false, Bool.not_true, Bool.not_false, iop, ev, upd, dstUpd, binV, binI, unV, ptr, Heap.cell, Heap.write, cellsOf, put, args0, partL, List.getD_cons_zero, List.getD_cons_succ, List.length_cons, List.length_nil, List.set_cons_zero, List.set_cons_succ, List.getElem?_cons_zero, List.getElem?_cons_succ, reduceIte, Nat.reduceEqDiff, Nat.reduceAdd, Nat.reduceMul, Nat.reduceLeDiff, Nat.zero_add, Nat.add_zero, Option.map_some, Int.reduceEq, Int.reduceLT, Int.reduceLE, Bool.false_eq_true, decide_true, decide_false, ge_iff_le, gt_iff_lt, set_get', hfy]; rfl) ?_)
    show Wc _ _ _ _
    refine Wc_cond true (by simp [ev, upd]) (fun _ => ?_) (fun h => by cases h)
    refine Wc_seq (Wc_ops (Wo_run (fun call => by simp only [List.drop_succ_cons, List.drop_zero, iops_nil, iops_op, iops_grd, iK_some, iG_true, iG_false, gval_bool, beq_true, beq_false, Bool.not_true, Bool.not_false, iop, ev, upd, dstUpd, binV, binI, unV, ptr, Heap.cell, Heap.write, cellsOf, put, args0, partL, List.getD_cons_zero, List.getD_cons_succ, List.length_cons, List.length_nil, List.set_cons_zero, List.set_cons_succ, List.getElem?_cons_zero, List.getElem?_cons_succ, reduceIte, Nat.reduceEqDiff, Nat.reduceAdd, Nat.reduceMul, Nat.reduceLeDiff, Nat.zero_add, Nat.add_zero, Option.map_some, Int.reduceEq, Int.reduceLT, Int.reduceLE, Bool.false_eq_true, decide_true, decide_false, ge_iff_le, gt_iff_lt, set_get']; rfl) ?_))
    exact Wc_ret (out _ _ (by simp [upd, dstUpd]))
  refine (Wo_run (fun call => by simp only [List.drop_succ_cons, List.drop_zero, iops_nil, iops_op, iops_grd, iK_some, iG_true, iG_false, gval_bool, beq_true, beq_false, Bool.not_true, Bool.not_false, iop, ev, upd, dstUpd, binV, binI, unV, ptr, Heap.cell, Heap.write, cellsOf, put, args0, partL, List.getD_cons_zero, List.getD_cons_succ, List.length_cons, List.length_nil, List.set_cons_zero, List.set_cons_succ, List.getElem?_cons_zero, List.getElem?_cons_succ, reduceIte, Nat.reduceEqDiff, Nat.reduceAdd, Nat.reduceMul, Nat.reduceLeDiff, Nat.zero_add, Nat.add_zero, Option.map_some, Int.reduceEq, Int.reduceLT, Int.reduceLE, Bool.false_eq_true, decide_true, decide_false, ge_iff_le, gt_iff_lt, set_get', hfy]; rfl) ?_)
  show Wc _ _ _ _
  refine Wc_cond false (by simp [ev, upd]) (fun h => by cases h) (fun _ => Wc_skip ?_)
  show Wc _ _ _ _
  have hk13 : Kept h1 h3 := hk2.trans hk3
  have hn3 : h.next + 1 < h3.next := by have := hk13.next; omega
  have s18 : ∀ {hq : Heap} (u v : Cod), u.Ok hq → v.Ok hq → u.small → Wk T1 (.fn 18) [.agg u.cells.toArray, .agg v.cells.toArray] hq (fun o h' => Kept hq h' ∧ o = .ret (.bool (decide (u.key = v.key)))) := fun u v hu hv hs => same18 T1_18 T1_32 T1_33 T1_34 T1_35 T1_36 u v _ hu hv hs
  have comm : decide (y.key = x.key) = decide (x.key = y.key) := by rw [decide_eq_decide]; exact ⟨Eq.symm, Eq.symm⟩
  have bx' : ∀ {e : Env}, e 2 = ptr h.next 0 → Below h3.next (locOp (.load (some 3) (.t 2)) e) := fun h2 => by simp only [locOp, ev, h2, ptr, Below]; omega
  have by' : ∀ {e : Env}, e 3 = ptr (h.next + 1) 0 → Below h3.next (locOp (.load (some 3) (.t 3)) e) := fun h2 => by simp only [locOp, ev, h2, ptr, Below]; omega
  refine Wc_seq (Wc_drawK ?_)
  refine WdK_R rfl (iop_load (b := h.next) (o := 0) (cs := x.cells) (by simp only [upd, dstUpd, reduceIte, Nat.reduceEqDiff, ptr]) (lx hk13)) (bx' (by simp only [upd, dstUpd, reduceIte, Nat.reduceEqDiff, ptr])) ?_
  refine WdK_R rfl (iop_load (b := h.next + 1) (o := 0) (cs := y.cells) (by simp only [upd, dstUpd, reduceIte, Nat.reduceEqDiff, ptr]) (ly hk13)) (by' (by simp only [upd, dstUpd, reduceIte, Nat.reduceEqDiff, ptr])) ?_
  refine WdK_call ?_
  show Wk _ (.fn 18) [.agg x.cells.toArray, .agg y.cells.toArray] h3 _
  refine (s18 x y (hx1.keep hk13) (hy1.keep hk13) hsx).mono fun o h4 ⟨hk4, ho4⟩ => ?_
  subst ho4
  refine ⟨hk4, ?_⟩
  have hk14 := hk13.trans hk4
  refine WdK_R rfl (iop_load (b := h.next) (o := 0) (cs := x.cells) (by simp only [upd, dstUpd, reduceIte, Nat.reduceEqDiff, ptr]) (lx hk14)) (bx' (by simp only [upd, dstUpd, reduceIte, Nat.reduceEqDiff, ptr])) ?_
  refine WdK_R rfl (iop_load (b := h.next + 1) (o := 0) (cs := y.cells) (by simp only [upd, dstUpd, reduceIte, Nat.reduceEqDiff, ptr]) (ly hk14)) (by' (by simp only [upd, dstUpd, reduceIte, Nat.reduceEqDiff, ptr])) ?_
  refine WdK_call ?_
  show Wk _ (.fn 19) [.agg x.cells.toArray, .agg y.cells.toArray] h4 _
  refine (same19 T1_19 T1_37 x y h4 (hx1.keep hk14) (hy1.keep hk14) hsx).mono fun o h5 ⟨hk5, ho5⟩ => ?_
  subst ho5
  refine ⟨hk5, ?_⟩
  have hk15 := hk14.trans hk5
  refine WdK_P (v := .bool true) rfl (by simp [iop, ev, dstUpd, upd]) ?_
  refine WdK_P rfl rfl ?_
  refine WdK_take (by simp only [dstUpd, upd, reduceIte, Nat.reduceEqDiff, gval_bool]; rfl) (WdK_R rfl (iop_load (b := h.next) (o := 0) (cs := x.cells) (by simp only [upd, dstUpd, reduceIte, Nat.reduceEqDiff, ptr]) (lx hk15)) (bx' (by simp only [upd, dstUpd, reduceIte, Nat.reduceEqDiff, ptr])) ?_)
  refine WdK_take (by simp only [dstUpd, upd, reduceIte, Nat.reduceEqDiff, gval_bool]; rfl) (WdK_R rfl (iop_load (b := h.next) (o := 0) (cs := x.cells) (by simp only [upd, dstUpd, reduceIte, Nat.reduceEqDiff, ptr]) (lx hk15)) (bx' (by simp only [upd, dstUpd, reduceIte, Nat.reduceEqDiff, ptr])) ?_)
  refine WdK_take (by simp only [dstUpd, upd, reduceIte, Nat.reduceEqDiff, gval_bool]; rfl) (WdK_call ?_)
  show Wk _ (.fn 18) [.agg x.cells.toArray, .agg x.cells.toArray] h5 _
  refine (s18 x x (hx1.keep hk15) (hx1.keep hk15) hsx).mono fun o h6 ⟨hk6, ho6⟩ => ?_
  subst ho6
  refine ⟨hk6, ?_⟩
  have hk16 := hk15.trans hk6
  refine WdK_P (v := .bool true) rfl (by simp [iop, ev, dstUpd, upd]) ?_
  refine WdK_P rfl rfl ?_
  refine WdK_take (by simp only [dstUpd, upd, reduceIte, Nat.reduceEqDiff, gval_bool]; rfl) (WdK_R rfl (iop_load (b := h.next) (o := 0) (cs := x.cells) (by simp only [upd, dstUpd, reduceIte, Nat.reduceEqDiff, ptr]) (lx hk16)) (bx' (by simp only [upd, dstUpd, reduceIte, Nat.reduceEqDiff, ptr])) ?_)
  refine WdK_take (by simp only [dstUpd, upd, reduceIte, Nat.reduceEqDiff, gval_bool]; rfl) (WdK_R rfl (iop_load (b := h.next + 1) (o := 0) (cs := y.cells) (by simp only [upd, dstUpd, reduceIte, Nat.reduceEqDiff, ptr]) (ly hk16)) (by' (by simp only [upd, dstUpd, reduceIte, Nat.reduceEqDiff, ptr])) ?_)
  refine WdK_take (by simp only [dstUpd, upd, reduceIte, Nat.reduceEqDiff, gval_bool]; rfl) (WdK_call ?_)
  show Wk _ (.fn 18) [.agg x.cells.toArray, .agg y.cells.toArray] h6 _
  refine (s18 x y (hx1.keep hk16) (hy1.keep hk16) hsx).mono fun o h7 ⟨hk7, ho7⟩ => ?_
  subst ho7
  refine ⟨hk7, ?_⟩
  have hk17 := hk16.trans hk7
  refine WdK_take (by simp only [dstUpd, upd, reduceIte, Nat.reduceEqDiff, gval_bool]; rfl) (WdK_R rfl (iop_load (b := h.next + 1) (o := 0) (cs := y.cells) (by simp only [upd, dstUpd, reduceIte, Nat.reduceEqDiff, ptr]) (ly hk17)) (by' (by simp only [upd, dstUpd, reduceIte, Nat.reduceEqDiff, ptr])) ?_)
  refine WdK_take (by simp only [dstUpd, upd, reduceIte, Nat.reduceEqDiff, gval_bool]; rfl) (WdK_R rfl (iop_load (b := h.next) (o := 0) (cs := x.cells) (by simp only [upd, dstUpd, reduceIte, Nat.reduceEqDiff, ptr]) (lx hk17)) (bx' (by simp only [upd, dstUpd, reduceIte, Nat.reduceEqDiff, ptr])) ?_)
  refine WdK_take (by simp only [dstUpd, upd, reduceIte, Nat.reduceEqDiff, gval_bool]; rfl) (WdK_call ?_)
  show Wk _ (.fn 18) [.agg y.cells.toArray, .agg x.cells.toArray] h7 _
  refine (s18 y x (hy1.keep hk17) (hx1.keep hk17) hsy).mono fun o h8 ⟨hk8, ho8⟩ => ?_
  subst ho8
  refine ⟨hk8, ?_⟩
  refine WdK_take (by simp only [dstUpd, upd, reduceIte, Nat.reduceEqDiff, gval_bool]; rfl) (WdK_P (v := .bool true) rfl (by simp [iop, ev, dstUpd, upd, comm]) ?_)
  refine WdK_P (v := .bool true) rfl (by simp [iop, ev, dstUpd, upd]) ?_
  refine WdK_P rfl rfl ?_
  refine WdK_nil ?_
  show Wc _ _ _ _
  exact Wc_ret (out _ _ (by simp [upd, dstUpd, ev]))

end Go.Idl
end

section
/- Functions and code as they come in. -/
namespace Go.Idl
set_option linter.unusedVariables false
set_option linter.unusedSimpArgs false

/-- A row of things that come in. -/
theorem rows_of_lays {α H : Type} {cells : α → List Value} {inner : Heap → α → Prop} {td : TD} {h : Heap} {wt : α → Nat} (hne : ∀ x : α, cells x ≠ [])
    (hone : ∀ {d : DataW H} {vs : List Value}, Lays h td d vs → ∃ x : α, vs = cells x ∧ inner h x ∧ ∀ f : DataW H → Nat, Meas f → wt x ≤ f d)
    {d : DataW H} {vs : List Value} (hl : Lays h (.sl td) d vs) : ∃ l v, vs = [v] ∧ rowsAt cells inner h v l ∧ l.length ≤ maxLen ∧ ∀ f : DataW H → Nat, Meas f → (l.map wt).sum ≤ f d := by
  rw [Lays] at hl
  rcases hl with ⟨_, rfl⟩ | ⟨ds, spare, b, rfl, hb, hm, rfl, hcs⟩
  · exact ⟨[], _, rfl, ⟨.inl ⟨rfl, rfl⟩, by simp⟩, by simp, by simp⟩
  · rcases hcs with ⟨rfl, _⟩ | ⟨cs, hg, he⟩
    · exact ⟨[], _, rfl, ⟨.inr ⟨b, _, rfl, hb, .inl rfl⟩, by simp⟩, by simp, by simp⟩
    · have key : ∀ (ds : List (DataW H)) (cs : List Value), LaysEach (Lays h td) ds cs → ∃ l : List α, cs = l.flatMap cells ∧ l.length = ds.length ∧ (∀ x ∈ l, inner h x) ∧ ∀ f : DataW H → Nat, Meas f → (l.map wt).sum ≤ (ds.map f).sum := by
        intro ds
        induction ds with
        | nil => intro cs hc; exact ⟨[], hc, rfl, by simp, by simp⟩
        | cons d ds ih =>
          intro cs hc
          obtain ⟨a, b, rfl, h1, h2⟩ := hc
          obtain ⟨l, rfl, h3, h4, h5⟩ := ih b h2
          obtain ⟨x, rfl, hx, hw⟩ := hone h1
          refine ⟨x :: l, by simp, by simp [h3], fun y hy => ?_, fun f hf => ?_⟩
          · rcases List.mem_cons.1 hy with rfl | hy
            · exact hx
            · exact h4 y hy
          · have := h5 f hf
            have := hw f hf
            simp only [List.map_cons, List.sum_cons]; omega
      obtain ⟨l, rfl, h1, h2, h3⟩ := key ds cs he
      exact ⟨l, _, rfl, ⟨.inr ⟨b, _, by rw [h1], hb, .inr ⟨_, _, hg⟩⟩, h2⟩, by omega, fun f hf => Nat.le_trans (h3 f hf) (hf.sl _ _)⟩

def fnTD : TD := .st (.cons .str (.cons (.int .i64) (.cons (.int .i64) (.cons (.sl insTD) .nil))))
def codTD : TD := .st (.cons (.sl fnTD) (.cons (.int .i64) (.cons (.int .i64) .nil)))

def insW (x : Ins) : Nat := 1 + x.l.length
def fnW (f : Fn) : Nat := 1 + f.name.size + (f.code.map insW).sum
def codW (c : Cod) : Nat := (c.funcs.map fnW).sum

theorem fn_of_lays {H : Type} {h : Heap} {d : DataW H} {vs : List Value} (hl : Lays h fnTD d vs) : ∃ x : Fn, vs = x.cells ∧ x.Ok h ∧ ∀ f : DataW H → Nat, Meas f → fnW x ≤ f d := by
  unfold fnTD at hl
  rw [Lays] at hl
  obtain ⟨ds, rfl, hl⟩ := hl
  simp only [LaysL] at hl
  obtain ⟨d1, r1, a1, b1, rfl, rfl, h1, d2, r2, a2, b2, rfl, rfl, h2, d3, r3, a3, b3, rfl, rfl, h3, d4, r4, a4, b4, rfl, rfl, h4, rfl, rfl⟩ := hl
  simp only [Lays] at h1 h2 h3
  obtain ⟨s, hs, rfl, rfl⟩ := h1
  obtain ⟨n2, rfl, w2, rfl⟩ := h2
  obtain ⟨n3, rfl, w3, rfl⟩ := h3
  obtain ⟨l, v, rfl, hr, hm, hw⟩ := rows_of_lays (cells := Ins.cells) (inner := insIn) (wt := insW) (fun x => by simp [Ins.cells]) (fun hl => let ⟨x, h1, h2, h3⟩ := ins_of_lays hl; ⟨x, h1, h2, h3⟩) h4
  refine ⟨⟨s, n2, n3, l, v⟩, by simp [Fn.cells], ⟨hr, hm, hs, wf64 w2, wf64 w3⟩, fun f hf => ?_⟩
  have a1 := hw f hf
  have a2 := hf.str s.data.toList
  have a3 := hf.agg [.lit (.string s.data.toList), .lit (.int .i64 n2), .lit (.int .i64 n3), d4]
  have a4 : s.data.toList.length = s.size := by rw [Array.length_toList]; rfl
  simp only [List.map_cons, List.map_nil, List.sum_cons, List.sum_nil] at a3
  show 1 + s.size + (l.map insW).sum ≤ _
  omega

theorem cod_of_lays {H : Type} {h : Heap} {d : DataW H} {vs : List Value} (hl : Lays h codTD d vs) : ∃ x : Cod, vs = x.cells ∧ x.Ok h ∧ ∀ f : DataW H → Nat, Meas f → codW x ≤ f d := by
  unfold codTD at hl
  rw [Lays] at hl
  obtain ⟨ds, rfl, hl⟩ := hl
  simp only [LaysL] at hl
  obtain ⟨d1, r1, a1, b1, rfl, rfl, h1, d2, r2, a2, b2, rfl, rfl, h2, d3, r3, a3, b3, rfl, rfl, h3, rfl, rfl⟩ := hl
  simp only [Lays] at h2 h3
  obtain ⟨n2, rfl, w2, rfl⟩ := h2
  obtain ⟨n3, rfl, w3, rfl⟩ := h3
  obtain ⟨l, v, rfl, hr, hm, hw⟩ := rows_of_lays (cells := Fn.cells) (inner := fnIn) (wt := fnW) (fun x => by simp [Fn.cells]) (fun hl => let ⟨x, h1, h2, h3⟩ := fn_of_lays hl; ⟨x, h1, h2, h3⟩) h1
  refine ⟨⟨l, v, n2, n3⟩, by simp [Cod.cells], ⟨hr, hm, wf64 w2, wf64 w3⟩, fun f hf => ?_⟩
  have a1 := hw f hf
  have a3 := hf.agg [d1, .lit (.int .i64 n2), .lit (.int .i64 n3)]
  simp only [List.map_cons, List.map_nil, List.sum_cons, List.sum_nil] at a3
  show (l.map fnW).sum ≤ _
  omega

theorem insW_sum (l : List Ins) : (l.map insW).sum = l.length + insSize l := by
  induction l with
  | nil => rfl
  | cons x l ih => simp only [insSize, List.map_cons, List.sum_cons, insW, List.length_cons] at ih ⊢; omega
theorem mem_le_sum : ∀ {l : List Nat} {a : Nat}, a ∈ l → a ≤ l.sum
  | b :: l, a, h => by
    simp only [List.sum_cons]
    rcases List.mem_cons.1 h with rfl | h
    · omega
    · have := mem_le_sum h; omega
theorem fnW_size (f : Fn) : fnSize f ≤ fnW f ∧ f.code.length ≤ fnW f ∧ ∀ x ∈ f.code, x.l.length ≤ fnW f := by
  have h1 := insW_sum f.code
  refine ⟨by unfold fnSize fnW; omega, by unfold fnW; omega, fun x hx => ?_⟩
  have : x.l.length ≤ insSize f.code := mem_le_sum (List.mem_map.2 ⟨x, hx, rfl⟩)
  unfold fnW; omega
theorem codW_size (c : Cod) : c.size ≤ codW c ∧ c.funcs.length ≤ codW c ∧ ∀ f ∈ c.funcs, fnW f ≤ codW c := by
  have key : ∀ l : List Fn, fnsSize l ≤ (l.map fnW).sum ∧ l.length ≤ (l.map fnW).sum ∧ ∀ f ∈ l, fnW f ≤ (l.map fnW).sum := by
    intro l
    induction l with
    | nil => exact ⟨by simp [fnsSize], by simp, by simp⟩
    | cons f l ih =>
      obtain ⟨a, b, c⟩ := ih
      have := fnW_size f
      have h1 : 1 ≤ fnW f := by unfold fnW; omega
      refine ⟨by simp only [fnsSize, List.map_cons, List.sum_cons] at a ⊢; omega, by simp only [List.map_cons, List.sum_cons, List.length_cons]; omega, fun g hg => ?_⟩
      simp only [List.map_cons, List.sum_cons]
      rcases List.mem_cons.1 hg with rfl | hg
      · omega
      · have := c g hg; omega
  exact key c.funcs
theorem cod_small {c : Cod} (h : codW c < 4611686018427387904) : c.small := by
  obtain ⟨a, b, d⟩ := codW_size c
  refine ⟨by unfold Idl.small; omega, fun f hf => ?_⟩
  have h1 := d f hf
  obtain ⟨_, h3, h4⟩ := fnW_size f
  exact ⟨by unfold Idl.small; omega, fun x hx => by have := h4 x hx; unfold Idl.small; omega⟩

end Go.Idl
end
