/- What an instruction reads and writes: the reference; lists compared. -/
import Derived.Test.YtfdpknfndjllgaaK2
namespace Go.Idl
set_option linter.unusedVariables false
set_option linter.unusedSimpArgs false

theorem reads13 {T : Tbl} (hT : T.fn 13 = some C13) (hT28 : T.fn 28 = some C28) (h27 : ∀ {op : Int} {h : Heap} {K : Out → Heap → Prop}, K (.ret (.tuple (rowL op).toArray)) h → Wk T (.fn 27) [.int .i64 op] h K)
    (x : Ins) (h : Heap) (hx : intsAt h x.lv x.l) (hl : x.l.length ≤ 1000) : Wk T (.fn 13) [x.val] h (fun o h' => Kept h h' ∧ ∃ v, o = .ret v ∧ intsAt h' v (readsOf x)) := by
  refine Wk_fn hT (by simp [C13]) ?_
  simp only [C13]
  have hb : iop (.box (.t 0)) (args0 [x.val]) h = some (ptr h.next 0, h.new (.cells x.cells true 0)) := by simp [iop, ev, args0, Ins.val, cellsOf]
  refine Wc_seq (Wc_ops (Wo_op hb (Wo_run (fun call => by simp only [List.drop_succ_cons, List.drop_zero, iops_nil, iops_op, iops_grd, iK_some, iG_true, iG_false, gval_bool, beq_true, beq_false, Bool.not_true, Bool.not_false, iop, ev, upd, dstUpd, binV, binI, unV, ptr, Heap.cell, Heap.write, cellsOf, put, args0, partL, List.getD_cons_zero, List.getD_cons_succ, List.length_cons, List.length_nil, List.set_cons_zero, List.set_cons_succ, List.getElem?_cons_zero, List.getElem?_cons_succ, reduceIte, Nat.reduceEqDiff, Nat.reduceAdd, Nat.reduceMul, Nat.reduceLeDiff, Nat.zero_add, Nat.add_zero, Option.map_some, Int.reduceEq, Int.reduceLT, Int.reduceLE, Bool.false_eq_true, decide_true, decide_false, ge_iff_le, gt_iff_lt, set_get']; rfl) ?_)))
  show Wc T _ _ _
  have hg : (h.new (.cells x.cells true 0)).get h.next = some (.cells x.cells true 0) := new_get' _ _
  have hk : Kept h (h.new (.cells x.cells true 0)) := (Kept.refl h).new _
  have hn1 : (h.new (.cells x.cells true 0)).next = h.next + 1 := rfl
  generalize h.new (.cells x.cells true 0) = h1 at hg hk hn1 ⊢
  obtain ⟨hr3, hasc⟩ := rd_ok x
  have hrd : strB (rowAt x.op).2.2.1 = .string ⟨(rd x).toArray⟩ := rfl
  have hsz : (⟨(rd x).toArray⟩ : ByteArray).size = (rd x).length := by simp [ByteArray.size]
  refine Wc_seq (Wc_ops (Wo_pre 2 (fun call => by simp only [List.take_succ_cons, List.take_zero, List.drop_succ_cons, List.drop_zero, iops_nil, iops_op, iops_grd, iK_some, iG_true, iG_false, gval_bool, beq_true, beq_false, Bool.not_true, Bool.not_false, iop, ev, upd, dstUpd, binV, binI, unV, ptr, Heap.cell, Heap.write, cellsOf, put, args0, partL, List.getD_cons_zero, List.getD_cons_succ, List.length_cons, List.length_nil, List.set_cons_zero, List.set_cons_succ, List.getElem?_cons_zero, List.getElem?_cons_succ, reduceIte, Nat.reduceEqDiff, Nat.reduceAdd, Nat.reduceMul, Nat.reduceLeDiff, Nat.zero_add, Nat.add_zero, Option.map_some, Int.reduceEq, Int.reduceLT, Int.reduceLE, Bool.false_eq_true, decide_true, decide_false, ge_iff_le, gt_iff_lt, set_get', hg, Ins.cells]; rfl) ?_))
  refine Wo_call (h27 ?_)
  show Wo T _ _ _
  refine (Wo_run (fun call => by simp only [List.drop_succ_cons, List.drop_zero, iops_nil, iops_op, iops_grd, iK_some, iG_true, iG_false, gval_bool, beq_true, beq_false, Bool.not_true, Bool.not_false, iop, ev, upd, dstUpd, binV, binI, unV, ptr, Heap.cell, Heap.write, cellsOf, put, args0, partL, List.getD_cons_zero, List.getD_cons_succ, List.length_cons, List.length_nil, List.set_cons_zero, List.set_cons_succ, List.getElem?_cons_zero, List.getElem?_cons_succ, reduceIte, Nat.reduceEqDiff, Nat.reduceAdd, Nat.reduceMul, Nat.reduceLeDiff, Nat.zero_add, Nat.add_zero, Option.map_some, Int.reduceEq, Int.reduceLT, Int.reduceLE, Bool.false_eq_true, decide_true, decide_false, ge_iff_le, gt_iff_lt, set_get', rowL, hrd]; rfl) ?_)
  show Wc T _ _ _
  refine Wc_seq (Wc_ops (Wo_run (fun call => by simp only [List.drop_succ_cons, List.drop_zero, iops_nil, iops_op, iops_grd, iK_some, iG_true, iG_false, gval_bool, beq_true, beq_false, Bool.not_true, Bool.not_false, iop, ev, upd, dstUpd, binV, binI, unV, ptr, Heap.cell, Heap.write, cellsOf, put, args0, partL, List.getD_cons_zero, List.getD_cons_succ, List.length_cons, List.length_nil, List.set_cons_zero, List.set_cons_succ, List.getElem?_cons_zero, List.getElem?_cons_succ, reduceIte, Nat.reduceEqDiff, Nat.reduceAdd, Nat.reduceMul, Nat.reduceLeDiff, Nat.zero_add, Nat.add_zero, Option.map_some, Int.reduceEq, Int.reduceLT, Int.reduceLE, Bool.false_eq_true, decide_true, decide_false, ge_iff_le, gt_iff_lt, set_get']; rfl) ?_))
  show Wc T _ _ _
  refine Wc_seq (Wc_seq (Wc_ops (Wo_run (fun call => by simp only [List.drop_succ_cons, List.drop_zero, iops_nil, iops_op, iops_grd, iK_some, iG_true, iG_false, gval_bool, beq_true, beq_false, Bool.not_true, Bool.not_false, iop, ev, upd, dstUpd, binV, binI, unV, ptr, Heap.cell, Heap.write, cellsOf, put, args0, partL, List.getD_cons_zero, List.getD_cons_succ, List.length_cons, List.length_nil, List.set_cons_zero, List.set_cons_succ, List.getElem?_cons_zero, List.getElem?_cons_succ, reduceIte, Nat.reduceEqDiff, Nat.reduceAdd, Nat.reduceMul, Nat.reduceLeDiff, Nat.zero_add, Nat.add_zero, Option.map_some, Int.reduceEq, Int.reduceLT, Int.reduceLE, Bool.false_eq_true, decide_true, decide_false, ge_iff_le, gt_iff_lt, set_get']; rfl) ?_)))
  show Wc T _ _ _
  refine Wc_block (Wc_loop (fun s => s.d = some [] ∧ Kept h s.h ∧ h.next + 1 ≤ s.h.next ∧ s.e 1 = ptr h.next 0 ∧ s.e 5 = .string ⟨(rd x).toArray⟩ ∧ s.h.get h.next = some (.cells x.cells true 0) ∧
      ∃ (k : Nat) (v : Value), k ≤ (rd x).length ∧ s.e 8 = .int .i64 k ∧ s.e 7 = v ∧ ownI (h.next + 1) s.h v (((rd x).take k).flatMap (lets x)))
    (fun s => match s.e 8 with | .int _ k => ((rd x).length - k).toNat | _ => 0) ?_ ?_)
  · refine ⟨rfl, hk, Nat.le_of_eq hn1.symm, by simp [upd, dstUpd, ptr], by simp [upd, dstUpd], hg, 0, .slice none 0 0, Nat.zero_le _, by simp [upd, dstUpd], by simp [upd, dstUpd], .inl ⟨by simp, rfl⟩⟩
  rintro ⟨e, hp, d⟩ ⟨hd, hkp, hnp, g1, g5, gb, k, v, hkl, g8, g7, ho⟩
  simp only at hd hkp hnp g1 g5 gb g8 g7 ho
  subst hd
  rw [C13L0]
  refine Wc_seq (Wc_seq (Wc_ops (Wo_run (fun call => by simp only [List.drop_succ_cons, List.drop_zero, iops_nil, iops_op, iops_grd, iK_some, iG_true, iG_false, gval_bool, beq_true, beq_false, Bool.not_true, Bool.not_false, iop, ev, upd, dstUpd, binV, binI, unV, ptr, Heap.cell, Heap.write, cellsOf, put, args0, partL, List.getD_cons_zero, List.getD_cons_succ, List.length_cons, List.length_nil, List.set_cons_zero, List.set_cons_succ, List.getElem?_cons_zero, List.getElem?_cons_succ, reduceIte, Nat.reduceEqDiff, Nat.reduceAdd, Nat.reduceMul, Nat.reduceLeDiff, Nat.zero_add, Nat.add_zero, Option.map_some, Int.reduceEq, Int.reduceLT, Int.reduceLE, Bool.false_eq_true, decide_true, decide_false, ge_iff_le, gt_iff_lt, set_get', g8, g5, hsz]; rfl) ?_)))
  show Wc T _ _ _
  refine Wc_cond (decide ((k : Int) < (rd x).length)) (by simp [ev, upd]) (fun hlt => Wc_skip ?_) (fun hge => Wc_exit ?_)
  case refine_2 =>
    show Wc T _ _ _
    have hkk : k = (rd x).length := by simp at hge; omega
    refine Wc_seq (Wc_ops (Wo_run (fun call => by simp only [List.drop_succ_cons, List.drop_zero, iops_nil, iops_op, iops_grd, iK_some, iG_true, iG_false, gval_bool, beq_true, beq_false, Bool.not_true, Bool.not_false, iop, ev, upd, dstUpd, binV, binI, unV, ptr, Heap.cell, Heap.write, cellsOf, put, args0, partL, List.getD_cons_zero, List.getD_cons_succ, List.length_cons, List.length_nil, List.set_cons_zero, List.set_cons_succ, List.getElem?_cons_zero, List.getElem?_cons_succ, reduceIte, Nat.reduceEqDiff, Nat.reduceAdd, Nat.reduceMul, Nat.reduceLeDiff, Nat.zero_add, Nat.add_zero, Option.map_some, Int.reduceEq, Int.reduceLT, Int.reduceLE, Bool.false_eq_true, decide_true, decide_false, ge_iff_le, gt_iff_lt, set_get', g7]; rfl) ?_))
    refine Wc_ret ⟨.inr rfl, rfl, [v], by simp only [resAll, resV, upd, dstUpd, Nat.reduceEqDiff, reduceIte], hkp, v, rfl, ?_⟩
    rw [hkk, List.take_length] at ho
    exact ho.ints
  show Wc T _ _ _
  have hend : k < (rd x).length := by simpa using hlt
  obtain ⟨c, hc⟩ : ∃ c, (rd x)[k]? = some c := ⟨_, List.getElem?_eq_getElem hend⟩
  have hca := hasc c (List.mem_of_getElem? hc)
  have hat : (⟨(rd x).toArray⟩ : ByteArray).data.toList[k]? = some c := by simpa using hc
  have hidx : idxV (⟨(rd x).toArray⟩ : ByteArray).size (.int .i64 k) = some k := by rw [hsz]; exact idx_ok hend
  have e1 : IntKind.i64.wrap ((k : Int) + 1) = ((k + 1 : Nat) : Int) := by rw [wrap64] <;> omega
  have hlen : (((rd x).take k).flatMap (lets x)).length ≤ 3003 := by
    have h1 := flatMap_len (n := 1001) ((rd x).take k) (f := lets x) (fun c => by unfold lets; split; exact Nat.le_succ_of_le hl; exact Nat.succ_le_succ (Nat.zero_le _))
    have h2 : ((rd x).take k).length ≤ 3 := by rw [List.length_take]; omega
    omega
  refine Wc_seq (Wc_block (Wc_seq (Wc_ops (Wo_run (fun call => by simp only [List.drop_succ_cons, List.drop_zero, iops_nil, iops_op, iops_grd, iK_some, iG_true, iG_false, gval_bool, beq_true, beq_false, Bool.not_true, Bool.not_false, iop, ev, upd, dstUpd, binV, binI, unV, ptr, Heap.cell, Heap.write, cellsOf, put, args0, partL, List.getD_cons_zero, List.getD_cons_succ, List.length_cons, List.length_nil, List.set_cons_zero, List.set_cons_succ, List.getElem?_cons_zero, List.getElem?_cons_succ, reduceIte, Nat.reduceEqDiff, Nat.reduceAdd, Nat.reduceMul, Nat.reduceLeDiff, Nat.zero_add, Nat.add_zero, Option.map_some, Int.reduceEq, Int.reduceLT, Int.reduceLE, Bool.false_eq_true, decide_true, decide_false, ge_iff_le, gt_iff_lt, set_get', g5, g8, hidx, hat]; rfl) ?_))))
  show Wc T _ _ _
  have more : ∀ (e' : Env) (h4 : Heap) (v' : Value), e' 1 = ptr h.next 0 → e' 5 = .string ⟨(rd x).toArray⟩ → e' 7 = v' → e' 8 = .int .i64 k → Beside v hp h4 → ownI (h.next + 1) h4 v' (((rd x).take k).flatMap (lets x) ++ lets x c) →
      Wc T (.ops [⟨(some 21), .op (.mov (.t 8)), none⟩, ⟨(some 22), .op (.bin .add (.t 21) (.c (.int .i64 1))), none⟩, ⟨(some 8), .op (.mov (.t 22)), none⟩]) ⟨e', h4, some []⟩ (fun x_1 s' => match x_1 with
        | .normal => (s'.d = some [] ∧ Kept h s'.h ∧ h.next + 1 ≤ s'.h.next ∧ s'.e 1 = ptr h.next 0 ∧ s'.e 5 = .string ⟨(rd x).toArray⟩ ∧ s'.h.get h.next = some (.cells x.cells true 0) ∧
          ∃ (k : Nat) (v : Value), k ≤ (rd x).length ∧ s'.e 8 = .int .i64 k ∧ s'.e 7 = v ∧ ownI (h.next + 1) s'.h v (((rd x).take k).flatMap (lets x))) ∧
          (match s'.e 8 with | .int _ k => ((rd x).length - k).toNat | _ => 0) < (match e 8 with | .int _ k => ((rd x).length - k).toNat | _ => 0)
        | x_1 => Tb 0 (Tn T (.seq (.ops [⟨(some 39), .op (.mov (.t 7)), none⟩, ⟨(some 2), .op (.mov (.t 39)), none⟩]) .ret) (fun x_1 s => (x_1 = .normal ∨ x_1 = .ret) ∧ s.d = some [] ∧ ∃ vs, resAll s.e s.h [.tmp 2] = some vs ∧ Kept h s.h ∧ ∃ v, Out.ret (tup vs) = .ret v ∧ intsAt s.h v (readsOf x))) x_1 s') := by
    intro e' h4 v' f1 f5 f7 f8 hbs hown
    refine Wc_ops (Wo_run (fun call => by simp only [List.drop_succ_cons, List.drop_zero, iops_nil, iops_op, iops_grd, iK_some, iG_true, iG_false, gval_bool, beq_true, beq_false, Bool.not_true, Bool.not_false, iop, ev, upd, dstUpd, binV, binI, unV, ptr, Heap.cell, Heap.write, cellsOf, put, args0, partL, List.getD_cons_zero, List.getD_cons_succ, List.length_cons, List.length_nil, List.set_cons_zero, List.set_cons_succ, List.getElem?_cons_zero, List.getElem?_cons_succ, reduceIte, Nat.reduceEqDiff, Nat.reduceAdd, Nat.reduceMul, Nat.reduceLeDiff, Nat.zero_add, Nat.add_zero, Option.map_some, Int.reduceEq, Int.reduceLT, Int.reduceLE, Bool.false_eq_true, decide_true, decide_false, ge_iff_le, gt_iff_lt, set_get', f8, e1]; rfl) ?_)
    refine ⟨⟨rfl, hbs.kept ho (by omega) hkp, Nat.le_trans hnp hbs.next, by simp [upd, f1], by simp [upd, f5], by rw [hbs.at ho (by omega) (by omega)]; exact gb, k + 1, v', by omega, by simp [upd], by simp [upd, f7], by rw [take_flat (lets x) hc]; exact hown⟩, ?_⟩
    simp only [upd, reduceIte, g8]
    show (((rd x).length : Int) - ((k + 1 : Nat) : Int)).toNat < (((rd x).length : Int) - (k : Int)).toNat
    omega
  by_cases h76 : c = 76
  · subst h76
    refine Wc_cond true (by simp [ev, upd]) (fun _ => ?_) (fun h => by cases h)
    obtain ⟨v', h4, ha, hbs, hown, _⟩ := append_own ho hnp (hx.keep hkp).elems (by omega)
    refine Wc_ops (Wo_run (fun call => by simp only [List.drop_succ_cons, List.drop_zero, iops_nil, iops_op, iops_grd, iK_some, iG_true, iG_false, gval_bool, beq_true, beq_false, Bool.not_true, Bool.not_false, iop, ev, upd, dstUpd, binV, binI, unV, ptr, Heap.cell, Heap.write, cellsOf, put, args0, partL, List.getD_cons_zero, List.getD_cons_succ, List.length_cons, List.length_nil, List.set_cons_zero, List.set_cons_succ, List.getElem?_cons_zero, List.getElem?_cons_succ, reduceIte, Nat.reduceEqDiff, Nat.reduceAdd, Nat.reduceMul, Nat.reduceLeDiff, Nat.zero_add, Nat.add_zero, Option.map_some, Int.reduceEq, Int.reduceLT, Int.reduceLE, Bool.false_eq_true, decide_true, decide_false, ge_iff_le, gt_iff_lt, set_get', g7, g1, gb, Ins.cells, ha]; rfl) ?_)
    exact more _ _ v' (by simp [upd, dstUpd, g1]) (by simp [upd, dstUpd, g5]) (by simp [upd, dstUpd]) (by simp [upd, dstUpd, g8]) hbs (by simpa [lets] using hown)
  · have hne : ((c.toNat : Int) == 76) = false := by
      simp only [beq_eq_false_iff_ne, ne_eq]
      intro e
      apply h76
      apply UInt8.toNat_inj.1
      show c.toNat = 76
      omega
    refine Wc_cond false (by simp [ev, upd, hne]) (fun h => by cases h) (fun _ => ?_)
    have hload : hp.cells h.next 0 6 = some x.cells := by
      simp only [Heap.cells, gb]
      rfl
    refine Wc_draw_still (by decide) (Wo_pre 5 (fun call => by simp only [List.take_succ_cons, List.take_zero, List.drop_succ_cons, List.drop_zero, iops_nil, iops_op, iops_grd, iK_some, iG_true, iG_false, gval_bool, beq_true, beq_false, Bool.not_true, Bool.not_false, iop, ev, upd, dstUpd, binV, binI, unV, ptr, Heap.cell, Heap.write, cellsOf, put, args0, partL, List.getD_cons_zero, List.getD_cons_succ, List.length_cons, List.length_nil, List.set_cons_zero, List.set_cons_succ, List.getElem?_cons_zero, List.getElem?_cons_succ, reduceIte, Nat.reduceEqDiff, Nat.reduceAdd, Nat.reduceMul, Nat.reduceLeDiff, Nat.zero_add, Nat.add_zero, Option.map_some, Int.reduceEq, Int.reduceLT, Int.reduceLE, Bool.false_eq_true, decide_true, decide_false, ge_iff_le, gt_iff_lt, set_get', g7, g1, g5, g8, hload, hidx, hat]; rfl) ?_)
    refine Wo_call ?_
    show Wk T (.fn 28) [x.val, .int .u8 c.toNat] hp _
    refine (field28 hT28 x c.toNat hp).mono fun o h4 ⟨hk4, ho4⟩ => ?_
    subst ho4
    show Wo T _ _ _
    have ho4 : ownI (h.next + 1) h4 v (((rd x).take k).flatMap (lets x)) := ho.keep hk4.next (fun b h1 h2 => hk4.get b h2)
    have ho5 : ownI (h.next + 1) (h4.new (.cells [.int .i64 (fld x c.toNat)] true 1)) v (((rd x).take k).flatMap (lets x)) := ho4.keep (Nat.le_succ _) (fun b h1 h2 => new_get_ne' _ _ (Nat.ne_of_lt h2))
    have hel : elemsOf (h4.new (.cells [.int .i64 (fld x c.toNat)] true 1)) 1 (.slice (some ⟨h4.next, 0, none⟩) 1 1) = some ([fld x c.toNat].length, ints64 [fld x c.toNat]) := by
      simp [elemsOf, Heap.cells, new_get', ints64]
    obtain ⟨v', h5, ha, hbs, hown, _⟩ := append_own ho5 (by rw [new_next]; have := hk4.next; omega) hel (by rw [List.length_singleton]; omega)
    refine Wo_op rfl ?_
    refine (Wo_run (fun call => by simp only [List.drop_succ_cons, List.drop_zero, iops_nil, iops_op, iops_grd, iK_some, iG_true, iG_false, gval_bool, beq_true, beq_false, Bool.not_true, Bool.not_false, iop, ev, upd, dstUpd, binV, binI, unV, ptr, Heap.cell, Heap.write, cellsOf, put, args0, partL, List.getD_cons_zero, List.getD_cons_succ, List.length_cons, List.length_nil, List.set_cons_zero, List.set_cons_succ, List.getElem?_cons_zero, List.getElem?_cons_succ, reduceIte, Nat.reduceEqDiff, Nat.reduceAdd, Nat.reduceMul, Nat.reduceLeDiff, Nat.zero_add, Nat.add_zero, Option.map_some, Int.reduceEq, Int.reduceLT, Int.reduceLE, Bool.false_eq_true, decide_true, decide_false, ge_iff_le, gt_iff_lt, set_get', g7, ha]; rfl) ?_)
    refine ⟨rfl, more _ _ v' (by simp [upd, dstUpd, g1]) (by simp [upd, dstUpd, g5]) (by simp [upd, dstUpd]) (by simp [upd, dstUpd, g8]) ⟨?_, fun b h1 h2 => ?_⟩ (by simpa [lets, h76] using hown)⟩
    · show hp.next ≤ h5.next
      have := hk4.next; have := hbs.next; rw [new_next] at this; omega
    · have := hk4.next
      rw [hbs.get b (by rw [new_next]; omega) h2, new_get_ne' _ _ (by omega), hk4.get b h1]

def writesOf (x : Ins) : Int := if (rowAt x.op).2.2.2 = [] then -1 else x.a

theorem str_empty (l : List UInt8) : decide ((⟨l.toArray⟩ : ByteArray) = ⟨#[]⟩) = decide (l = []) := by
  rw [decide_eq_decide]
  constructor
  · intro h
    have := congrArg (fun b : ByteArray => b.data.toList) h
    simpa using this
  · rintro rfl; rfl

theorem writes14 {T : Tbl} (hT : T.fn 14 = some C14) (h25 : ∀ {op : Int} {h : Heap} {K : Out → Heap → Prop}, K (.ret (.agg (rowL op).toArray)) h → Wk T (.fn 25) [.int .i64 op] h K)
    (x : Ins) (h : Heap) : Wk T (.fn 14) [x.val] h (fun o h' => Kept h h' ∧ o = .ret (.int .i64 (writesOf x))) := by
  refine Wk_fn hT (by simp [C14]) ?_
  simp only [C14]
  have hb : iop (.box (.t 0)) (args0 [x.val]) h = some (ptr h.next 0, h.new (.cells x.cells true 0)) := by simp [iop, ev, args0, Ins.val, cellsOf]
  refine Wc_seq (Wc_ops (Wo_op hb (Wo_run (fun call => by simp only [List.drop_succ_cons, List.drop_zero, iops_nil, iops_op, iops_grd, iK_some, iG_true, iG_false, gval_bool, beq_true, beq_false, Bool.not_true, Bool.not_false, iop, ev, upd, dstUpd, binV, binI, unV, ptr, Heap.cell, Heap.write, cellsOf, put, args0, partL, List.getD_cons_zero, List.getD_cons_succ, List.length_cons, List.length_nil, List.set_cons_zero, List.set_cons_succ, List.getElem?_cons_zero, List.getElem?_cons_succ, reduceIte, Nat.reduceEqDiff, Nat.reduceAdd, Nat.reduceMul, Nat.reduceLeDiff, Nat.zero_add, Nat.add_zero, Option.map_some, Int.reduceEq, Int.reduceLT, Int.reduceLE, Bool.false_eq_true, decide_true, decide_false, ge_iff_le, gt_iff_lt, set_get']; rfl) ?_)))
  show Wc T _ _ _
  have hg : (h.new (.cells x.cells true 0)).get h.next = some (.cells x.cells true 0) := new_get' _ _
  have hk : Kept h (h.new (.cells x.cells true 0)) := (Kept.refl h).new _
  generalize h.new (.cells x.cells true 0) = h1 at hg hk ⊢
  refine Wc_seq (Wc_seq (Wc_ops (Wo_pre 2 (fun call => by simp only [List.take_succ_cons, List.take_zero, List.drop_succ_cons, List.drop_zero, iops_nil, iops_op, iops_grd, iK_some, iG_true, iG_false, gval_bool, beq_true, beq_false, Bool.not_true, Bool.not_false, iop, ev, upd, dstUpd, binV, binI, unV, ptr, Heap.cell, Heap.write, cellsOf, put, args0, partL, List.getD_cons_zero, List.getD_cons_succ, List.length_cons, List.length_nil, List.set_cons_zero, List.set_cons_succ, List.getElem?_cons_zero, List.getElem?_cons_succ, reduceIte, Nat.reduceEqDiff, Nat.reduceAdd, Nat.reduceMul, Nat.reduceLeDiff, Nat.zero_add, Nat.add_zero, Option.map_some, Int.reduceEq, Int.reduceLT, Int.reduceLE, Bool.false_eq_true, decide_true, decide_false, ge_iff_le, gt_iff_lt, set_get', hg, Ins.cells]; rfl) ?_)))
  refine Wo_call (h25 ?_)
  show Wo T _ _ _
  refine (Wo_run (fun call => by simp only [List.drop_succ_cons, List.drop_zero, iops_nil, iops_op, iops_grd, iK_some, iG_true, iG_false, gval_bool, beq_true, beq_false, Bool.not_true, Bool.not_false, iop, ev, upd, dstUpd, binV, binI, unV, ptr, Heap.cell, Heap.write, cellsOf, put, args0, partL, List.getD_cons_zero, List.getD_cons_succ, List.length_cons, List.length_nil, List.set_cons_zero, List.set_cons_succ, List.getElem?_cons_zero, List.getElem?_cons_succ, reduceIte, Nat.reduceEqDiff, Nat.reduceAdd, Nat.reduceMul, Nat.reduceLeDiff, Nat.zero_add, Nat.add_zero, Option.map_some, Int.reduceEq, Int.reduceLT, Int.reduceLE, Bool.false_eq_true, decide_true, decide_false, ge_iff_le, gt_iff_lt, set_get', rowL, strB, str_empty]; rfl) ?_)
  show Wc T _ _ _
  refine Wc_cond (decide ((rowAt x.op).2.2.2 = [])) (by simp [ev, upd]) (fun he => ?_) (fun hne => Wc_skip ?_)
  · refine Wc_seq (Wc_ops (Wo_run (fun call => by simp only [List.drop_succ_cons, List.drop_zero, iops_nil, iops_op, iops_grd, iK_some, iG_true, iG_false, gval_bool, beq_true, beq_false, Bool.not_true, Bool.not_false, iop, ev, upd, dstUpd, binV, binI, unV, ptr, Heap.cell, Heap.write, cellsOf, put, args0, partL, List.getD_cons_zero, List.getD_cons_succ, List.length_cons, List.length_nil, List.set_cons_zero, List.set_cons_succ, List.getElem?_cons_zero, List.getElem?_cons_succ, reduceIte, Nat.reduceEqDiff, Nat.reduceAdd, Nat.reduceMul, Nat.reduceLeDiff, Nat.zero_add, Nat.add_zero, Option.map_some, Int.reduceEq, Int.reduceLT, Int.reduceLE, Bool.false_eq_true, decide_true, decide_false, ge_iff_le, gt_iff_lt, set_get']; rfl) ?_))
    refine Wc_ret ⟨.inr rfl, rfl, [.int .i64 (-1)], by simp [resAll, resV, upd, dstUpd], hk, ?_⟩
    have : (rowAt x.op).2.2.2 = [] := by simpa using he
    simp [writesOf, this, tup]
  · show Wc T _ _ _
    refine Wc_seq (Wc_ops (Wo_run (fun call => by simp only [List.drop_succ_cons, List.drop_zero, iops_nil, iops_op, iops_grd, iK_some, iG_true, iG_false, gval_bool, beq_true, beq_false, Bool.not_true, Bool.not_false, iop, ev, upd, dstUpd, binV, binI, unV, ptr, Heap.cell, Heap.write, cellsOf, put, args0, partL, List.getD_cons_zero, List.getD_cons_succ, List.length_cons, List.length_nil, List.set_cons_zero, List.set_cons_succ, List.getElem?_cons_zero, List.getElem?_cons_succ, reduceIte, Nat.reduceEqDiff, Nat.reduceAdd, Nat.reduceMul, Nat.reduceLeDiff, Nat.zero_add, Nat.add_zero, Option.map_some, Int.reduceEq, Int.reduceLT, Int.reduceLE, Bool.false_eq_true, decide_true, decide_false, ge_iff_le, gt_iff_lt, set_get', hg, Ins.cells]; rfl) ?_))
    refine Wc_ret ⟨.inr rfl, rfl, [.int .i64 x.a], by simp [resAll, resV, upd, dstUpd], hk, ?_⟩
    have : ¬ (rowAt x.op).2.2.2 = [] := by simpa using hne
    simp [writesOf, this, tup]

theorem writes15 {T : Tbl} (hT : T.fn 15 = some C15) (h27 : ∀ {op : Int} {h : Heap} {K : Out → Heap → Prop}, K (.ret (.tuple (rowL op).toArray)) h → Wk T (.fn 27) [.int .i64 op] h K)
    (x : Ins) (h : Heap) : Wk T (.fn 15) [x.val] h (fun o h' => Kept h h' ∧ o = .ret (.int .i64 (writesOf x))) := by
  refine Wk_fn hT (by simp [C15]) ?_
  simp only [C15]
  have hb : iop (.box (.t 0)) (args0 [x.val]) h = some (ptr h.next 0, h.new (.cells x.cells true 0)) := by simp [iop, ev, args0, Ins.val, cellsOf]
  refine Wc_seq (Wc_ops (Wo_op hb (Wo_run (fun call => by simp only [List.drop_succ_cons, List.drop_zero, iops_nil, iops_op, iops_grd, iK_some, iG_true, iG_false, gval_bool, beq_true, beq_false, Bool.not_true, Bool.not_false, iop, ev, upd, dstUpd, binV, binI, unV, ptr, Heap.cell, Heap.write, cellsOf, put, args0, partL, List.getD_cons_zero, List.getD_cons_succ, List.length_cons, List.length_nil, List.set_cons_zero, List.set_cons_succ, List.getElem?_cons_zero, List.getElem?_cons_succ, reduceIte, Nat.reduceEqDiff, Nat.reduceAdd, Nat.reduceMul, Nat.reduceLeDiff, Nat.zero_add, Nat.add_zero, Option.map_some, Int.reduceEq, Int.reduceLT, Int.reduceLE, Bool.false_eq_true, decide_true, decide_false, ge_iff_le, gt_iff_lt, set_get']; rfl) ?_)))
  show Wc T _ _ _
  have hg : (h.new (.cells x.cells true 0)).get h.next = some (.cells x.cells true 0) := new_get' _ _
  have hk : Kept h (h.new (.cells x.cells true 0)) := (Kept.refl h).new _
  generalize h.new (.cells x.cells true 0) = h1 at hg hk ⊢
  refine Wc_seq (Wc_ops (Wo_pre 2 (fun call => by simp only [List.take_succ_cons, List.take_zero, List.drop_succ_cons, List.drop_zero, iops_nil, iops_op, iops_grd, iK_some, iG_true, iG_false, gval_bool, beq_true, beq_false, Bool.not_true, Bool.not_false, iop, ev, upd, dstUpd, binV, binI, unV, ptr, Heap.cell, Heap.write, cellsOf, put, args0, partL, List.getD_cons_zero, List.getD_cons_succ, List.length_cons, List.length_nil, List.set_cons_zero, List.set_cons_succ, List.getElem?_cons_zero, List.getElem?_cons_succ, reduceIte, Nat.reduceEqDiff, Nat.reduceAdd, Nat.reduceMul, Nat.reduceLeDiff, Nat.zero_add, Nat.add_zero, Option.map_some, Int.reduceEq, Int.reduceLT, Int.reduceLE, Bool.false_eq_true, decide_true, decide_false, ge_iff_le, gt_iff_lt, set_get', hg, Ins.cells]; rfl) ?_))
  refine Wo_call (h27 ?_)
  show Wo T _ _ _
  refine (Wo_run (fun call => by simp only [List.drop_succ_cons, List.drop_zero, iops_nil, iops_op, iops_grd, iK_some, iG_true, iG_false, gval_bool, beq_true, beq_false, Bool.not_true, Bool.not_false, iop, ev, upd, dstUpd, binV, binI, unV, ptr, Heap.cell, Heap.write, cellsOf, put, args0, partL, List.getD_cons_zero, List.getD_cons_succ, List.length_cons, List.length_nil, List.set_cons_zero, List.set_cons_succ, List.getElem?_cons_zero, List.getElem?_cons_succ, reduceIte, Nat.reduceEqDiff, Nat.reduceAdd, Nat.reduceMul, Nat.reduceLeDiff, Nat.zero_add, Nat.add_zero, Option.map_some, Int.reduceEq, Int.reduceLT, Int.reduceLE, Bool.false_eq_true, decide_true, decide_false, ge_iff_le, gt_iff_lt, set_get', rowL, strB]; rfl) ?_)
  show Wc T _ _ _
  refine Wc_seq (Wc_seq (Wc_ops (Wo_run (fun call => by simp only [List.drop_succ_cons, List.drop_zero, iops_nil, iops_op, iops_grd, iK_some, iG_true, iG_false, gval_bool, beq_true, beq_false, Bool.not_true, Bool.not_false, iop, ev, upd, dstUpd, binV, binI, unV, ptr, Heap.cell, Heap.write, cellsOf, put, args0, partL, List.getD_cons_zero, List.getD_cons_succ, List.length_cons, List.length_nil, List.set_cons_zero, List.set_cons_succ, List.getElem?_cons_zero, List.getElem?_cons_succ, reduceIte, Nat.reduceEqDiff, Nat.reduceAdd, Nat.reduceMul, Nat.reduceLeDiff, Nat.zero_add, Nat.add_zero, Option.map_some, Int.reduceEq, Int.reduceLT, Int.reduceLE, Bool.false_eq_true, decide_true, decide_false, ge_iff_le, gt_iff_lt, set_get', str_empty]; rfl) ?_)))
  show Wc T _ _ _
  refine Wc_cond (decide ((rowAt x.op).2.2.2 = [])) (by simp [ev, upd]) (fun he => ?_) (fun hne => Wc_skip ?_)
  · refine Wc_seq (Wc_ops (Wo_run (fun call => by simp only [List.drop_succ_cons, List.drop_zero, iops_nil, iops_op, iops_grd, iK_some, iG_true, iG_false, gval_bool, beq_true, beq_false, Bool.not_true, Bool.not_false, iop, ev, upd, dstUpd, binV, binI, unV, ptr, Heap.cell, Heap.write, cellsOf, put, args0, partL, List.getD_cons_zero, List.getD_cons_succ, List.length_cons, List.length_nil, List.set_cons_zero, List.set_cons_succ, List.getElem?_cons_zero, List.getElem?_cons_succ, reduceIte, Nat.reduceEqDiff, Nat.reduceAdd, Nat.reduceMul, Nat.reduceLeDiff, Nat.zero_add, Nat.add_zero, Option.map_some, Int.reduceEq, Int.reduceLT, Int.reduceLE, Bool.false_eq_true, decide_true, decide_false, ge_iff_le, gt_iff_lt, set_get']; rfl) ?_))
    refine Wc_ret ⟨.inr rfl, rfl, [.int .i64 (-1)], by simp [resAll, resV, upd, dstUpd], hk, ?_⟩
    have : (rowAt x.op).2.2.2 = [] := by simpa using he
    simp [writesOf, this, tup]
  · show Wc T _ _ _
    refine Wc_seq (Wc_ops (Wo_run (fun call => by simp only [List.drop_succ_cons, List.drop_zero, iops_nil, iops_op, iops_grd, iK_some, iG_true, iG_false, gval_bool, beq_true, beq_false, Bool.not_true, Bool.not_false, iop, ev, upd, dstUpd, binV, binI, unV, ptr, Heap.cell, Heap.write, cellsOf, put, args0, partL, List.getD_cons_zero, List.getD_cons_succ, List.length_cons, List.length_nil, List.set_cons_zero, List.set_cons_succ, List.getElem?_cons_zero, List.getElem?_cons_succ, reduceIte, Nat.reduceEqDiff, Nat.reduceAdd, Nat.reduceMul, Nat.reduceLeDiff, Nat.zero_add, Nat.add_zero, Option.map_some, Int.reduceEq, Int.reduceLT, Int.reduceLE, Bool.false_eq_true, decide_true, decide_false, ge_iff_le, gt_iff_lt, set_get', hg, Ins.cells]; rfl) ?_))
    refine Wc_ret ⟨.inr rfl, rfl, [.int .i64 x.a], by simp [resAll, resV, upd, dstUpd], hk, ?_⟩
    have : ¬ (rowAt x.op).2.2.2 = [] := by simpa using hne
    simp [writesOf, this, tup]

theorem ints11 {T : Tbl} {f : FuncId} (hT : T.fn f = some C11) {h : Heap} {va vb : Value} {a b : List Int} (ha : intsAt h va a) (hb : intsAt h vb b) (hla : a.length < 4611686018427387904) :
    Wk T (.fn f) [va, vb] h (fun o h' => h' = h ∧ o = .ret (.bool (decide (a = b)))) := by
  obtain ⟨p1, c1, h1⟩ := ha.len
  obtain ⟨p2, c2, h2⟩ := hb.len
  have fin : ∀ (e' : Env) (r : Bool), decide (a = b) = r → e' 4 = .bool r → (∃ vs, resAll e' h C11.res = some vs ∧ h = h ∧ Out.ret (tup vs) = .ret (.bool (decide (a = b)))) := by
    intro e' r hr h4
    exact ⟨[.bool r], by simp only [C11, resAll, resV, h4], rfl, by rw [hr]; rfl⟩
  refine Wk_fn hT (by simp [C11]) ?_
  simp only [C11]
  refine Wc_seq (Wc_ops (Wo_run (fun call => by simp only [List.drop_succ_cons, List.drop_zero, iops_nil, iops_op, iops_grd, iK_some, iG_true, iG_false, gval_bool, beq_true, beq_false, Bool.not_true, Bool.not_false, iop, ev, upd, dstUpd, binV, binI, unV, ptr, Heap.cell, Heap.write, cellsOf, put, args0, partL, List.getD_cons_zero, List.getD_cons_succ, List.length_cons, List.length_nil, List.set_cons_zero, List.set_cons_succ, List.getElem?_cons_zero, List.getElem?_cons_succ, reduceIte, Nat.reduceEqDiff, Nat.reduceAdd, Nat.reduceMul, Nat.reduceLeDiff, Nat.zero_add, Nat.add_zero, Option.map_some, Int.reduceEq, Int.reduceLT, Int.reduceLE, Bool.false_eq_true, decide_true, decide_false, ge_iff_le, gt_iff_lt, set_get']; rfl) ?_))
  show Wc T _ _ _
  refine Wc_seq (Wc_seq (Wc_ops (Wo_run (fun call => by simp only [List.drop_succ_cons, List.drop_zero, iops_nil, iops_op, iops_grd, iK_some, iG_true, iG_false, gval_bool, beq_true, beq_false, Bool.not_true, Bool.not_false, iop, ev, upd, dstUpd, binV, binI, unV, ptr, Heap.cell, Heap.write, cellsOf, put, args0, partL, List.getD_cons_zero, List.getD_cons_succ, List.length_cons, List.length_nil, List.set_cons_zero, List.set_cons_succ, List.getElem?_cons_zero, List.getElem?_cons_succ, reduceIte, Nat.reduceEqDiff, Nat.reduceAdd, Nat.reduceMul, Nat.reduceLeDiff, Nat.zero_add, Nat.add_zero, Option.map_some, Int.reduceEq, Int.reduceLT, Int.reduceLE, Bool.false_eq_true, decide_true, decide_false, ge_iff_le, gt_iff_lt, set_get', h1, h2]; rfl) ?_)))
  show Wc T _ _ _
  refine Wc_cond ((a.length : Int) != (b.length : Int)) (by simp [ev, upd]) (fun hne => ?_) (fun heq => Wc_skip ?_)
  · refine Wc_seq (Wc_ops (Wo_run (fun call => by simp only [List.drop_succ_cons, List.drop_zero, iops_nil, iops_op, iops_grd, iK_some, iG_true, iG_false, gval_bool, beq_true, beq_false, Bool.not_true, Bool.not_false, iop, ev, upd, dstUpd, binV, binI, unV, ptr, Heap.cell, Heap.write, cellsOf, put, args0, partL, List.getD_cons_zero, List.getD_cons_succ, List.length_cons, List.length_nil, List.set_cons_zero, List.set_cons_succ, List.getElem?_cons_zero, List.getElem?_cons_succ, reduceIte, Nat.reduceEqDiff, Nat.reduceAdd, Nat.reduceMul, Nat.reduceLeDiff, Nat.zero_add, Nat.add_zero, Option.map_some, Int.reduceEq, Int.reduceLT, Int.reduceLE, Bool.false_eq_true, decide_true, decide_false, ge_iff_le, gt_iff_lt, set_get']; rfl) ?_))
    refine Wc_ret ⟨.inr rfl, rfl, fin _ false ?_ (by simp [upd, dstUpd])⟩
    simp only [decide_eq_false_iff_not]
    rintro rfl
    simp at hne
  show Wc T _ _ _
  have hlen : a.length = b.length := by simp at heq; omega
  refine Wc_seq (Wc_seq (Wc_ops (Wo_run (fun call => by simp only [List.drop_succ_cons, List.drop_zero, iops_nil, iops_op, iops_grd, iK_some, iG_true, iG_false, gval_bool, beq_true, beq_false, Bool.not_true, Bool.not_false, iop, ev, upd, dstUpd, binV, binI, unV, ptr, Heap.cell, Heap.write, cellsOf, put, args0, partL, List.getD_cons_zero, List.getD_cons_succ, List.length_cons, List.length_nil, List.set_cons_zero, List.set_cons_succ, List.getElem?_cons_zero, List.getElem?_cons_succ, reduceIte, Nat.reduceEqDiff, Nat.reduceAdd, Nat.reduceMul, Nat.reduceLeDiff, Nat.zero_add, Nat.add_zero, Option.map_some, Int.reduceEq, Int.reduceLT, Int.reduceLE, Bool.false_eq_true, decide_true, decide_false, ge_iff_le, gt_iff_lt, set_get', h1]; rfl) ?_)))
  show Wc T _ _ _
  refine Wc_block (Wc_loop (fun s => s.d = some [] ∧ s.h = h ∧ s.e 0 = va ∧ s.e 1 = vb ∧ s.e 12 = .int .i64 a.length ∧ ∃ i : Nat, i ≤ a.length ∧ s.e 13 = .int .i64 i ∧ a.take i = b.take i)
    (fun s => match s.e 13 with | .int _ i => (a.length - i).toNat | _ => 0) ?_ ?_)
  · exact ⟨rfl, rfl, by simp [upd, dstUpd, args0, h1], by simp [upd, dstUpd, args0, h2], by simp [upd, dstUpd], 0, Nat.zero_le _, by simp [upd, dstUpd], rfl⟩
  rintro ⟨e, hp, d⟩ ⟨hd, hh, g0, g1, g12, i, hi, g13, ht⟩
  simp only at hd hh g0 g1 g12 g13
  subst hd hh
  rw [C11L0]
  refine Wc_seq (Wc_ops (Wo_run (fun call => by simp only [List.drop_succ_cons, List.drop_zero, iops_nil, iops_op, iops_grd, iK_some, iG_true, iG_false, gval_bool, beq_true, beq_false, Bool.not_true, Bool.not_false, iop, ev, upd, dstUpd, binV, binI, unV, ptr, Heap.cell, Heap.write, cellsOf, put, args0, partL, List.getD_cons_zero, List.getD_cons_succ, List.length_cons, List.length_nil, List.set_cons_zero, List.set_cons_succ, List.getElem?_cons_zero, List.getElem?_cons_succ, reduceIte, Nat.reduceEqDiff, Nat.reduceAdd, Nat.reduceMul, Nat.reduceLeDiff, Nat.zero_add, Nat.add_zero, Option.map_some, Int.reduceEq, Int.reduceLT, Int.reduceLE, Bool.false_eq_true, decide_true, decide_false, ge_iff_le, gt_iff_lt, set_get', g12, g13]; rfl) ?_))
  show Wc T _ _ _
  refine Wc_seq (Wc_cond (decide ((i : Int) < a.length)) (by simp [ev, upd]) (fun hlt => Wc_skip ?_) (fun hge => Wc_exit ?_))
  case refine_2 =>
    show Wc T _ _ _
    have : i = a.length := by simp at hge; omega
    subst this
    refine Wc_seq (Wc_ops (Wo_run (fun call => by simp only [List.drop_succ_cons, List.drop_zero, iops_nil, iops_op, iops_grd, iK_some, iG_true, iG_false, gval_bool, beq_true, beq_false, Bool.not_true, Bool.not_false, iop, ev, upd, dstUpd, binV, binI, unV, ptr, Heap.cell, Heap.write, cellsOf, put, args0, partL, List.getD_cons_zero, List.getD_cons_succ, List.length_cons, List.length_nil, List.set_cons_zero, List.set_cons_succ, List.getElem?_cons_zero, List.getElem?_cons_succ, reduceIte, Nat.reduceEqDiff, Nat.reduceAdd, Nat.reduceMul, Nat.reduceLeDiff, Nat.zero_add, Nat.add_zero, Option.map_some, Int.reduceEq, Int.reduceLT, Int.reduceLE, Bool.false_eq_true, decide_true, decide_false, ge_iff_le, gt_iff_lt, set_get']; rfl) ?_))
    refine Wc_ret ⟨.inr rfl, rfl, fin _ true ?_ (by simp [upd, dstUpd])⟩
    rw [List.take_length, hlen, List.take_length] at ht
    simp [ht]
  show Wc T _ _ _
  have hil : i < a.length := by simpa using hlt
  have hil2 : i < b.length := by omega
  obtain ⟨x, hxi⟩ : ∃ x, a[i]? = some x := ⟨_, List.getElem?_eq_getElem hil⟩
  obtain ⟨y, hyi⟩ : ∃ y, b[i]? = some y := ⟨_, List.getElem?_eq_getElem hil2⟩
  obtain ⟨bx, cx, hva, hbx, ⟨o1, z1, hgx⟩, hcx⟩ := ha.load hxi
  obtain ⟨by', cy, hvb, hby, ⟨o2, z2, hgy⟩, hcy⟩ := hb.load hyi
  rw [Nat.zero_add, Nat.mul_one] at hcx hcy
  have e1 : IntKind.i64.wrap ((i : Int) + 1) = ((i + 1 : Nat) : Int) := by rw [wrap64] <;> omega
  refine Wc_seq (Wc_block (Wc_seq (Wc_ops (Wo_run (fun call => by simp only [List.drop_succ_cons, List.drop_zero, iops_nil, iops_op, iops_grd, iK_some, iG_true, iG_false, gval_bool, beq_true, beq_false, Bool.not_true, Bool.not_false, iop, ev, upd, dstUpd, binV, binI, unV, ptr, Heap.cell, Heap.write, cellsOf, put, args0, partL, List.getD_cons_zero, List.getD_cons_succ, List.length_cons, List.length_nil, List.set_cons_zero, List.set_cons_succ, List.getElem?_cons_zero, List.getElem?_cons_succ, reduceIte, Nat.reduceEqDiff, Nat.reduceAdd, Nat.reduceMul, Nat.reduceLeDiff, Nat.zero_add, Nat.add_zero, Option.map_some, Int.reduceEq, Int.reduceLT, Int.reduceLE, Bool.false_eq_true, decide_true, decide_false, ge_iff_le, gt_iff_lt, set_get', g13]; rfl) ?_))))
  show Wc T _ _ _
  refine Wc_seq (Wc_draw_calm (by decide) (Wo_run (fun call => by simp only [iops_nil, iops_op, iK_some, iop, ev, upd, dstUpd, ptr, Heap.cell, binV, binI, Nat.reduceEqDiff, reduceIte, Nat.zero_add, Nat.mul_one, Option.map_some, g13, g0, g1, hva, hvb, idx_ok hil, idx_ok hil2, hgx, hcx, hgy, hcy]; rfl) ⟨rfl, ?_⟩))
  show Wc T _ _ _
  refine Wc_cond (x != y) (by simp [ev, upd]) (fun hne => ?_) (fun heq => Wc_skip ?_)
  · refine Wc_seq (Wc_ops (Wo_run (fun call => by simp only [List.drop_succ_cons, List.drop_zero, iops_nil, iops_op, iops_grd, iK_some, iG_true, iG_false, gval_bool, beq_true, beq_false, Bool.not_true, Bool.not_false, iop, ev, upd, dstUpd, binV, binI, unV, ptr, Heap.cell, Heap.write, cellsOf, put, args0, partL, List.getD_cons_zero, List.getD_cons_succ, List.length_cons, List.length_nil, List.set_cons_zero, List.set_cons_succ, List.getElem?_cons_zero, List.getElem?_cons_succ, reduceIte, Nat.reduceEqDiff, Nat.reduceAdd, Nat.reduceMul, Nat.reduceLeDiff, Nat.zero_add, Nat.add_zero, Option.map_some, Int.reduceEq, Int.reduceLT, Int.reduceLE, Bool.false_eq_true, decide_true, decide_false, ge_iff_le, gt_iff_lt, set_get']; rfl) ?_))
    refine Wc_ret ⟨.inr rfl, rfl, fin _ false ?_ (by simp [upd, dstUpd])⟩
    simp only [decide_eq_false_iff_not]
    exact ne_of_at hxi hyi (by simpa using hne)
  · show Wc T _ _ _
    have hxy : x = y := by simpa using heq
    subst hxy
    refine Wc_ops (Wo_run (fun call => by simp only [List.drop_succ_cons, List.drop_zero, iops_nil, iops_op, iops_grd, iK_some, iG_true, iG_false, gval_bool, beq_true, beq_false, Bool.not_true, Bool.not_false, iop, ev, upd, dstUpd, binV, binI, unV, ptr, Heap.cell, Heap.write, cellsOf, put, args0, partL, List.getD_cons_zero, List.getD_cons_succ, List.length_cons, List.length_nil, List.set_cons_zero, List.set_cons_succ, List.getElem?_cons_zero, List.getElem?_cons_succ, reduceIte, Nat.reduceEqDiff, Nat.reduceAdd, Nat.reduceMul, Nat.reduceLeDiff, Nat.zero_add, Nat.add_zero, Option.map_some, Int.reduceEq, Int.reduceLT, Int.reduceLE, Bool.false_eq_true, decide_true, decide_false, ge_iff_le, gt_iff_lt, set_get', g13, e1]; rfl) ?_)
    refine ⟨⟨rfl, rfl, ?_, ?_, ?_, i + 1, by omega, ?_, take_eq_succ ht hxi hyi⟩, ?_⟩
    · simp only [upd, Nat.reduceEqDiff, reduceIte]; exact g0
    · simp only [upd, Nat.reduceEqDiff, reduceIte]; exact g1
    · simp only [upd, Nat.reduceEqDiff, reduceIte]; exact g12
    · simp only [upd, Nat.reduceEqDiff, reduceIte]
    · simp only [upd, Nat.reduceEqDiff, reduceIte, g13]; omega

end Go.Idl
