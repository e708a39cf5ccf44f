/- few, and how deep a list is. -/
import Derived.Test.YtlphecjgkknpnaaN1
import Derived.Test.YtlphecjgkknpnaaFdeep
namespace Go.Idl
set_option linter.unusedVariables false
set_option linter.unusedSimpArgs false


theorem intsAt.len {h : Heap} {v : Value} {l : List Int} (hh : intsAt h v l) : ∃ a c, v = .slice a l.length c := by
  rcases hh with ⟨rfl, rfl⟩ | ⟨b, c, h1, _⟩
  · exact ⟨none, 0, rfl⟩
  · exact ⟨_, c, h1⟩
theorem nodesAt.len {h : Heap} {v : Value} {l : List Nd} (hh : nodesAt h v l) : ∃ a c, v = .slice a l.length c := by
  rcases hh.1 with ⟨rfl, rfl⟩ | ⟨b, c, h1, _⟩
  · exact ⟨none, 0, rfl⟩
  · exact ⟨_, c, h1⟩

theorem weight_take {l : List Nd} {i : Nat} {x : Nd} (h : l[i]? = some x) : weight (l.take (i + 1)) = weight (l.take i) + (x.kids.length + x.text.size / 20) := by
  unfold weight
  rw [List.take_add_one, h]
  simp
theorem weight_le (l : List Nd) (i : Nat) : weight (l.take i) ≤ weight l := by
  have : weight l = weight (l.take i) + weight (l.drop i) := by
    unfold weight
    rw [← List.sum_append, ← List.map_append, List.take_append_drop]
  omega

theorem few_spec {T : Tbl} (hT : T.fn 10 = some C10) {h : Heap} {v : Value} {l : List Nd} (hn : nodesAt h v l) (hw : l.length + weight l < 4611686018427387904) :
    Wk T (.fn 10) [v] h (fun o h' => Kept h h' ∧ o = .ret (.bool (decide (l.length + weight l ≤ 3000)))) := by
  obtain ⟨va, vc, hv⟩ := hn.len
  refine Wk_fn hT (by simp [C10]) ?_
  simp only [C10]
  refine Wc_seq (Wc_ops (Wo_run (fun call => by simp only [iops_nil, iops_op, iops_grd, iK_some, iG_true, iG_false, gval_bool, beq_true, beq_false, Bool.not_true, Bool.not_false, iop, ev, upd, dstUpd, reduceIte]; rfl) ?_))
  show Wc T _ _ _
  refine Wc_seq (Wc_ops (Wo_run (fun call => by simp only [iops_nil, iops_op, iops_grd, iK_some, iG_true, iG_false, gval_bool, beq_true, beq_false, Bool.not_true, Bool.not_false, iop, ev, upd, dstUpd, args0, hv, reduceIte, Nat.reduceEqDiff, List.getD_cons_zero]; rfl) ?_))
  show Wc T _ _ _
  refine Wc_seq (Wc_seq (Wc_ops (Wo_run (fun call => by simp only [iops_nil, iops_op, iops_grd, iK_some, iG_true, iG_false, gval_bool, beq_true, beq_false, Bool.not_true, Bool.not_false, iop, ev, upd, dstUpd, args0, hv, reduceIte, Nat.reduceEqDiff, List.getD_cons_zero]; rfl) ?_)))
  show Wc T _ _ _
  refine Wc_block (Wc_loop (fun s => s.d = some [] ∧ Kept h s.h ∧ s.e 8 = v ∧ s.e 9 = .int .i64 l.length ∧ ∃ i : Nat, i ≤ l.length ∧ s.e 10 = .int .i64 i ∧ s.e 3 = .int .i64 ((l.length + weight (l.take i) : Nat) : Int))
    (fun s => match s.e 10 with | .int _ i => (l.length - i).toNat | _ => 0) ?_ ?_)
  · refine ⟨rfl, .refl h, by simp [upd, dstUpd, hv], by simp [upd, dstUpd], 0, Nat.zero_le _, by simp [upd, dstUpd], by simp [upd, dstUpd, weight]⟩
  · rintro ⟨e, hp, d⟩ ⟨hd, hk, h8, h9, i, hi, h10, h3⟩
    simp only at hd hk h8 h9 h10 h3
    subst hd
    rw [C10L0]
    refine Wc_seq (Wc_ops (Wo_run (fun call => by simp only [iops_nil, iops_op, iops_grd, iK_some, iG_true, iG_false, gval_bool, beq_true, beq_false, Bool.not_true, Bool.not_false, iop, ev, upd, dstUpd, h9, h10, binV, binI, reduceIte, Option.map_some]; rfl) ?_))
    show Wc T _ _ _
    refine Wc_seq (Wc_cond (decide ((i : Int) < l.length)) (by simp [ev, upd]) (fun hlt => Wc_skip ?_) (fun hge => Wc_exit ?_))
    · show Wc T _ _ _
      have hil : i < l.length := by simpa using hlt
      obtain ⟨x, hx⟩ : ∃ x, l[i]? = some x := ⟨_, List.getElem?_eq_getElem hil⟩
      obtain ⟨b, c, hv', hb, ⟨o, z, hg⟩, hcells⟩ := (hn.keep hk).load hx
      obtain ⟨ka, kc, hkv⟩ := ((hn.2 x (List.mem_of_getElem? hx))).len
      have hidx : idxV l.length (.int .i64 i) = some i := by simp [idxV, hil]
      have hwt := weight_take hx
      have hwl := weight_le l (i + 1)
      refine Wc_seq (Wc_block (Wc_seq (Wc_ops (Wo_run (fun call => by
        simp only [iops_nil, iops_op, iops_grd, iK_some, iG_true, iG_false, gval_bool, beq_true, beq_false, Bool.not_true, Bool.not_false, iop, ev, upd, dstUpd, h8, h10, hv', hidx, ptr, hcells, Option.map_some, cellsOf, Heap.write, Heap.new, Heap.set, put, List.length_cons, List.length_nil, reduceIte, Nat.reduceEqDiff, Nat.reduceAdd, Nat.reduceLeDiff, List.set_cons_zero, List.set_cons_succ]
        rfl) ?_))))
      show Wc T _ _ _
      refine Wc_ops (Wo_run (fun call => by
        simp only [iops_nil, iops_op, iops_grd, iK_some, iG_true, iG_false, gval_bool, beq_true, beq_false, Bool.not_true, Bool.not_false, iop, ev, upd, dstUpd, h3, ptr, hkv, Option.map_some, Heap.cell, binV, binI, List.length_cons, List.length_nil, reduceIte, Nat.reduceEqDiff, Nat.reduceAdd, Nat.zero_add, List.getElem?_cons_zero, List.getElem?_cons_succ, Int.reduceEq]
        rfl) ?_)
      show Wc T _ _ _
      have e1 : IntKind.i64.wrap ((i : Int) + 1) = ((i + 1 : Nat) : Int) := by rw [wrap64] <;> omega
      have e2 : IntKind.i64.wrap ((x.text.size : Int).tdiv 20) = ((x.text.size / 20 : Nat) : Int) := by
        have : (x.text.size : Int).tdiv 20 = ((x.text.size / 20 : Nat) : Int) := by rw [Int.tdiv_eq_ediv_of_nonneg (by omega)]; rfl
        rw [this, wrap64] <;> omega
      have e3 : IntKind.i64.wrap ((x.kids.length : Int) + ((x.text.size / 20 : Nat) : Int)) = ((x.kids.length + x.text.size / 20 : Nat) : Int) := by rw [wrap64] <;> omega
      have e4 : IntKind.i64.wrap (((l.length + weight (l.take i) : Nat) : Int) + ((x.kids.length + x.text.size / 20 : Nat) : Int)) = ((l.length + weight (l.take (i + 1)) : Nat) : Int) := by rw [wrap64] <;> omega
      refine Wc_ops (Wo_run (fun call => by
        simp only [iops_nil, iops_op, iops_grd, iK_some, iG_true, iG_false, gval_bool, beq_true, beq_false, Bool.not_true, Bool.not_false, iop, ev, upd, dstUpd, h10, e1, binV, binI, reduceIte, Nat.reduceEqDiff, Option.map_some]
        rfl) ?_)
      refine ⟨⟨rfl, ((hk.new _).set (by exact hk.next) _), by simp only [upd, Nat.reduceEqDiff, reduceIte]; exact h8, by simp only [upd, Nat.reduceEqDiff, reduceIte]; exact h9, i + 1, by omega, by simp only [upd, Nat.reduceEqDiff, reduceIte],
        by simp only [upd, Nat.reduceEqDiff, reduceIte]; rw [e2, e3, e4]⟩, ?_⟩
      simp only [upd, Nat.reduceEqDiff, reduceIte, h10]
      omega
    · show Wc T _ _ _
      have hil : i = l.length := by simp at hge; omega
      subst hil
      rw [List.take_length] at h3
      refine Wc_seq (Wc_ops (Wo_run (fun call => by
        simp only [iops_nil, iops_op, iops_grd, iK_some, iG_true, iG_false, gval_bool, beq_true, beq_false, Bool.not_true, Bool.not_false, iop, ev, upd, dstUpd, h3, binV, binI, reduceIte, Nat.reduceEqDiff, Option.map_some]
        rfl) ?_))
      show Wc T _ _ _
      refine Wc_ret ⟨.inr rfl, rfl, [.bool (decide (l.length + weight l ≤ 3000))], ?_, hk, rfl⟩
      simp only [C10, resAll, resV, upd, Nat.reduceEqDiff, reduceIte]
      have : decide (((l.length + weight l : Nat) : Int) ≤ 3000) = decide (l.length + weight l ≤ 3000) := by rw [decide_eq_decide]; omega
      rw [this]
end Go.Idl
