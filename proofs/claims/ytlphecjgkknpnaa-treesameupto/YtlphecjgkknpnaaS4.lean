/- The reference's Twin. -/
import Derived.Test.YtlphecjgkknpnaaS2
namespace Go.Idl
set_option linter.unusedVariables false
set_option linter.unusedSimpArgs false

theorem flatN_set2 : ∀ (l : List Nd) (i : Nat) (x : Nd) (v : Value), l[i]? = some x → (flatN l).set (i * 4 + 2) v = flatN (l.set i { x with kv := v })
  | [], i, x, v, h => by simp at h
  | y :: l, 0, x, v, h => by simp at h; subst h; simp [flatN]
  | y :: l, i + 1, x, v, h => by
    have := flatN_set2 l i x v (by simpa using h)
    rw [show (i + 1) * 4 + 2 = (i * 4 + 2) + 4 by omega]
    simpa [flatN] using this
theorem flatN_set3 : ∀ (l : List Nd) (i : Nat) (x : Nd) (p : Int), l[i]? = some x → (flatN l).set (i * 4 + 3) (.int .i64 p) = flatN (l.set i { x with pos := p })
  | [], i, x, v, h => by simp at h
  | y :: l, 0, x, v, h => by simp at h; subst h; simp [flatN]
  | y :: l, i + 1, x, v, h => by
    have := flatN_set3 l i x v (by simpa using h)
    rw [show (i + 1) * 4 + 3 = (i * 4 + 3) + 4 by omega]
    simpa [flatN] using this
theorem flatN_get2 : ∀ (l : List Nd) (i : Nat) (x : Nd), l[i]? = some x → (flatN l)[i * 4 + 2]? = some x.kv
  | [], i, x, h => by simp at h
  | y :: l, 0, x, h => by simp at h; subst h; simp [flatN]
  | y :: l, i + 1, x, h => by
    have := flatN_get2 l i x (by simpa using h)
    rw [show (i + 1) * 4 + 2 = (i * 4 + 2) + 4 by omega]
    simpa [flatN] using this

theorem sig_set {l : List Nd} {i : Nat} {x y : Nd} (h : l[i]? = some x) (hs : y.sig = x.sig) : (l.set i y).map Nd.sig = l.map Nd.sig := by
  apply List.ext_getElem?
  intro j
  rw [List.getElem?_map, List.getElem?_map, List.getElem?_set]
  split
  · rename_i hij
    subst hij
    split
    · simp [h, hs]
    · rename_i hlt
      have : i < l.length := (List.getElem?_eq_some_iff.1 h).1
      exact (hlt this).elim
  · rfl

theorem ints_append {h : Heap} {v : Value} {l : List Int} (hh : intsAt h v l) (hl : l.length ≤ 1000000) : ∃ v' h', appendV 1 8 (.slice none 0 0) v h = some (v', h') ∧ Kept h h' ∧ intsAt h' v' l ∧ ∀ p n c, v' = .slice (some p) n c → h.next ≤ p.block := by
  rcases hh with ⟨rfl, rfl⟩ | ⟨b, c, rfl, hb, hg⟩
  · exact ⟨.slice none 0 0, h, by simp [appendV, elemsOf], .refl h, .inl ⟨rfl, rfl⟩, fun p n c hv => (by cases hv)⟩
  · by_cases h0 : l.length = 0
    · have : l = [] := List.length_eq_zero_iff.1 h0
      subst this
      exact ⟨.slice none 0 0, h, by simp [appendV, elemsOf], .refl h, .inl ⟨rfl, rfl⟩, fun p n c hv => (by cases hv)⟩
    · obtain ⟨o, z, hg⟩ := hg.resolve_left (fun e => h0 (by rw [e]; rfl))
      have hc : h.cells b 0 (l.length * 1) = some (ints64 l) := by
        simp only [Heap.cells, hg]
        rw [if_pos (by simp [ints64])]
        rw [List.drop_zero, List.take_of_length_le (by simp [ints64])]
      refine ⟨_, _, by simp only [appendV, elemsOf, h0, hc, if_false, Option.map_some]; rw [if_pos (by omega)], (Kept.refl h).new _, .inr ⟨h.next, l.length + 1, rfl, Nat.lt_succ_self _, .inr ⟨true, 1, new_get' _ _⟩⟩, fun p n c hv => ?_⟩
      simp only [Value.slice.injEq, Option.some.injEq] at hv
      rw [← hv.1]; exact Nat.le_refl _

theorem nodes_append {h : Heap} {v : Value} {l : List Nd} (hh : nodesAt h v l) (hl : l.length ≤ 1000000) : ∃ v' h', appendV 4 56 (.slice none 0 0) v h = some (v', h') ∧ Kept h h' ∧ h'.next ≤ h.next + 1 ∧
    ((l = [] ∧ v' = .slice none 0 0) ∨ (v' = .slice (some ⟨h.next, 0, none⟩) l.length (l.length + 1) ∧ h'.get h.next = some (.cells (flatN l) true 4) ∧ h.next < h'.next)) := by
  rcases hh.1 with ⟨rfl, rfl⟩ | ⟨b, c, rfl, hb, hg⟩
  · exact ⟨.slice none 0 0, h, by simp [appendV, elemsOf], .refl h, by omega, .inl ⟨rfl, rfl⟩⟩
  · by_cases h0 : l.length = 0
    · have : l = [] := List.length_eq_zero_iff.1 h0
      subst this
      exact ⟨.slice none 0 0, h, by simp [appendV, elemsOf], .refl h, by omega, .inl ⟨rfl, rfl⟩⟩
    · obtain ⟨o, z, hg⟩ := hg.resolve_left (fun e => h0 (by rw [e]; rfl))
      have hc : h.cells b 0 (l.length * 4) = some (flatN l) := by
        simp only [Heap.cells, hg]
        rw [if_pos (by rw [flatN_length]; omega)]
        rw [List.drop_zero, List.take_of_length_le (by rw [flatN_length]; omega)]
      refine ⟨_, _, by simp only [appendV, elemsOf, h0, hc, if_false, Option.map_some]; rw [if_pos (by omega)], (Kept.refl h).new _, Nat.le_refl _, .inr ⟨rfl, new_get' _ _, Nat.lt_succ_self _⟩⟩

/-- A list of nodes that is the call's own. -/
def ownN (h0 h : Heap) (v : Value) (l : List Nd) : Prop :=
  ((l = [] ∧ v = .slice none 0 0) ∨ ∃ b, h0.next ≤ b ∧ b < h.next ∧ v = .slice (some ⟨b, 0, none⟩) l.length (l.length + 1) ∧ h.get b = some (.cells (flatN l) true 4) ∧ ∀ x ∈ l, ∀ p n c, x.kv = .slice (some p) n c → p.block ≠ b) ∧ ∀ x ∈ l, intsAt h x.kv x.kids

theorem ownN.nodes {h0 h : Heap} {v : Value} {l : List Nd} (hh : ownN h0 h v l) : nodesAt h v l := by
  refine ⟨?_, hh.2⟩
  rcases hh.1 with ⟨rfl, rfl⟩ | ⟨b, h1, h2, h3, h4, _⟩
  · exact .inl ⟨rfl, rfl⟩
  · exact .inr ⟨b, _, h3, h2, .inr ⟨_, _, h4⟩⟩

theorem intsAt.setOther {h : Heap} {v : Value} {l : List Int} (hh : intsAt h v l) {b : Nat} {o : Blk} (hb : ∀ p n c, v = .slice (some p) n c → p.block ≠ b) : intsAt (h.set b o) v l := by
  rcases hh with hh | ⟨k, c, h1, h2, h3⟩
  · exact .inl hh
  · refine .inr ⟨k, c, h1, h2, h3.imp id fun ⟨o', z, h⟩ => ⟨o', z, ?_⟩⟩
    rw [set_get_ne' _ _ (hb _ _ _ h1)]; exact h

theorem intsAt.block_lt {h : Heap} {v : Value} {l : List Int} (hh : intsAt h v l) : ∀ p n c, v = .slice (some p) n c → p.block < h.next := by
  intro p n c hv
  rcases hh with ⟨rfl, _⟩ | ⟨k, c', h1, h2, h3⟩
  · cases hv
  · rw [h1] at hv; cases hv; exact h2

theorem twin15 {T : Tbl} (hT : T.fn 15 = some C15) {h : Heap} {v : Value} {l : List Nd} (hn : nodesAt h v l) (hN : l.length ≤ 1000000) (hK : ∀ x ∈ l, x.kids.length ≤ 1000000) :
    Wk T (.fn 15) [v] h (fun o h' => Kept h h' ∧ ∃ v' l', o = .ret v' ∧ ownN h h' v' l' ∧ l'.map Nd.sig = l.map Nd.sig) := by
  obtain ⟨p1, c1, h1⟩ := hn.len
  obtain ⟨v1, hp1, ha1, hk1, hn1, hv1⟩ := nodes_append hn hN
  refine Wk_fn hT (by simp [C15]) ?_
  simp only [C15]
  refine Wc_seq (Wc_ops (Wo_run (fun call => by simp only [List.drop_succ_cons, List.drop_zero, iops_nil, iops_op, iops_grd, iK_some, iG_true, iG_false, gval_bool, beq_true, beq_false, Bool.not_true, Bool.not_false, iop, ev, upd, dstUpd, binV, binI, unV, ptr, Heap.cell, Heap.write, cellsOf, put, args0, partL, List.getD_cons_zero, List.getD_cons_succ, List.length_cons, List.length_nil, List.set_cons_zero, List.set_cons_succ, List.getElem?_cons_zero, List.getElem?_cons_succ, reduceIte, Nat.reduceEqDiff, Nat.reduceAdd, Nat.reduceMul, Nat.reduceLeDiff, Nat.zero_add, Nat.add_zero, Option.map_some, Int.reduceEq, Int.reduceLT, Int.reduceLE, Bool.false_eq_true, decide_true, decide_false, ge_iff_le, gt_iff_lt, set_get']; rfl) ?_))
  show Wc T _ _ _
  refine Wc_seq (Wc_ops (Wo_run (fun call => by simp only [List.drop_succ_cons, List.drop_zero, iops_nil, iops_op, iops_grd, iK_some, iG_true, iG_false, gval_bool, beq_true, beq_false, Bool.not_true, Bool.not_false, iop, ev, upd, dstUpd, binV, binI, unV, ptr, Heap.cell, Heap.write, cellsOf, put, args0, partL, List.getD_cons_zero, List.getD_cons_succ, List.length_cons, List.length_nil, List.set_cons_zero, List.set_cons_succ, List.getElem?_cons_zero, List.getElem?_cons_succ, reduceIte, Nat.reduceEqDiff, Nat.reduceAdd, Nat.reduceMul, Nat.reduceLeDiff, Nat.zero_add, Nat.add_zero, Option.map_some, Int.reduceEq, Int.reduceLT, Int.reduceLE, Bool.false_eq_true, decide_true, decide_false, ge_iff_le, gt_iff_lt, set_get', ha1]; rfl) ?_))
  show Wc T _ _ _
  have hv1s : ∃ a c, v1 = .slice a l.length c := by
    rcases hv1 with ⟨rfl, rfl⟩ | ⟨rfl, _⟩
    · exact ⟨none, 0, rfl⟩
    · exact ⟨_, _, rfl⟩
  obtain ⟨p2, c2, h2⟩ := hv1s
  refine Wc_seq (Wc_seq (Wc_ops (Wo_run (fun call => by simp only [List.drop_succ_cons, List.drop_zero, iops_nil, iops_op, iops_grd, iK_some, iG_true, iG_false, gval_bool, beq_true, beq_false, Bool.not_true, Bool.not_false, iop, ev, upd, dstUpd, binV, binI, unV, ptr, Heap.cell, Heap.write, cellsOf, put, args0, partL, List.getD_cons_zero, List.getD_cons_succ, List.length_cons, List.length_nil, List.set_cons_zero, List.set_cons_succ, List.getElem?_cons_zero, List.getElem?_cons_succ, reduceIte, Nat.reduceEqDiff, Nat.reduceAdd, Nat.reduceMul, Nat.reduceLeDiff, Nat.zero_add, Nat.add_zero, Option.map_some, Int.reduceEq, Int.reduceLT, Int.reduceLE, Bool.false_eq_true, decide_true, decide_false, ge_iff_le, gt_iff_lt, set_get', h2]; rfl) ?_)))
  show Wc T _ _ _
  refine Wc_block (Wc_loop (fun s => s.d = some [] ∧ Kept h s.h ∧ s.e 3 = v1 ∧ s.e 8 = .int .i64 l.length ∧ ∃ (i : Nat) (l' : List Nd), i ≤ l.length ∧ s.e 9 = .int .i64 i ∧ ownN h s.h v1 l' ∧ l'.map Nd.sig = l.map Nd.sig)
    (fun s => match s.e 9 with | .int _ i => (l.length - i).toNat | _ => 0) ?_ ?_)
  · refine ⟨rfl, hk1, by simp [upd, dstUpd, h2], by simp [upd, dstUpd], 0, l, Nat.zero_le _, by simp [upd, dstUpd], ⟨?_, fun x hx => (hn.2 x hx).keep hk1⟩, rfl⟩
    rcases hv1 with hv | ⟨e1, e2, e3⟩
    · exact .inl hv
    · exact .inr ⟨h.next, Nat.le_refl _, e3, e1, e2, fun x hx p n c hv => Nat.ne_of_lt ((hn.2 x hx).block_lt p n c hv)⟩
  rintro ⟨e, hp, d⟩ ⟨hd, hk, g3, g8, i, l', hi, g9, ho, hs⟩
  simp only at hd hk g3 g8 g9 ho
  subst hd
  rw [C15L0]
  refine Wc_seq (Wc_ops (Wo_run (fun call => by simp only [List.drop_succ_cons, List.drop_zero, iops_nil, iops_op, iops_grd, iK_some, iG_true, iG_false, gval_bool, beq_true, beq_false, Bool.not_true, Bool.not_false, iop, ev, upd, dstUpd, binV, binI, unV, ptr, Heap.cell, Heap.write, cellsOf, put, args0, partL, List.getD_cons_zero, List.getD_cons_succ, List.length_cons, List.length_nil, List.set_cons_zero, List.set_cons_succ, List.getElem?_cons_zero, List.getElem?_cons_succ, reduceIte, Nat.reduceEqDiff, Nat.reduceAdd, Nat.reduceMul, Nat.reduceLeDiff, Nat.zero_add, Nat.add_zero, Option.map_some, Int.reduceEq, Int.reduceLT, Int.reduceLE, Bool.false_eq_true, decide_true, decide_false, ge_iff_le, gt_iff_lt, set_get', g8, g9]; rfl) ?_))
  show Wc T _ _ _
  refine Wc_seq (Wc_cond (decide ((i : Int) < l.length)) (by simp [ev, upd]) (fun hlt => Wc_skip ?_) (fun hge => Wc_exit ?_))
  case refine_2 =>
    show Wc T _ _ _
    refine Wc_seq (Wc_ops (Wo_run (fun call => by simp only [List.drop_succ_cons, List.drop_zero, iops_nil, iops_op, iops_grd, iK_some, iG_true, iG_false, gval_bool, beq_true, beq_false, Bool.not_true, Bool.not_false, iop, ev, upd, dstUpd, binV, binI, unV, ptr, Heap.cell, Heap.write, cellsOf, put, args0, partL, List.getD_cons_zero, List.getD_cons_succ, List.length_cons, List.length_nil, List.set_cons_zero, List.set_cons_succ, List.getElem?_cons_zero, List.getElem?_cons_succ, reduceIte, Nat.reduceEqDiff, Nat.reduceAdd, Nat.reduceMul, Nat.reduceLeDiff, Nat.zero_add, Nat.add_zero, Option.map_some, Int.reduceEq, Int.reduceLT, Int.reduceLE, Bool.false_eq_true, decide_true, decide_false, ge_iff_le, gt_iff_lt, set_get', g3]; rfl) ?_))
    refine Wc_ret ⟨.inr rfl, rfl, [v1], by simp only [C15, resAll, resV, upd, dstUpd, Nat.reduceEqDiff, reduceIte], hk, v1, l', rfl, ho, hs⟩
  show Wc T _ _ _
  have hil : i < l.length := by simpa using hlt
  have hll : l'.length = l.length := by have := congrArg List.length hs; simpa using this
  have hil' : i < l'.length := by omega
  obtain ⟨x, hxi⟩ : ∃ x, l'[i]? = some x := ⟨_, List.getElem?_eq_getElem hil'⟩
  have hxm := List.mem_of_getElem? hxi
  have hxk : x.kids.length ≤ 1000000 := by
    have e1 : (l'.map Nd.sig)[i]? = some x.sig := by simp [hxi]
    rw [hs] at e1
    simp only [List.getElem?_map, Option.map_eq_some_iff] at e1
    obtain ⟨y, hy, hyx⟩ := e1
    have := hK y (List.mem_of_getElem? hy)
    have e2 : y.kids = x.kids := congrArg (·.2.2) hyx
    rw [← e2]; exact this
  obtain ⟨ho1, ho2⟩ := ho
  rcases ho1 with ⟨rfl, _⟩ | ⟨b, hb1, hb2, hb3, hb4, hb5⟩
  · simp at hil'
  obtain ⟨v', hp', ha, hkp, hv', hn'⟩ := ints_append (ho2 x hxm) hxk
  obtain ⟨va', vc', hvs⟩ := hv'.len
  subst hvs
  have hg2 : (flatN l')[i * 4 + 2]? = some x.kv := flatN_get2 l' i x hxi
  have hgb' : hp'.get b = some (.cells (flatN l') true 4) := by rw [hkp.get b hb2]; exact hb4
  have hlen : i * 4 + 2 + 1 ≤ (flatN l').length := by rw [flatN_length]; omega
  have hset := flatN_set2 l' i x (.slice va' x.kids.length vc') hxi
  have e1 : IntKind.i64.wrap ((i : Int) + 1) = ((i + 1 : Nat) : Int) := by rw [wrap64] <;> omega
  refine Wc_seq (Wc_block (Wc_seq (Wc_ops (Wo_run (fun call => by simp only [List.drop_succ_cons, List.drop_zero, iops_nil, iops_op, iops_grd, iK_some, iG_true, iG_false, gval_bool, beq_true, beq_false, Bool.not_true, Bool.not_false, iop, ev, upd, dstUpd, binV, binI, unV, ptr, Heap.cell, Heap.write, cellsOf, put, args0, partL, List.getD_cons_zero, List.getD_cons_succ, List.length_cons, List.length_nil, List.set_cons_zero, List.set_cons_succ, List.getElem?_cons_zero, List.getElem?_cons_succ, reduceIte, Nat.reduceEqDiff, Nat.reduceAdd, Nat.reduceMul, Nat.reduceLeDiff, Nat.zero_add, Nat.add_zero, Option.map_some, Int.reduceEq, Int.reduceLT, Int.reduceLE, Bool.false_eq_true, decide_true, decide_false, ge_iff_le, gt_iff_lt, set_get', g9]; rfl) ?_))))
  show Wc T _ _ _
  refine Wc_ops (Wo_pre 8 (fun call => by simp only [List.take_succ_cons, List.take_zero, iops_nil, iops_op, iK_some, iop, ev, upd, dstUpd, ptr, Heap.cell, Nat.reduceEqDiff, reduceIte, Option.map_some, g3, g9, hb3, hb4, idx_ok hil', Nat.zero_add, hg2, ha]; rfl) ?_)
  refine (Wo_run (fun call => by simp only [List.drop_succ_cons, List.drop_zero, iops_nil, iops_op, iops_grd, iK_some, iG_true, iG_false, gval_bool, beq_true, beq_false, Bool.not_true, Bool.not_false, iop, ev, upd, dstUpd, binV, binI, unV, ptr, Heap.cell, Heap.write, cellsOf, put, args0, partL, List.getD_cons_zero, List.getD_cons_succ, List.length_cons, List.length_nil, List.set_cons_zero, List.set_cons_succ, List.getElem?_cons_zero, List.getElem?_cons_succ, reduceIte, Nat.reduceEqDiff, Nat.reduceAdd, Nat.reduceMul, Nat.reduceLeDiff, Nat.zero_add, Nat.add_zero, Option.map_some, Int.reduceEq, Int.reduceLT, Int.reduceLE, Bool.false_eq_true, decide_true, decide_false, ge_iff_le, gt_iff_lt, set_get', g3, g9, hb3, hgb', idx_ok hil', hlen, hset]; rfl) ?_)
  show Wc T _ _ _
  refine Wc_ops (Wo_run (fun call => by simp only [List.drop_succ_cons, List.drop_zero, iops_nil, iops_op, iops_grd, iK_some, iG_true, iG_false, gval_bool, beq_true, beq_false, Bool.not_true, Bool.not_false, iop, ev, upd, dstUpd, binV, binI, unV, ptr, Heap.cell, Heap.write, cellsOf, put, args0, partL, List.getD_cons_zero, List.getD_cons_succ, List.length_cons, List.length_nil, List.set_cons_zero, List.set_cons_succ, List.getElem?_cons_zero, List.getElem?_cons_succ, reduceIte, Nat.reduceEqDiff, Nat.reduceAdd, Nat.reduceMul, Nat.reduceLeDiff, Nat.zero_add, Nat.add_zero, Option.map_some, Int.reduceEq, Int.reduceLT, Int.reduceLE, Bool.false_eq_true, decide_true, decide_false, ge_iff_le, gt_iff_lt, set_get', g9, e1]; rfl) ?_)
  have hbne : ∀ p n c, Value.slice va' x.kids.length vc' = .slice (some p) n c → p.block ≠ b := fun p n c hv => Nat.ne_of_gt (Nat.lt_of_lt_of_le hb2 (hn' p n c hv))
  refine ⟨⟨rfl, (hk.trans hkp).set hb1 _, ?_, ?_, i + 1, l'.set i { x with kv := .slice va' x.kids.length vc' }, by omega, ?_, ⟨.inr ⟨b, hb1, Nat.lt_of_lt_of_le hb2 hkp.next, ?_, set_get' _ _ _, ?_⟩, ?_⟩, ?_⟩, ?_⟩
  · simp only [upd, Nat.reduceEqDiff, reduceIte]; exact g3
  · simp only [upd, Nat.reduceEqDiff, reduceIte]; exact g8
  · simp only [upd, Nat.reduceEqDiff, reduceIte]
  · rw [List.length_set]; exact hb3
  · intro y hy
    rcases List.mem_or_eq_of_mem_set hy with hy | rfl
    · exact hb5 y hy
    · exact hbne
  · intro y hy
    rcases List.mem_or_eq_of_mem_set hy with hy | rfl
    · exact ((ho2 y hy).keep hkp).setOther (hb5 y hy)
    · exact hv'.setOther hbne
  · exact (sig_set hxi (y := { x with kv := .slice va' x.kids.length vc' }) rfl).trans hs
  · simp only [upd, Nat.reduceEqDiff, reduceIte, g9]; omega

end Go.Idl
