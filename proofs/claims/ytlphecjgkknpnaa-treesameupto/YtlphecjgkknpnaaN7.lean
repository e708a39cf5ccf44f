/- The reference's Deep: whole. -/
import Derived.Test.YtlphecjgkknpnaaN6
namespace Go.Idl
set_option linter.unusedVariables false
set_option linter.unusedSimpArgs false

theorem Arr2.done {l : List Nd} {n : Nat} (hn : n < l.length) {A : List Nat} (ha : Arr2 l n A) (hat : A[n]? = some (dep (depsN l n) (kidsOf l n))) : Arr2 l (n + 1) A := by
  have hD := depsN_length l n
  refine ⟨ha.len, fun k hk => ?_⟩
  simp only [depsN]
  by_cases e : k = n
  · subst e
    rw [hat, List.getElem?_append_right (by omega), hD, Nat.sub_self]; rfl
  · rw [List.getElem?_append_left (by omega)]
    exact ha.low k (by omega)

theorem deep14_node {T : Tbl} {l : List Nd} (hN : l.length ≤ 3000) (hK : ∀ x ∈ l, x.kids.length ≤ 3000) {h0 : Heap} {bl : Nat} {v : Value} (hbl : h0.next ≤ bl) (hn : nodesAt h0 v l)
    {e : Env} {hp : Heap} {n : Nat} (hnl : n ≤ l.length) (h3 : e 3 = slN bl l.length) (h11 : e 11 = v) (h12 : e 12 = .int .i64 l.length) (h13 : e 13 = .int .i64 n) (h0' : e 0 = v)
    (hk : Kept h0 hp) (hbn : bl < hp.next) {A : List Nat} (hA : hp.get bl = some (.cells (natC A) true 1)) (ha : Arr2 l n A) {Q : Ex → St → Prop}
    (hgo : n < l.length → ∀ (e' : Env) (hp' : Heap) (A' : List Nat), e' 3 = e 3 → e' 11 = v → e' 12 = e 12 → e' 13 = .int .i64 ((n + 1 : Nat) : Int) → e' 0 = v → Kept h0 hp' → bl < hp'.next → hp'.get bl = some (.cells (natC A') true 1) → Arr2 l (n + 1) A' → Q .normal ⟨e', hp', some []⟩)
    (hend : n = l.length → ∀ e' : Env, e' 3 = e 3 → e' 0 = v → Q (.brk 0) ⟨e', hp, some []⟩) : Wc T C14L1 ⟨e, hp, some []⟩ Q := by
  rw [C14L1]
  refine Wc_seq (Wc_ops (Wo_run (fun call => by simp only [iops_nil, iops_op, iK_some, iop, ev, upd, dstUpd, h12, h13, binV, binI, reduceIte, Option.map_some]; rfl) ?_))
  show Wc T _ _ _
  refine Wc_seq (Wc_cond (decide ((n : Int) < l.length)) (by simp [ev, upd]) (fun hlt => Wc_skip ?_) (fun hge => Wc_exit ?_))
  case refine_2 => exact hend (by simp at hge; omega) _ (by simp [upd]) (by simp only [upd, Nat.reduceEqDiff, reduceIte]; exact h0')
  show Wc T _ _ _
  have hil : n < l.length := by simpa using hlt
  obtain ⟨x, hx⟩ : ∃ x, l[n]? = some x := ⟨_, List.getElem?_eq_getElem hil⟩
  have hxm := List.mem_of_getElem? hx
  obtain ⟨b, c, rfl, hb, ⟨o, z, hg⟩, hcells⟩ := (hn.keep hk).load hx
  obtain ⟨ka, kc, hkv⟩ := (hn.2 x hxm).len
  have hki := hn.2 x hxm
  have hkl := hK x hxm
  have e1 : IntKind.i64.wrap ((n : Int) + 1) = ((n + 1 : Nat) : Int) := by rw [wrap64] <;> omega
  have hkids : kidsOf l n = x.kids := by simp [kidsOf, hx]
  have hbb : bl ≠ hp.next := by omega
  refine Wc_seq (Wc_block (Wc_seq (Wc_ops (Wo_run (fun call => by
    simp only [iops_nil, iops_op, iK_some, iop, ev, upd, dstUpd, h11, h13, idx_ok hil, ptr, hcells, Option.map_some, cellsOf, Heap.write, Heap.new, Heap.set, put, List.length_cons, List.length_nil, reduceIte, Nat.reduceEqDiff, Nat.reduceAdd, Nat.reduceLeDiff, List.set_cons_zero, List.set_cons_succ]
    rfl) ?_))))
  show Wc T _ _ _
  have hset : (natC A).set (0 + n * 1) (.int .i64 1) = natC (A.set n 1) := by rw [Nat.zero_add, Nat.mul_one]; exact natC_set A n 1
  have hlen : 0 + n * 1 + 1 ≤ (natC A).length := by rw [natC_length, ha.len]; omega
  refine Wc_seq (Wc_ops (Wo_run (fun call => by
    simp only [iops_nil, iops_op, iK_some, iop, ev, upd, dstUpd, h3, slN, idx_ok hil, ptr, hA, hbb, hset, hlen, Option.map_some, cellsOf, Heap.write, Heap.set, put, List.length_cons, List.length_nil, reduceIte, Nat.reduceEqDiff, Nat.reduceAdd]
    rfl) ?_))
  show Wc T _ _ _
  have hbb' : hp.next ≠ bl := Ne.symm hbb
  refine Wc_seq (Wc_ops (Wo_run (fun call => by
    simp only [iops_nil, iops_op, iK_some, iop, ev, upd, dstUpd, ptr, hkv, hbb', Option.map_some, Heap.cell, reduceIte, Nat.reduceEqDiff, Nat.reduceAdd, Nat.zero_add, List.getElem?_cons_zero, List.getElem?_cons_succ]
    rfl) ?_))
  show Wc T _ _ _
  have hkk := ((hk.new (.cells [Value.int .i64 0, .string ⟨#[]⟩, .slice none 0 0, .int .i64 0] true 0)).set hk.next (.cells [Value.int .i64 x.kind, .string x.text, .slice ka x.kids.length kc, .int .i64 x.pos] true 0)).set hbl (.cells (natC (A.set n 1)) true 1)
  refine Wc_block (Wc_loop (fun s => s.d = some [] ∧ Kept h0 s.h ∧ bl < s.h.next ∧ s.e 0 = .slice (some ⟨b, 0, none⟩) l.length c ∧ s.e 3 = e 3 ∧ s.e 4 = .int .i64 n ∧ s.e 11 = .slice (some ⟨b, 0, none⟩) l.length c ∧ s.e 12 = e 12 ∧ s.e 13 = .int .i64 n ∧ s.e 22 = x.kv ∧ s.e 23 = .int .i64 x.kids.length ∧
      ∃ j : Nat, j ≤ x.kids.length ∧ s.e 24 = .int .i64 j ∧ ∃ A, s.h.get bl = some (.cells (natC A) true 1) ∧ Arr2 l n A ∧ A[n]? = some ((x.kids.take j).foldl (inner (depsN l n)) 1))
    (fun s => match s.e 24 with | .int _ i => (x.kids.length - i).toNat | _ => 0) ?_ ?_)
  · refine ⟨rfl, hkk, by simp only; omega, by simp only [upd, Nat.reduceEqDiff, reduceIte]; exact h0', by simp only [upd, Nat.reduceEqDiff, reduceIte], by simp only [upd, Nat.reduceEqDiff, reduceIte],
      by simp only [upd, Nat.reduceEqDiff, reduceIte]; exact h11, by simp only [upd, Nat.reduceEqDiff, reduceIte], by simp only [upd, Nat.reduceEqDiff, reduceIte]; exact h13, by simp only [upd, Nat.reduceEqDiff, reduceIte, hkv], by simp only [upd, Nat.reduceEqDiff, reduceIte],
      0, Nat.zero_le _, by simp only [upd, Nat.reduceEqDiff, reduceIte]; rfl, A.set n 1, by simp only [reduceIte], ⟨by simp [ha.len], fun k hk => ?_⟩, ?_⟩
    · rw [List.getElem?_set_ne (by omega)]; exact ha.low k hk
    · rw [List.getElem?_set_self (by rw [ha.len]; omega)]; rfl
  · rintro ⟨e2, hp2, d2⟩ ⟨hd, gk, gbn, g0, g3, g4, g11, g12, g13, g22, g23, j, hj, g24, A2, gA, ga, gat⟩
    simp only at hd gk gbn g0 g3 g4 g11 g12 g13 g22 g23 g24 gA
    subst hd
    refine deep14_kid hil hN hbl hki (g3.trans h3) g4 g22 g23 hj g24 (by omega) gk gbn gA ga gat ?_ ?_
    · intro e' hp' A' f1 f2 f3 f4 f5 f6 f7 f8 f9
      refine ⟨⟨rfl, f5, by rw [← f6]; exact gbn, (f1 0 (by omega)).trans g0, (f1 3 (by omega)).trans g3, (f1 4 (by omega)).trans g4, (f2 11 (by omega) (by omega)).trans g11, (f2 12 (by omega) (by omega)).trans g12,
        (f2 13 (by omega) (by omega)).trans g13, (f2 22 (by omega) (by omega)).trans g22, (f2 23 (by omega) (by omega)).trans g23, j + 1, f4, f3, A', f7, f8, f9⟩, ?_⟩
      simp only [f3, g24]
      omega
    · intro e' f1 f2
      subst f2
      show Wc T _ _ _
      rw [List.take_length] at gat
      have hdep : (x.kids.foldl (inner (depsN l n)) 1) = dep (depsN l n) (kidsOf l n) := by rw [hkids]; rfl
      rw [hdep] at gat
      have k13 : e' 13 = .int .i64 n := by rw [f1 13 (by omega), g13]
      refine Wc_ops (Wo_run (fun call => by simp only [iops_nil, iops_op, iK_some, iop, ev, upd, dstUpd, k13, e1, binV, binI, reduceIte, Nat.reduceEqDiff, Option.map_some]; rfl) ?_)
      refine hgo hil _ _ _ ?_ ?_ ?_ ?_ ?_ gk gbn gA (ga.done hil gat)
      · simp only [upd, Nat.reduceEqDiff, reduceIte]; rw [f1 3 (by omega), g3]
      · simp only [upd, Nat.reduceEqDiff, reduceIte]; rw [f1 11 (by omega), g11]
      · simp only [upd, Nat.reduceEqDiff, reduceIte]; rw [f1 12 (by omega), g12]
      · simp only [upd, Nat.reduceEqDiff, reduceIte]
      · simp only [upd, Nat.reduceEqDiff, reduceIte]; rw [f1 0 (by omega), g0]

theorem deep14 {T : Tbl} (hT : T.fn 14 = some C14) {h : Heap} {v : Value} {l : List Nd} (hn : nodesAt h v l) (hN : l.length ≤ 3000) (hK : ∀ x ∈ l, x.kids.length ≤ 3000) :
    Wk T (.fn 14) [v] h (fun o h' => Kept h h' ∧ o = .ret (.int .i64 (deepOf l))) := by
  obtain ⟨va, vc, hv⟩ := hn.len
  refine Wk_fn hT (by simp [C14]) ?_
  simp only [C14]
  refine Wc_seq (Wc_ops (Wo_run (fun call => by simp only [iops_nil, iops_op, iK_some, iop, ev, upd, dstUpd, reduceIte]; rfl) ?_))
  show Wc T _ _ _
  have hsz : (0 : Int) ≤ (l.length : Int) ∧ (l.length : Int) ≤ (l.length : Int) ∧ (l.length : Int) * ((8 : Nat) : Int) ≤ 140737488355328 := by omega
  refine Wc_seq (Wc_ops (Wo_run (fun call => by
    simp only [iops_nil, iops_op, iK_some, iop, ev, upd, dstUpd, args0, hv, hsz, and_self, binV, binI, reduceIte, Nat.reduceEqDiff, Option.map_some, List.getD_cons_zero, Int.toNat_natCast, natC_zero]
    rfl) ?_))
  show Wc T _ _ _
  refine Wc_seq (Wc_seq (Wc_ops (Wo_run (fun call => by simp only [iops_nil, iops_op, iK_some, iop, ev, upd, dstUpd, args0, hv, reduceIte, Nat.reduceEqDiff, List.getD_cons_zero]; rfl) ?_)))
  show Wc T _ _ _
  have hk0 : Kept h (h.new (.cells (natC (List.replicate l.length 0)) true 1)) := (Kept.refl h).new _
  refine Wc_block (Wc_loop (fun s => s.d = some [] ∧ Kept h s.h ∧ h.next < s.h.next ∧ s.e 0 = v ∧ s.e 3 = slN h.next l.length ∧ s.e 11 = v ∧ s.e 12 = .int .i64 l.length ∧ ∃ n : Nat, n ≤ l.length ∧ s.e 13 = .int .i64 n ∧ ∃ A, s.h.get h.next = some (.cells (natC A) true 1) ∧ Arr2 l n A)
    (fun s => match s.e 13 with | .int _ i => (l.length - i).toNat | _ => 0) ?_ ?_)
  · refine ⟨rfl, hk0, Nat.lt_succ_self _, by simp only [upd, Nat.reduceEqDiff, reduceIte, args0, List.getD_cons_zero, hv], by simp only [upd, Nat.reduceEqDiff, reduceIte, slN], by simp only [upd, Nat.reduceEqDiff, reduceIte, hv], by simp only [upd, Nat.reduceEqDiff, reduceIte],
      0, Nat.zero_le _, by simp only [upd, Nat.reduceEqDiff, reduceIte]; rfl, List.replicate l.length 0, ?_, ⟨by simp, fun k hk => by omega⟩⟩
    simp [Heap.new]
  · rintro ⟨e, hp, d⟩ ⟨hd, gk, gbn, g0, g3, g11, g12, n, hnl, g13, A, gA, ga⟩
    simp only at hd gk gbn g0 g3 g11 g12 g13 gA
    subst hd
    refine deep14_node hN hK (Nat.le_refl _) hn hnl g3 g11 g12 g13 g0 gk gbn gA ga ?_ ?_
    · intro hlt e' hp' A' f3 f11 f12 f13 f0 fk fbn fA fa
      refine ⟨⟨rfl, fk, fbn, f0, f3.trans g3, f11, f12.trans g12, n + 1, hlt, f13, A', fA, fa⟩, ?_⟩
      simp only [f13, g13]
      omega
    · intro hnn e' f3 f0
      subst hnn
      show Wc T _ _ _
      have k3 : e' 3 = slN h.next l.length := f3.trans g3
      refine Wc_seq (Wc_seq (Wc_ops (Wo_run (fun call => by
        simp only [iops_nil, iops_op, iK_some, iop, ev, upd, dstUpd, f0, hv, binV, binI, reduceIte, Nat.reduceEqDiff, Option.map_some]
        rfl) ?_)))
      show Wc T _ _ _
      by_cases hz : l.length = 0
      · refine Wc_cond true (by simp [ev, upd, hz]) (fun _ => ?_) (fun h => by cases h)
        refine Wc_seq (Wc_ops (Wo_run (fun call => by simp only [iops_nil, iops_op, iK_some, iop, ev, upd, dstUpd, reduceIte]; rfl) ?_))
        show Wc T _ _ _
        refine Wc_ret ⟨.inr rfl, rfl, [.int .i64 (deepOf l)], ?_, gk, rfl⟩
        have : deepOf l = 0 := by unfold deepOf; rw [hz]; rfl
        rw [this]
        simp only [C14, resAll, resV, upd, Nat.reduceEqDiff, reduceIte]
        rfl
      · have hz' : ((l.length : Int) == 0) = false := beq_eq_false_iff_ne.2 (by omega)
        refine Wc_cond false (by simp only [ev, upd, Nat.reduceEqDiff, reduceIte, hz']) (fun h => by cases h) (fun _ => Wc_skip ?_)
        show Wc T _ _ _
        have hsub : IntKind.i64.wrap ((l.length : Int) - 1) = ((l.length - 1 : Nat) : Int) := by rw [wrap64] <;> omega
        have hAt : A[l.length - 1]? = some (deepOf l) := by
          rw [ga.low _ (by omega)]
          unfold deepOf
          rw [List.getD_eq_getElem?_getD, List.getElem?_eq_getElem (by rw [depsN_length]; omega)]
          rfl
        have hg : (natC A)[0 + (l.length - 1) * 1]? = some (.int .i64 (deepOf l)) := by rw [Nat.zero_add, Nat.mul_one]; exact natC_get hAt
        refine Wc_seq (Wc_ops (Wo_run (fun call => by
          simp only [iops_nil, iops_op, iK_some, iop, ev, upd, dstUpd, k3, f0, hv, slN, hsub, idx_ok (show l.length - 1 < l.length by omega), ptr, Heap.cell, gA, hg, binV, binI, reduceIte, Nat.reduceEqDiff, Option.map_some]
          rfl) ?_))
        show Wc T _ _ _
        refine Wc_ret ⟨.inr rfl, rfl, [.int .i64 (deepOf l)], ?_, gk, rfl⟩
        simp only [C14, resAll, resV, upd, Nat.reduceEqDiff, reduceIte]

end Go.Idl
