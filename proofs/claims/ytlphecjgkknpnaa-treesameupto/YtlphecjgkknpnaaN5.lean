/- tree.Deep: whole. -/
import Derived.Test.YtlphecjgkknpnaaN4
namespace Go.Idl
set_option linter.unusedVariables false
set_option linter.unusedSimpArgs false

theorem Arr.done {l : List Nd} {n : Nat} (hn : n < l.length) {A : List Nat} (ha : Arr l n (dep (depsN l n) (kidsOf l n)) A) : Arr l (n + 1) 1 (A.set n (dep (depsN l n) (kidsOf l n))) := by
  have hD := depsN_length l n
  refine ⟨by simp [ha.len], fun k hk => ?_, ?_, fun k h1 h2 => ?_⟩
  · simp only [depsN]
    by_cases e : k = n
    · subst e
      rw [List.getElem?_set_self (by rw [ha.len]; omega), List.getElem?_append_right (by omega), hD, Nat.sub_self]; rfl
    · rw [List.getElem?_set_ne (by omega), List.getElem?_append_left (by omega)]
      exact ha.low k (by omega)
  · rw [List.getElem?_set_ne (by omega)]; exact ha.high (n + 1) (by omega) (by omega)
  · rw [List.getElem?_set_ne (by omega)]; exact ha.high k (by omega) h2

theorem deep13_node {T : Tbl} {l : List Nd} (hN : l.length ≤ 3000) (hK : ∀ x ∈ l, x.kids.length ≤ 3000) {h0 : Heap} {bl : Nat} {v : Value} (hbl : h0.next ≤ bl) (hn : nodesAt h0 v l)
    {e : Env} {hp : Heap} {n : Nat} (hnl : n ≤ l.length) (h3 : e 3 = slN bl (l.length + 1)) (h12 : e 12 = v) (h13 : e 13 = .int .i64 l.length) (h14 : e 14 = .int .i64 n) (h0' : e 0 = v)
    (hk : Kept h0 hp) (hbn : bl < hp.next) {A : List Nat} (hA : hp.get bl = some (.cells (natC A) true 1)) (ha : Arr l n 1 A) {Q : Ex → St → Prop}
    (hgo : n < l.length → ∀ (e' : Env) (hp' : Heap) (A' : List Nat), e' 3 = e 3 → e' 12 = v → e' 13 = e 13 → e' 14 = .int .i64 ((n + 1 : Nat) : Int) → e' 0 = v → Kept h0 hp' → bl < hp'.next → hp'.get bl = some (.cells (natC A') true 1) → Arr l (n + 1) 1 A' → Q .normal ⟨e', hp', some []⟩)
    (hend : n = l.length → ∀ e' : Env, e' 3 = e 3 → e' 0 = v → Q (.brk 0) ⟨e', hp, some []⟩) : Wc T C13L1 ⟨e, hp, some []⟩ Q := by
  rw [C13L1]
  refine Wc_seq (Wc_ops (Wo_run (fun call => by simp only [iops_nil, iops_op, iK_some, iop, ev, upd, dstUpd, h13, h14, binV, binI, reduceIte, Option.map_some]; rfl) ?_))
  show Wc T _ _ _
  refine Wc_seq (Wc_cond (decide ((n : Int) < l.length)) (by simp [ev, upd]) (fun hlt => Wc_skip ?_) (fun hge => Wc_exit ?_))
  case refine_2 => exact hend (by simp at hge; omega) _ (by simp [upd]) (by simp only [upd, Nat.reduceEqDiff, reduceIte]; exact h0')
  show Wc T _ _ _
  have hil : n < l.length := by simpa using hlt
  obtain ⟨x, hx⟩ : ∃ x, l[n]? = some x := ⟨_, List.getElem?_eq_getElem hil⟩
  have hxm := List.mem_of_getElem? hx
  obtain ⟨b, c, rfl, hb, ⟨o, z, hg⟩, hcells⟩ := (hn.keep hk).load hx
  obtain ⟨ka, kc, hkv⟩ := (hn.2 x hxm).len
  have hki := hn.2 x hxm
  have hkl := hK x hxm
  have e1 : IntKind.i64.wrap ((n : Int) + 1) = ((n + 1 : Nat) : Int) := by rw [wrap64] <;> omega
  have hkids : kidsOf l n = x.kids := by simp [kidsOf, hx]
  refine Wc_seq (Wc_block (Wc_seq (Wc_ops (Wo_run (fun call => by
    simp only [iops_nil, iops_op, iK_some, iop, ev, upd, dstUpd, h12, h14, idx_ok hil, ptr, hcells, Option.map_some, cellsOf, Heap.write, Heap.new, Heap.set, put, List.length_cons, List.length_nil, reduceIte, Nat.reduceEqDiff, Nat.reduceAdd, Nat.reduceLeDiff, List.set_cons_zero, List.set_cons_succ]
    rfl) ?_))))
  show Wc T _ _ _
  refine Wc_seq (Wc_seq (Wc_ops (Wo_run (fun call => by
    simp only [iops_nil, iops_op, iK_some, iop, ev, upd, dstUpd, ptr, hkv, Option.map_some, Heap.cell, reduceIte, Nat.reduceEqDiff, Nat.reduceAdd, Nat.zero_add, List.getElem?_cons_zero, List.getElem?_cons_succ]
    rfl) ?_)))
  show Wc T _ _ _
  have hbb : bl ≠ hp.next := by omega
  refine Wc_block (Wc_loop (fun s => s.d = some [] ∧ Kept h0 s.h ∧ bl < s.h.next ∧ s.e 0 = .slice (some ⟨b, 0, none⟩) l.length c ∧ s.e 3 = e 3 ∧ s.e 4 = .int .i64 n ∧ s.e 12 = .slice (some ⟨b, 0, none⟩) l.length c ∧ s.e 13 = e 13 ∧ s.e 14 = .int .i64 n ∧ s.e 20 = x.kv ∧ s.e 21 = .int .i64 x.kids.length ∧
      ∃ j : Nat, j ≤ x.kids.length ∧ s.e 22 = .int .i64 j ∧ ∃ A, s.h.get bl = some (.cells (natC A) true 1) ∧ Arr l n ((x.kids.take j).foldl (inner (depsN l n)) 1) A)
    (fun s => match s.e 22 with | .int _ i => (x.kids.length - i).toNat | _ => 0) ?_ ?_)
  · refine ⟨rfl, (hk.new _).set hk.next _, by simp only [Heap.set, Heap.new]; omega, by simp only [upd, Nat.reduceEqDiff, reduceIte]; exact h0', by simp only [upd, Nat.reduceEqDiff, reduceIte], by simp only [upd, Nat.reduceEqDiff, reduceIte],
      by simp only [upd, Nat.reduceEqDiff, reduceIte]; exact h12, by simp only [upd, Nat.reduceEqDiff, reduceIte], by simp only [upd, Nat.reduceEqDiff, reduceIte]; exact h14, by simp only [upd, Nat.reduceEqDiff, reduceIte, hkv], by simp only [upd, Nat.reduceEqDiff, reduceIte],
      0, Nat.zero_le _, by simp only [upd, Nat.reduceEqDiff, reduceIte]; rfl, A, ?_, ha⟩
    simp only [if_neg hbb]; exact hA
  · rintro ⟨e2, hp2, d2⟩ ⟨hd, gk, gbn, g0, g3, g4, g12, g13, g14, g20, g21, j, hj, g22, A2, gA, ga⟩
    simp only at hd gk gbn g0 g3 g4 g12 g13 g14 g20 g21 g22 gA
    subst hd
    refine deep13_kid hil hN hbl hki (g3.trans h3) g4 g20 g21 hj g22 (by omega) gk gbn gA ga ?_ ?_
    · intro e' hp' A' f1 f2 f3 f4 f5 f6 f7 f8 f9
      refine ⟨⟨rfl, f5, by rw [← f6]; exact gbn, (f1 0 (by omega)).trans g0, (f1 3 (by omega)).trans g3, (f1 4 (by omega)).trans g4, (f2 12 (by omega) (by omega)).trans g12, (f2 13 (by omega) (by omega)).trans g13,
        (f2 14 (by omega) (by omega)).trans g14, (f2 20 (by omega) (by omega)).trans g20, (f2 21 (by omega) (by omega)).trans g21, j + 1, f4, f3, A', f7, f8⟩, ?_⟩
      simp only [f3, g22]
      omega
    · intro e' f1 f2
      subst f2
      show Wc T _ _ _
      rw [List.take_length] at ga
      have hdep : (x.kids.foldl (inner (depsN l n)) 1) = dep (depsN l n) (kidsOf l n) := by rw [hkids]; rfl
      rw [hdep] at ga
      have hpos : 1 ≤ dep (depsN l n) (kidsOf l n) := fold_pos _ _ 1
      have hle : dep (depsN l n) (kidsOf l n) ≤ n + 1 := fold_le (fun k => depsN_le l n k) _ 1 (by omega)
      have k3 : e' 3 = slN bl (l.length + 1) := by rw [f1 3 (by omega), g3, h3]
      have k4 : e' 4 = .int .i64 n := by rw [f1 4 (by omega), g4]
      have k14 : e' 14 = .int .i64 n := by rw [f1 14 (by omega), g14]
      have hnA : (natC A2)[0 + n * 1]? = some (.int .i64 ((dep (depsN l n) (kidsOf l n) - 1 : Nat) : Int)) := by rw [Nat.zero_add, Nat.mul_one]; exact natC_get ga.at'
      have hset : (natC A2).set (0 + n * 1) (.int .i64 (dep (depsN l n) (kidsOf l n))) = natC (A2.set n (dep (depsN l n) (kidsOf l n))) := by rw [Nat.zero_add, Nat.mul_one]; exact natC_set A2 n _
      have hlen : 0 + n * 1 + 1 ≤ (natC A2).length := by rw [natC_length, ga.len]; omega
      have e2 : IntKind.i64.wrap (((dep (depsN l n) (kidsOf l n) - 1 : Nat) : Int) + 1) = ((dep (depsN l n) (kidsOf l n) : Nat) : Int) := by rw [wrap64] <;> omega
      refine Wc_ops (Wo_run (fun call => by
        simp only [iops_nil, iops_op, iK_some, iop, ev, upd, dstUpd, k3, k4, slN, idx_ok (show n < l.length + 1 by omega), ptr, Heap.cell, Heap.write, cellsOf, put, gA, hnA, binV, binI, e2, hset, hlen, List.length_cons, List.length_nil, reduceIte, Nat.reduceEqDiff, Nat.reduceAdd, Option.map_some]
        rfl) ?_)
      show Wc T _ _ _
      refine Wc_ops (Wo_run (fun call => by simp only [iops_nil, iops_op, iK_some, iop, ev, upd, dstUpd, k14, e1, binV, binI, reduceIte, Nat.reduceEqDiff, Option.map_some]; rfl) ?_)
      refine hgo hil _ _ _ ?_ ?_ ?_ ?_ ?_ (gk.set hbl _) gbn (set_get' _ _ _) (ga.done hil)
      · simp only [upd, Nat.reduceEqDiff, reduceIte]; rw [f1 3 (by omega), g3]
      · simp only [upd, Nat.reduceEqDiff, reduceIte]; rw [f1 12 (by omega), g12]
      · simp only [upd, Nat.reduceEqDiff, reduceIte]; rw [f1 13 (by omega), g13]
      · simp only [upd, Nat.reduceEqDiff, reduceIte]
      · simp only [upd, Nat.reduceEqDiff, reduceIte]; rw [f1 0 (by omega), g0]

theorem arr_begin (l : List Nd) : Arr l 0 1 (List.replicate (l.length + 1) 0) :=
  ⟨by simp, fun k hk => by omega, by simp, fun k h1 h2 => by rw [List.getElem?_replicate, if_pos (by omega)]⟩

theorem deep13 {T : Tbl} (hT : T.fn 13 = some C13) {h : Heap} {v : Value} {l : List Nd} (hn : nodesAt h v l) (hN : l.length ≤ 3000) (hK : ∀ x ∈ l, x.kids.length ≤ 3000) :
    Wk T (.fn 13) [v] h (fun o h' => Kept h h' ∧ o = .ret (.int .i64 (deepOf l))) := by
  obtain ⟨va, vc, hv⟩ := hn.len
  refine Wk_fn hT (by simp [C13]) ?_
  simp only [C13]
  refine Wc_seq (Wc_ops (Wo_run (fun call => by simp only [iops_nil, iops_op, iK_some, iop, ev, upd, dstUpd, reduceIte]; rfl) ?_))
  show Wc T _ _ _
  have e1 : IntKind.i64.wrap ((l.length : Int) + 1) = ((l.length + 1 : Nat) : Int) := by rw [wrap64] <;> omega
  have hsz : (0 : Int) ≤ ((l.length + 1 : Nat) : Int) ∧ ((l.length + 1 : Nat) : Int) ≤ ((l.length + 1 : Nat) : Int) ∧ ((l.length + 1 : Nat) : Int) * ((8 : Nat) : Int) ≤ 140737488355328 := by omega
  refine Wc_seq (Wc_ops (Wo_run (fun call => by
    simp only [iops_nil, iops_op, iK_some, iop, ev, upd, dstUpd, args0, hv, e1, hsz, and_self, binV, binI, reduceIte, Nat.reduceEqDiff, Option.map_some, List.getD_cons_zero, Int.toNat_natCast, natC_zero]
    rfl) ?_))
  show Wc T _ _ _
  refine Wc_seq (Wc_seq (Wc_ops (Wo_run (fun call => by simp only [iops_nil, iops_op, iK_some, iop, ev, upd, dstUpd, args0, hv, reduceIte, Nat.reduceEqDiff, List.getD_cons_zero]; rfl) ?_)))
  show Wc T _ _ _
  have hk0 : Kept h (h.new (.cells (natC (List.replicate (l.length + 1) 0)) true 1)) := (Kept.refl h).new _
  refine Wc_block (Wc_loop (fun s => s.d = some [] ∧ Kept h s.h ∧ h.next < s.h.next ∧ s.e 0 = v ∧ s.e 3 = slN h.next (l.length + 1) ∧ s.e 12 = v ∧ s.e 13 = .int .i64 l.length ∧ ∃ n : Nat, n ≤ l.length ∧ s.e 14 = .int .i64 n ∧ ∃ A, s.h.get h.next = some (.cells (natC A) true 1) ∧ Arr l n 1 A)
    (fun s => match s.e 14 with | .int _ i => (l.length - i).toNat | _ => 0) ?_ ?_)
  · refine ⟨rfl, hk0, Nat.lt_succ_self _, by simp only [upd, Nat.reduceEqDiff, reduceIte, args0, List.getD_cons_zero, hv], by simp only [upd, Nat.reduceEqDiff, reduceIte, slN], by simp only [upd, Nat.reduceEqDiff, reduceIte, hv], by simp only [upd, Nat.reduceEqDiff, reduceIte],
      0, Nat.zero_le _, by simp only [upd, Nat.reduceEqDiff, reduceIte]; rfl, _, ?_, arr_begin l⟩
    simp [Heap.new]
  · rintro ⟨e, hp, d⟩ ⟨hd, gk, gbn, g0, g3, g12, g13, n, hnl, g14, A, gA, ga⟩
    simp only at hd gk gbn g0 g3 g12 g13 g14 gA
    subst hd
    refine deep13_node hN hK (Nat.le_refl _) hn hnl g3 g12 g13 g14 g0 gk gbn gA ga ?_ ?_
    · intro hlt e' hp' A' f3 f12 f13 f14 f0 fk fbn fA fa
      refine ⟨⟨rfl, fk, fbn, f0, f3.trans g3, f12, f13.trans g13, n + 1, hlt, f14, A', fA, fa⟩, ?_⟩
      simp only [f14, g14]
      omega
    · intro hnn e' f3 f0
      subst hnn
      show Wc T _ _ _
      have k3 : e' 3 = slN h.next (l.length + 1) := f3.trans g3
      have hmx : (if (0 : Int) > IntKind.i64.wrap ((l.length : Int) - 1) then (0 : Int) else IntKind.i64.wrap ((l.length : Int) - 1)) = ((l.length - 1 : Nat) : Int) := by
        rw [wrap64] <;> first | (split <;> omega) | omega
      have hAt : A[l.length - 1]? = some (deepOf l) := by
        by_cases hz : l.length = 0
        · have := ga.at'
          rw [hz] at this ⊢
          simp only [this, deepOf, hz, depsN]
          rfl
        · rw [ga.low _ (by omega)]
          unfold deepOf
          rw [List.getD_eq_getElem?_getD, List.getElem?_eq_getElem (by rw [depsN_length]; omega)]
          rfl
      have hg : (natC A)[0 + (l.length - 1) * 1]? = some (.int .i64 (deepOf l)) := by rw [Nat.zero_add, Nat.mul_one]; exact natC_get hAt
      refine Wc_seq (Wc_ops (Wo_run (fun call => by
        simp only [iops_nil, iops_op, iK_some, iop, ev, upd, dstUpd, k3, f0, hv, slN, hmx, idx_ok (show l.length - 1 < l.length + 1 by omega), ptr, Heap.cell, gA, hg, binV, binI, reduceIte, Nat.reduceEqDiff, Option.map_some]
        rfl) ?_))
      show Wc T _ _ _
      refine Wc_ret ⟨.inr rfl, rfl, [.int .i64 (deepOf l)], ?_, gk, rfl⟩
      simp only [C13, resAll, resV, upd, Nat.reduceEqDiff, reduceIte]

end Go.Idl
