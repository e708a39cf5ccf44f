/- The reference's Deep. -/
import Derived.Test.YtlphecjgkknpnaaN5
namespace Go.Idl
set_option linter.unusedVariables false
set_option linter.unusedSimpArgs false

/-- The reference's array while node n is looked at. -/
structure Arr2 (l : List Nd) (n : Nat) (A : List Nat) : Prop where
  len : A.length = l.length
  low : ∀ k, k < n → A[k]? = (depsN l n)[k]?

theorem deep14_kid {T : Tbl} {l : List Nd} {n : Nat} (hn : n < l.length) (hN : l.length ≤ 3000) {ks : List Int} {h0 : Heap} {bl : Nat} {kv : Value} (hbl : h0.next ≤ bl) (hki : intsAt h0 kv ks)
    {e : Env} {hp : Heap} (h3 : e 3 = slN bl l.length) (h4 : e 4 = .int .i64 n) (h22 : e 22 = kv) (h23 : e 23 = .int .i64 ks.length) {j : Nat} (hj : j ≤ ks.length) (h24 : e 24 = .int .i64 j)
    (hkl : ks.length < 4611686018427387904) (hk : Kept h0 hp) (hbn : bl < hp.next) {A : List Nat} (hA : hp.get bl = some (.cells (natC A) true 1)) (ha : Arr2 l n A) (hat : A[n]? = some ((ks.take j).foldl (inner (depsN l n)) 1)) {Q : Ex → St → Prop}
    (hgo : ∀ (e' : Env) (hp' : Heap) (A' : List Nat), (∀ t, t < 7 → e' t = e t) → (∀ t, 7 < t → t < 24 → e' t = e t) → e' 24 = .int .i64 ((j + 1 : Nat) : Int) → j < ks.length → Kept h0 hp' → hp.next = hp'.next → hp'.get bl = some (.cells (natC A') true 1) → Arr2 l n A' → A'[n]? = some ((ks.take (j + 1)).foldl (inner (depsN l n)) 1) →
      Q .normal ⟨e', hp', some []⟩)
    (hend : ∀ e' : Env, (∀ t, t < 24 → e' t = e t) → j = ks.length → Q (.brk 2) ⟨e', hp, some []⟩) : Wc T C14L0 ⟨e, hp, some []⟩ Q := by
  rw [C14L0]
  refine Wc_seq (Wc_ops (Wo_run (fun call => by simp only [iops_nil, iops_op, iK_some, iop, ev, upd, dstUpd, h23, h24, binV, binI, reduceIte, Option.map_some]; rfl) ?_))
  show Wc T _ _ _
  refine Wc_seq (Wc_cond (decide ((j : Int) < ks.length)) (by simp [ev, upd]) (fun hlt => Wc_skip ?_) (fun hge => Wc_exit ?_))
  case refine_2 =>
    refine hend _ (fun t ht => by simp only [upd]; rw [if_neg (by omega)]) (by simp at hge; omega)
  show Wc T _ _ _
  have hjl : j < ks.length := by simpa using hlt
  obtain ⟨k, hkj⟩ : ∃ k, ks[j]? = some k := ⟨_, List.getElem?_eq_getElem hjl⟩
  obtain ⟨b, c, rfl, hb0, ⟨o, z, hg0⟩, hcell⟩ := hki.load hkj
  have hb : b < hp.next := Nat.lt_of_lt_of_le hb0 hk.next
  have hg : hp.get b = some (.cells (ints64 ks) o z) := by rw [hk.get b hb0]; exact hg0
  have e1 : IntKind.i64.wrap ((j : Int) + 1) = ((j + 1 : Nat) : Int) := by rw [wrap64] <;> omega
  have hfold := inner_take hkj (D := depsN l n) 1
  have hDl := depsN_length l n
  have hbb : b ≠ bl := by omega
  refine Wc_seq (Wc_block (Wc_seq (Wc_ops (Wo_run (fun call => by
    simp only [iops_nil, iops_op, iK_some, iop, ev, upd, dstUpd, h22, h24, idx_ok hjl, ptr, Heap.cell, hg, hcell, Option.map_some, reduceIte, Nat.reduceEqDiff]
    rfl) ?_))))
  show Wc T _ _ _
  have last : ∀ (e' : Env) (hp' : Heap) (A' : List Nat), (∀ t, t < 7 → e' t = e t) → (∀ t, 7 < t → t < 25 → e' t = e t) → Kept h0 hp' → hp.next = hp'.next → hp'.get bl = some (.cells (natC A') true 1) → Arr2 l n A' → A'[n]? = some (inner (depsN l n) ((ks.take j).foldl (inner (depsN l n)) 1) k) →
      To (Tb 3 (Tn T (.ops [⟨(some 48), .op (.bin .add (.t 24) (.c (.int .i64 1))), none⟩, ⟨(some 24), .op (.mov (.t 48)), none⟩]) Q)) none ⟨e', hp', some []⟩ := by
    intro e' hp' A' f1 f2 f3 f4 f5 f6 f7
    show Wc T _ _ _
    have g24 : e' 24 = .int .i64 j := by rw [f2 24 (by omega) (by omega)]; exact h24
    refine Wc_ops (Wo_run (fun call => by simp only [iops_nil, iops_op, iK_some, iop, ev, upd, dstUpd, g24, e1, binV, binI, reduceIte, Nat.reduceEqDiff, Option.map_some]; rfl) ?_)
    refine hgo _ hp' A' (fun t ht => ?_) (fun t h1 h2 => ?_) (by simp [upd]) hjl f3 f4 f5 f6 (by rw [hfold]; exact f7)
    · simp only [upd]; rw [if_neg (by omega), if_neg (by omega)]; exact f1 t ht
    · simp only [upd]; rw [if_neg (by omega), if_neg (by omega)]; exact f2 t h1 (by omega)
  have easy : ∀ (e' : Env), (∀ t, t < 7 → e' t = e t) → (∀ t, 7 < t → t < 25 → e' t = e t) → inner (depsN l n) ((ks.take j).foldl (inner (depsN l n)) 1) k = (ks.take j).foldl (inner (depsN l n)) 1 →
      To (Tb 3 (Tn T (.ops [⟨(some 48), .op (.bin .add (.t 24) (.c (.int .i64 1))), none⟩, ⟨(some 24), .op (.mov (.t 48)), none⟩]) Q)) none ⟨e', hp, some []⟩ := fun e' f1 f2 f3 =>
    last e' hp A f1 f2 hk rfl hA ha (by rw [f3]; exact hat)
  by_cases hk0 : 0 ≤ k
  case neg =>
    refine Wc_seq (Wc_ops (Wo_run (fun call => by
      simp only [iops_nil, iops_op, iops_grd, iK_some, iG_true, iG_false, gval_bool, beq_true, beq_false, Bool.not_true, Bool.not_false, iop, ev, upd, dstUpd, h4, binV, binI, hk0, ge_iff_le, decide_false, reduceIte, Nat.reduceEqDiff, Option.map_some, Bool.false_eq_true, beq_iff_eq]
      rfl) ?_))
    show Wc T _ _ _
    refine Wc_cond false (by simp [ev, upd]) (fun h => by cases h) (fun _ => Wc_skip ?_)
    exact easy _ (fun t ht => by simp only [upd]; repeat rw [if_neg (by omega)]) (fun t h1 h2 => by simp only [upd]; repeat rw [if_neg (by omega)]) (by unfold inner; rw [if_neg (by omega)])
  by_cases hkn : k < n
  case neg =>
    refine Wc_seq (Wc_ops (Wo_run (fun call => by
      simp only [iops_nil, iops_op, iops_grd, iK_some, iG_true, iG_false, gval_bool, beq_true, beq_false, Bool.not_true, Bool.not_false, iop, ev, upd, dstUpd, h4, binV, binI, hk0, hkn, ge_iff_le, decide_true, decide_false, reduceIte, Nat.reduceEqDiff, Option.map_some, Bool.false_eq_true, beq_iff_eq]
      rfl) ?_))
    show Wc T _ _ _
    refine Wc_cond false (by simp [ev, upd]) (fun h => by cases h) (fun _ => Wc_skip ?_)
    exact easy _ (fun t ht => by simp only [upd]; repeat rw [if_neg (by omega)]) (fun t h1 h2 => by simp only [upd]; repeat rw [if_neg (by omega)]) (by unfold inner; rw [if_neg (by omega)])
  obtain ⟨kk, rfl⟩ : ∃ kk : Nat, k = kk := ⟨k.toNat, by omega⟩
  have hkn' : kk < n := by omega
  obtain ⟨a, hDa⟩ : ∃ a, (depsN l n)[kk]? = some a := ⟨_, List.getElem?_eq_getElem (by omega)⟩
  have hAk : A[kk]? = some a := by rw [ha.low kk hkn', hDa]
  have hal : a ≤ n := by have := depsN_le l n kk; rw [List.getD_eq_getElem?_getD, hDa] at this; exact this
  have hml : (ks.take j).foldl (inner (depsN l n)) 1 ≤ n + 1 := fold_le (fun k => depsN_le l n k) _ 1 (by omega)
  have hin : inner (depsN l n) ((ks.take j).foldl (inner (depsN l n)) 1) (kk : Int) = max ((ks.take j).foldl (inner (depsN l n)) 1) (a + 1) := by
    unfold inner
    rw [if_pos (by omega)]
    simp [List.getD_eq_getElem?_getD, hDa]
  generalize (ks.take j).foldl (inner (depsN l n)) 1 = m at *
  have hkA : (natC A)[0 + kk * 1]? = some (.int .i64 a) := by rw [Nat.zero_add, Nat.mul_one]; exact natC_get hAk
  have hnA : (natC A)[0 + n * 1]? = some (.int .i64 (m : Int)) := by rw [Nat.zero_add, Nat.mul_one]; exact natC_get hat
  have hset : (natC A).set (0 + n * 1) (.int .i64 ((max m (a + 1) : Nat) : Int)) = natC (A.set n (max m (a + 1))) := by rw [Nat.zero_add, Nat.mul_one]; exact natC_set A n _
  have hlen : 0 + n * 1 + 1 ≤ (natC A).length := by rw [natC_length, ha.len]; omega
  have e3 : IntKind.i64.wrap ((a : Int) + 1) = ((a + 1 : Nat) : Int) := by rw [wrap64] <;> omega
  have hmx : (if ((a + 1 : Nat) : Int) > (m : Int) then ((a + 1 : Nat) : Int) else (m : Int)) = ((max m (a + 1) : Nat) : Int) := by split <;> omega
  refine Wc_seq (Wc_ops (Wo_run (fun call => by
    simp only [iops_nil, iops_op, iops_grd, iK_some, iG_true, iG_false, gval_bool, beq_true, beq_false, Bool.not_true, Bool.not_false, iop, ev, upd, dstUpd, h4, binV, binI, hk0, hkn, ge_iff_le, decide_true, decide_false, reduceIte, Nat.reduceEqDiff, Option.map_some, Bool.false_eq_true, beq_iff_eq]
    rfl) ?_))
  show Wc T _ _ _
  refine Wc_cond true (by simp [ev, upd]) (fun _ => ?_) (fun h => by cases h)
  refine Wc_draw_still (by decide) (Wo_run (fun call => by
    simp only [iops_nil, iops_op, iK_some, iop, ev, upd, dstUpd, h3, h4, slN, idx_ok (show kk < l.length by omega), idx_ok hn, ptr, Heap.cell, Heap.write, cellsOf, put, hA, hkA, hnA, e3, hmx, hset, hlen, binV, binI, List.length_cons, List.length_nil, reduceIte, Nat.reduceEqDiff, Nat.reduceAdd, Option.map_some]
    rfl) ⟨rfl, ?_⟩)
  refine last _ _ (A.set n (max m (a + 1))) (fun t ht => by simp only [upd]; repeat rw [if_neg (by omega)]) (fun t h1 h2 => by simp only [upd]; repeat rw [if_neg (by omega)]) (hk.set hbl _) rfl (set_get' _ _ _) ⟨by simp [ha.len], fun t ht => ?_⟩ ?_
  · rw [List.getElem?_set_ne (by omega)]; exact ha.low t ht
  · rw [List.getElem?_set_self (by rw [ha.len]; omega), hin]

end Go.Idl
