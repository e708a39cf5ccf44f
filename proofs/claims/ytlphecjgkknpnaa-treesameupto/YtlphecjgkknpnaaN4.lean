/- tree.Deep. -/
import Derived.Test.YtlphecjgkknpnaaN3
namespace Go.Idl
set_option linter.unusedVariables false
set_option linter.unusedSimpArgs false

/-- The array while node n is looked at: m - 1 stands at n. -/
structure Arr (l : List Nd) (n m : Nat) (A : List Nat) : Prop where
  len : A.length = l.length + 1
  low : ∀ k, k < n → A[k]? = (depsN l n)[k]?
  at' : A[n]? = some (m - 1)
  high : ∀ k, n < k → k ≤ l.length → A[k]? = some 0

def slN (b n : Nat) : Value := .slice (some ⟨b, 0, none⟩) n n

/-- One kid. -/
theorem deep13_kid {T : Tbl} {l : List Nd} {n : Nat} (hn : n < l.length) (hN : l.length ≤ 3000) {ks : List Int} {h0 : Heap} {bl : Nat} {kv : Value} (hbl : h0.next ≤ bl) (hki : intsAt h0 kv ks)
    {e : Env} {hp : Heap} (h3 : e 3 = slN bl (l.length + 1)) (h4 : e 4 = .int .i64 n) (h20 : e 20 = kv) (h21 : e 21 = .int .i64 ks.length) {j : Nat} (hj : j ≤ ks.length) (h22 : e 22 = .int .i64 j)
    (hkl : ks.length < 4611686018427387904) (hk : Kept h0 hp) (hbn : bl < hp.next) {A : List Nat} (hA : hp.get bl = some (.cells (natC A) true 1)) (ha : Arr l n ((ks.take j).foldl (inner (depsN l n)) 1) A) {Q : Ex → St → Prop}
    (hgo : ∀ (e' : Env) (hp' : Heap) (A' : List Nat), (∀ t, t < 7 → e' t = e t) → (∀ t, 7 < t → t < 22 → e' t = e t) → e' 22 = .int .i64 ((j + 1 : Nat) : Int) → j < ks.length → Kept h0 hp' → hp.next = hp'.next → hp'.get bl = some (.cells (natC A') true 1) → Arr l n ((ks.take (j + 1)).foldl (inner (depsN l n)) 1) A' →
      (∀ b, b ≠ bl → hp'.get b = hp.get b) → Q .normal ⟨e', hp', some []⟩)
    (hend : ∀ e' : Env, (∀ t, t < 22 → e' t = e t) → j = ks.length → Q (.brk 2) ⟨e', hp, some []⟩) : Wc T C13L0 ⟨e, hp, some []⟩ Q := by
  rw [C13L0]
  refine Wc_seq (Wc_ops (Wo_run (fun call => by simp only [iops_nil, iops_op, iops_grd, iK_some, iG_true, iG_false, gval_bool, beq_true, beq_false, Bool.not_true, Bool.not_false, iop, ev, upd, dstUpd, h21, h22, binV, binI, reduceIte, Option.map_some]; rfl) ?_))
  show Wc T _ _ _
  refine Wc_seq (Wc_cond (decide ((j : Int) < ks.length)) (by simp [ev, upd]) (fun hlt => Wc_skip ?_) (fun hge => Wc_exit ?_))
  case refine_2 =>
    refine hend _ (fun t ht => by simp only [upd]; rw [if_neg (by omega)]) (by simp at hge; omega)
  show Wc T _ _ _
  have hjl : j < ks.length := by simpa using hlt
  obtain ⟨k, hkj⟩ : ∃ k, ks[j]? = some k := ⟨_, List.getElem?_eq_getElem hjl⟩
  obtain ⟨b, c, rfl, hb0, ⟨o, z, hg0⟩, hcell⟩ := hki.load hkj
  have hb : b < hp.next := Nat.lt_of_lt_of_le hb0 hk.next
  have hg : hp.get b = some (.cells (ints64 ks) o z) := by rw [hk.get b hb0]; exact hg0
  have e1 : IntKind.i64.wrap ((j : Int) + 1) = ((j + 1 : Nat) : Int) := by rw [wrap64] <;> omega
  have hfold := inner_take hkj (D := depsN l n) 1
  have hDl := depsN_length l n
  have hbb : b ≠ bl := by omega
  refine Wc_seq (Wc_block (Wc_seq (Wc_ops (Wo_run (fun call => by
    simp only [iops_nil, iops_op, iops_grd, iK_some, iG_true, iG_false, gval_bool, beq_true, beq_false, Bool.not_true, Bool.not_false, iop, ev, upd, dstUpd, h20, h22, idx_ok hjl, ptr, Heap.cell, hg, hcell, Option.map_some, reduceIte, Nat.reduceEqDiff]
    rfl) ?_))))
  show Wc T _ _ _
  -- behind the comparison
  have last : ∀ (e' : Env) (hp' : Heap) (A' : List Nat), (∀ t, t < 7 → e' t = e t) → (∀ t, 7 < t → t < 23 → e' t = e t) → Kept h0 hp' → hp.next = hp'.next → hp'.get bl = some (.cells (natC A') true 1) → Arr l n (inner (depsN l n) ((ks.take j).foldl (inner (depsN l n)) 1) k) A' → (∀ b, b ≠ bl → hp'.get b = hp.get b) →
      To (Tb 3 (Tn T (.ops [⟨(some 51), .op (.bin .add (.t 22) (.c (.int .i64 1))), none⟩, ⟨(some 22), .op (.mov (.t 51)), none⟩]) Q)) none ⟨e', hp', some []⟩ := by
    intro e' hp' A' f1 f2 f3 f4 f5 f6 f7
    show Wc T _ _ _
    have g22 : e' 22 = .int .i64 j := by rw [f2 22 (by omega) (by omega)]; exact h22
    refine Wc_ops (Wo_run (fun call => by simp only [iops_nil, iops_op, iops_grd, iK_some, iG_true, iG_false, gval_bool, beq_true, beq_false, Bool.not_true, Bool.not_false, iop, ev, upd, dstUpd, g22, e1, binV, binI, reduceIte, Nat.reduceEqDiff, Option.map_some]; rfl) ?_)
    refine hgo _ hp' A' (fun t ht => ?_) (fun t h1 h2 => ?_) (by simp [upd]) hjl f3 f4 f5 (by rw [hfold]; exact f6) f7
    · simp only [upd]; rw [if_neg (by omega), if_neg (by omega)]; exact f1 t ht
    · simp only [upd]; rw [if_neg (by omega), if_neg (by omega)]; exact f2 t h1 (by omega)
  have hcalm : calm [⟨(some 26), .op (.mov (.t 7)), none⟩,
      ⟨(some 27), .op (.bin .geq (.t 26) (.c (.int .i64 0))), none⟩,
      ⟨(some 28), .op (.mov (.t 27)), none⟩,
      ⟨(some 29), .op (.mov (.t 7)), (some (28, true))⟩,
      ⟨(some 30), .op (.mov (.t 4)), (some (28, true))⟩,
      ⟨(some 31), .op (.bin .lss (.t 29) (.t 30)), (some (28, true))⟩,
      ⟨(some 32), .op (.pick (.t 28) (.t 31) (.c (.bool false))), none⟩,
      ⟨(some 33), .op (.mov (.t 32)), none⟩,
      ⟨(some 34), .op (.mov (.t 3)), (some (33, true))⟩,
      ⟨(some 35), .op (.mov (.t 7)), (some (33, true))⟩,
      ⟨(some 36), .op (.iaddr (.sl 1) (.t 34) (.t 35)), (some (33, true))⟩,
      ⟨(some 37), .op (.load none (.t 36)), (some (33, true))⟩,
      ⟨(some 38), .op (.mov (.t 3)), (some (33, true))⟩,
      ⟨(some 39), .op (.mov (.t 4)), (some (33, true))⟩,
      ⟨(some 40), .op (.iaddr (.sl 1) (.t 38) (.t 39)), (some (33, true))⟩,
      ⟨(some 41), .op (.load none (.t 40)), (some (33, true))⟩,
      ⟨(some 42), .op (.bin .gtr (.t 37) (.t 41)), (some (33, true))⟩,
      ⟨(some 43), .op (.pick (.t 33) (.t 42) (.c (.bool false))), none⟩] = true := by decide
  have easy : ∀ (e' : Env), (∀ t, t < 7 → e' t = e t) → (∀ t, 7 < t → t < 23 → e' t = e t) → inner (depsN l n) ((ks.take j).foldl (inner (depsN l n)) 1) k = (ks.take j).foldl (inner (depsN l n)) 1 →
      To (Tb 3 (Tn T (.ops [⟨(some 51), .op (.bin .add (.t 22) (.c (.int .i64 1))), none⟩, ⟨(some 22), .op (.mov (.t 51)), none⟩]) Q)) none ⟨e', hp, some []⟩ := fun e' f1 f2 f3 =>
    last e' hp A f1 f2 hk rfl hA (by rw [f3]; exact ha) (fun _ _ => rfl)
  by_cases hk0 : 0 ≤ k
  case neg =>
    refine Wc_seq (Wc_draw_calm hcalm (Wo_run (fun call => by
      simp only [iops_nil, iops_op, iops_grd, iK_some, iG_true, iG_false, gval_bool, beq_true, beq_false, Bool.not_true, Bool.not_false, iop, ev, upd, dstUpd, h4, binV, binI, hk0, ge_iff_le, decide_false, reduceIte, Nat.reduceEqDiff, Option.map_some, Bool.false_eq_true, beq_iff_eq]
      rfl) ⟨rfl, ?_⟩))
    show Wc T _ _ _
    refine Wc_cond false (by simp [ev, upd]) (fun h => by cases h) (fun _ => Wc_skip ?_)
    exact easy _ (fun t ht => by simp only [upd]; repeat rw [if_neg (by omega)]) (fun t h1 h2 => by simp only [upd]; repeat rw [if_neg (by omega)]) (by unfold inner; rw [if_neg (by omega)])
  by_cases hkn : k < n
  case neg =>
    refine Wc_seq (Wc_draw_calm hcalm (Wo_run (fun call => by
      simp only [iops_nil, iops_op, iops_grd, iK_some, iG_true, iG_false, gval_bool, beq_true, beq_false, Bool.not_true, Bool.not_false, iop, ev, upd, dstUpd, h4, binV, binI, hk0, hkn, ge_iff_le, decide_true, decide_false, reduceIte, Nat.reduceEqDiff, Option.map_some, Bool.false_eq_true, beq_iff_eq]
      rfl) ⟨rfl, ?_⟩))
    show Wc T _ _ _
    refine Wc_cond false (by simp [ev, upd]) (fun h => by cases h) (fun _ => Wc_skip ?_)
    exact easy _ (fun t ht => by simp only [upd]; repeat rw [if_neg (by omega)]) (fun t h1 h2 => by simp only [upd]; repeat rw [if_neg (by omega)]) (by unfold inner; rw [if_neg (by omega)])
  obtain ⟨kk, rfl⟩ : ∃ kk : Nat, k = kk := ⟨k.toNat, by omega⟩
  have hkn' : kk < n := by omega
  obtain ⟨a, hDa⟩ : ∃ a, (depsN l n)[kk]? = some a := ⟨_, List.getElem?_eq_getElem (by omega)⟩
  have hAk : A[kk]? = some a := by rw [ha.low kk hkn', hDa]
  have hm := fold_pos (depsN l n) (ks.take j) 1
  have hin : inner (depsN l n) ((ks.take j).foldl (inner (depsN l n)) 1) (kk : Int) = max ((ks.take j).foldl (inner (depsN l n)) 1) (a + 1) := by
    unfold inner
    rw [if_pos (by omega)]
    simp [List.getD_eq_getElem?_getD, hDa]
  generalize (ks.take j).foldl (inner (depsN l n)) 1 = m at *
  have hkA : (natC A)[0 + kk * 1]? = some (.int .i64 a) := by rw [Nat.zero_add, Nat.mul_one]; exact natC_get hAk
  have hnA : (natC A)[0 + n * 1]? = some (.int .i64 ((m - 1 : Nat) : Int)) := by rw [Nat.zero_add, Nat.mul_one]; exact natC_get ha.at'
  have hset : (natC A).set (0 + n * 1) (.int .i64 a) = natC (A.set n a) := by rw [Nat.zero_add, Nat.mul_one]; exact natC_set A n a
  have hlen : 0 + n * 1 + 1 ≤ (natC A).length := by rw [natC_length, ha.len]; omega
  by_cases hgt : ((m - 1 : Nat) : Int) < (a : Int)
  · refine Wc_seq (Wc_draw_calm hcalm (Wo_run (fun call => by
      simp only [iops_nil, iops_op, iops_grd, iK_some, iG_true, iG_false, gval_bool, beq_true, beq_false, Bool.not_true, Bool.not_false, iop, ev, upd, dstUpd, h3, h4, slN, binV, binI, hk0, hkn, idx_ok (show kk < l.length + 1 by omega), idx_ok (show n < l.length + 1 by omega), ptr, Heap.cell, hA, hkA, hnA, hgt, gt_iff_lt, ge_iff_le, decide_true, decide_false, reduceIte, Nat.reduceEqDiff, Option.map_some, Bool.false_eq_true, beq_iff_eq]
      rfl) ⟨rfl, ?_⟩))
    show Wc T _ _ _
    refine Wc_cond true (by simp [ev, upd]) (fun _ => ?_) (fun h => by cases h)
    refine Wc_ops (Wo_run (fun call => by
      simp only [iops_nil, iops_op, iops_grd, iK_some, iop, ev, upd, dstUpd, h3, h4, slN, idx_ok (show kk < l.length + 1 by omega), idx_ok (show n < l.length + 1 by omega), ptr, Heap.cell, Heap.write, cellsOf, put, hA, hkA, hset, hlen, List.length_cons, List.length_nil, reduceIte, Nat.reduceEqDiff, Nat.reduceAdd, Option.map_some]
      rfl) ?_)
    refine last _ _ (A.set n a) (fun t ht => by simp only [upd]; repeat rw [if_neg (by omega)]) (fun t h1 h2 => by simp only [upd]; repeat rw [if_neg (by omega)]) (hk.set hbl _) rfl (set_get' _ _ _) ?_ (fun b hb => set_get_ne' _ _ hb)
    rw [hin]
    have he : max m (a + 1) = a + 1 := by omega
    rw [he]
    refine ⟨by simp [ha.len], fun t ht => ?_, ?_, fun t h1 h2 => ?_⟩
    · rw [List.getElem?_set_ne (by omega)]; exact ha.low t ht
    · rw [List.getElem?_set_self (by rw [ha.len]; omega)]; rfl
    · rw [List.getElem?_set_ne (by omega)]; exact ha.high t h1 h2
  · refine Wc_seq (Wc_draw_calm hcalm (Wo_run (fun call => by
      simp only [iops_nil, iops_op, iops_grd, iK_some, iG_true, iG_false, gval_bool, beq_true, beq_false, Bool.not_true, Bool.not_false, iop, ev, upd, dstUpd, h3, h4, slN, binV, binI, hk0, hkn, idx_ok (show kk < l.length + 1 by omega), idx_ok (show n < l.length + 1 by omega), ptr, Heap.cell, hA, hkA, hnA, hgt, gt_iff_lt, ge_iff_le, decide_true, decide_false, reduceIte, Nat.reduceEqDiff, Option.map_some, Bool.false_eq_true, beq_iff_eq]
      rfl) ⟨rfl, ?_⟩))
    show Wc T _ _ _
    refine Wc_cond false (by simp [ev, upd]) (fun h => by cases h) (fun _ => Wc_skip ?_)
    exact easy _ (fun t ht => by simp only [upd]; repeat rw [if_neg (by omega)]) (fun t h1 h2 => by simp only [upd]; repeat rw [if_neg (by omega)]) (by rw [hin]; omega)

end Go.Idl
