/- Texts of the proof. -/
import Derived.Test.YtbngfhkhdilfdaaGreatDoorFlex
import Derived.KernelRfl
import Derived.Test.YtbngfhkhdilfdaaGreatDoorI3g
set_option linter.unusedVariables false
set_option linter.unusedSimpArgs false
set_option maxRecDepth 100000
section
namespace Go.Idl
variable {T : Tbl}
def isL (c : Int) : Bool := decide (97 ≤ c) && decide (c ≤ 122) || decide (65 ≤ c) && decide (c ≤ 90) || decide (c = 95)
def isD (c : Int) : Bool := decide (48 ≤ c) && decide (c ≤ 57)
def figI (d c : Int) : Int := if 48 ≤ c ∧ c ≤ 57 then c - 48 else if 97 ≤ c ∧ c ≤ 102 then c - 87 else if 65 ≤ c ∧ c ≤ 70 then c - 55 else d
def wordsL : List ByteArray := [⟨#[114, 101, 99]⟩, ⟨#[102, 110]⟩, ⟨#[108, 101, 116]⟩, ⟨#[105, 102]⟩, ⟨#[101, 108, 115, 101]⟩, ⟨#[119, 104, 105, 108, 101]⟩, ⟨#[114, 101, 116, 117, 114, 110]⟩, ⟨#[111, 117, 116]⟩, ⟨#[115, 116, 111, 112]⟩, ⟨#[109, 101, 114, 103, 101]⟩, ⟨#[112, 114, 111, 109, 111, 116, 101]⟩, ⟨#[110, 101, 119]⟩, ⟨#[97, 114, 114]⟩, ⟨#[108, 101, 110]⟩, ⟨#[105, 110]⟩, ⟨#[105, 109, 103]⟩, ⟨#[115, 105, 122, 101]⟩, ⟨#[110, 117, 108, 108]⟩, ⟨#[114, 111, 111, 116]⟩]
theorem wrapU8 {x : Int} (h1 : 0 ≤ x) (h2 : x ≤ 255) : IntKind.u8.wrap x = x := by
 simp [IntKind.wrap, IntKind.signed, IntKind.bits]; omega
theorem wrapU64 {x : Int} (h1 : 0 ≤ x) (h2 : x ≤ 18446744073709551615) : IntKind.u64.wrap x = x := by
 simp [IntKind.wrap, IntKind.signed, IntKind.bits]; omega
end Go.Idl
end

section
namespace Go.Idl
variable {T : Tbl}
def bs (s : ByteArray) : List UInt8 := s.data.toList
theorem bs_size (s : ByteArray) : s.size = (bs s).length := (Array.length_toList).symm
theorem bs_inj {s t : ByteArray} (h : bs s = bs t) : s = t := by
 obtain ⟨⟨l⟩⟩ := s
 obtain ⟨⟨k⟩⟩ := t
 simp only [bs] at h
 rw [h]
theorem bs_extract (s : ByteArray) (a b : Nat) : bs (s.extract a b) = ((bs s).take b).drop a := by
 simp only [bs, ByteArray.data_extract, Array.toList_extract, List.extract_eq_take_drop]
 rw [List.drop_take]
theorem bs_at {s : ByteArray} {j : Nat} (h : j < s.size) : ∃ b, (bs s)[j]? = some b := ⟨_, List.getElem?_eq_getElem (by rw [← bs_size]; exact h)⟩
theorem u8_lt (b : UInt8) : 0 ≤ ((b.toNat : Nat) : Int) ∧ ((b.toNat : Nat) : Int) ≤ 255 := ⟨by omega, by have := b.toNat_lt; omega⟩
def wholeF (base : Int) : List UInt8 → Int → Option Int
 | [], n => some n
 | c :: r, n => if base ≤ figI 255 c.toNat then none else if (9223372036854775807 - figI 255 c.toNat) / base < n then none else wholeF base r (n * base + figI 255 c.toNat)
def wholeR (base : Int) (l : List UInt8) : Int × Bool := match wholeF base l 0 with
 | some n => (n, decide (l ≠ []))
 | none => (0, false)
def pre (base : Int) (l : List UInt8) (j : Nat) : Option Int := wholeF base (l.take j) 0
theorem wholeF_append (base : Int) : ∀ (a b : List UInt8) (n : Int), wholeF base (a ++ b) n = match wholeF base a n with | some m => wholeF base b m | none => none
 | [], b, n => rfl
 | c :: a, b, n => by
  simp only [List.cons_append, wholeF]
  split
  ·rfl
  ·split
   ·rfl
   ·exact wholeF_append base a b _
theorem pre_succ {base : Int} {l : List UInt8} {j : Nat} {c : UInt8} (h : l[j]? = some c) : pre base l (j + 1) = match pre base l j with | some m => wholeF base [c] m | none => none := by
 unfold pre
 rw [List.take_add_one, h, wholeF_append]; rfl
theorem whole_none {base : Int} {l : List UInt8} {j : Nat} (h : pre base l j = none) : wholeR base l = (0, false) := by
 unfold wholeR
 have := wholeF_append base (l.take j) (l.drop j) 0
 rw [List.take_append_drop] at this
 rw [this, show wholeF base (l.take j) 0 = none from h]
theorem whole_all {base : Int} {l : List UInt8} {n : Int} (h : pre base l l.length = some n) : wholeR base l = (n, decide (l ≠ [])) := by
 unfold wholeR
 unfold pre at h
 rw [List.take_length] at h
 rw [h]
theorem wholeF_range {base : Int} (hb : 0 < base) : ∀ {l : List UInt8} {n m : Int}, 0 ≤ n → n ≤ 9223372036854775807 → wholeF base l n = some m → 0 ≤ m ∧ m ≤ 9223372036854775807
 | [], n, m, h0, h1, h => by simp only [wholeF, Option.some.injEq] at h; omega
 | c :: l, n, m, h0, h1, h => by
  simp only [wholeF] at h
  split at h
  ·cases h
  ·split at h
   ·cases h
   ·rename_i a b
    have hf : 0 ≤ figI 255 c.toNat := by unfold figI; repeat' split; all_goals omega
    have hq : n ≤ (9223372036854775807 - figI 255 c.toNat) / base := by omega
    have := (Int.le_ediv_iff_mul_le hb).1 hq
    exact wholeF_range hb (by have := Int.mul_nonneg h0 (Int.le_of_lt hb); omega) (by omega) h
end Go.Idl
end

section
namespace Go.Idl
variable {T : Tbl}
theorem idx0 {k : IntKind} {n : Nat} (h : 0 < n) : idxV n (.int k 0) = some 0 := by simp [idxV, h]
theorem idx1 {k : IntKind} {n : Nat} (h : 1 < n) : idxV n (.int k 1) = some 1 := by simp [idxV]; omega
theorem idx2 {k : IntKind} {n : Nat} (h : 2 < n) : idxV n (.int k 2) = some 2 := by simp [idxV]; omega
def bt (l : List UInt8) (i : Nat) : Int := ((l.getD i 0).toNat : Nat)
theorem bt_at {l : List UInt8} {i : Nat} {b : UInt8} (h : l[i]? = some b) : bt l i = ((b.toNat : Nat) : Int) := by simp [bt, List.getD_eq_getElem?_getD, h]
theorem bt_no {l : List UInt8} {i : Nat} (h : l.length ≤ i) : bt l i = 0 := by simp [bt, List.getD_eq_getElem?_getD, List.getElem?_eq_none h]
def numR (l : List UInt8) : Int × Bool :=
 match bt l 0 == 39 with
 | true => match decide (l.length = 3) && (bt l 2 == 39) && decide (32 ≤ bt l 1) && decide (bt l 1 ≤ 126) with
  | true => (bt l 1, true)
  | false => (0, false)
 | false => match decide (1 < l.length) && (bt l 0 == 48) && (bt l 1 == 120) with
  | true => wholeR 16 (l.drop 2)
  | false => wholeR 10 l
def numV (s : ByteArray) : Value := .tuple #[.int .i64 (numR (bs s)).1, .bool (numR (bs s)).2]
end Go.Idl
end

section
namespace Go.Idl
variable {T : Tbl}
def wordB (s : ByteArray) : Bool := wordsL.any fun w => decide (s = w)
theorem wordB_of {s : ByteArray} (h : s ∈ wordsL) : wordB s = true := List.any_eq_true.2 ⟨s, h, decide_eq_true rfl⟩
theorem wordB_no {s : ByteArray} (h : ∀ x ∈ wordsL, s ≠ x) : wordB s = false := by
 cases hb : wordB s with
 | false => rfl
 | true =>
  obtain ⟨x, hx, he⟩ := List.any_eq_true.1 hb
  exact absurd (of_decide_eq_true he) (h x hx)
def nameC (l : List UInt8) : Bool := match l with
 | [] => true
 | c :: r => isL c.toNat && r.all fun c => isL c.toNat || isD c.toNat
def nameB (s : ByteArray) : Bool := nameC (bs s) && decide (bs s ≠ []) && !wordB s
end Go.Idl
end

section
namespace Go.Idl
variable {T : Tbl}
def clsL : List Int := [0, 0, 0, 0, 0, 0, 0, 0, 0, 1, 1, 0, 0, 1, 0, 0, 0, 0, 0, 0, 0, 0, 0, 0, 0, 0, 0, 0, 0, 0, 0, 0, 1, 4, 0, 0, 0, 4, 4, 5, 4, 4, 4, 4, 4, 4, 4, 4, 3, 3, 3, 3, 3, 3, 3, 3, 3, 3, 0, 4, 4, 4, 4, 0, 0, 2, 2, 2, 2, 2, 2, 2, 2, 2, 2, 2, 2, 2, 2, 2, 2, 2, 2, 2, 2, 2, 2, 2, 2, 2, 2, 4, 0, 4, 4, 2, 0, 2, 2, 2, 2, 2, 2, 2, 2, 2, 2, 2, 2, 2, 2, 2, 2, 2, 2, 2, 2, 2, 2, 2, 2, 2, 2, 4, 4, 4, 4, 0, 0, 0, 0, 0, 0, 0, 0, 0, 0, 0, 0, 0, 0, 0, 0, 0, 0, 0, 0, 0, 0, 0, 0, 0, 0, 0, 0, 0, 0, 0, 0, 0, 0, 0, 0, 0, 0, 0, 0, 0, 0, 0, 0, 0, 0, 0, 0, 0, 0, 0, 0, 0, 0, 0, 0, 0, 0, 0, 0, 0, 0, 0, 0, 0, 0, 0, 0, 0, 0, 0, 0, 0, 0, 0, 0, 0, 0, 0, 0, 0, 0, 0, 0, 0, 0, 0, 0, 0, 0, 0, 0, 0, 0, 0, 0, 0, 0, 0, 0, 0, 0, 0, 0, 0, 0, 0, 0, 0, 0, 0, 0, 0, 0, 0, 0, 0, 0, 0, 0, 0, 0, 0, 0, 0, 0, 0, 0, 0]
def clsC : List Value := clsL.map fun n => Value.int .i64 n
def clsV : Value := .agg clsC.toArray
def clsI (c : Nat) : Int := clsL.getD c 0
theorem cls_facts : ((List.range 256).all fun c => decide (clsI c = 2) == isL c && (decide (clsI c = 3) == isD c)) = true := by kernel_rfl
theorem cls2 {c : Nat} (h : c < 256) : decide (clsI c = 2) = isL c := by
 have := List.all_eq_true.1 cls_facts c (List.mem_range.2 h)
 simp only [Bool.and_eq_true, beq_iff_eq] at this
 exact this.1
theorem cls3 {c : Nat} (h : c < 256) : decide (clsI c = 3) = isD c := by
 have := List.all_eq_true.1 cls_facts c (List.mem_range.2 h)
 simp only [Bool.and_eq_true, beq_iff_eq] at this
 exact this.2
theorem clsL_len : clsL.length = 256 := by kernel_rfl
theorem clsC_at {c : Nat} (h : c < 256) : clsC[c]? = some (.int .i64 (clsI c)) := by
 simp only [clsC, List.getElem?_map, clsI, List.getD_eq_getElem?_getD]
 rw [List.getElem?_eq_getElem (by rw [clsL_len]; exact h)]
 rfl
def scnC (s : ByteArray) (at' : Nat) : List Value := .string s :: .int .i64 at' :: clsC
def clsAt (s : ByteArray) (j : Nat) : Int := match (bs s)[j]? with
 | some c => clsI c.toNat
 | none => 0
theorem peek_ok (hT : T.fn 51 = some C51) {s : ByteArray} {a k b : Nat} {o : Bool} {z : Nat} {h : Heap} (hg : h.get b = some (.cells (scnC s a) o z)) (hs : a + k < 9223372036854775807) :
 Wk T (.fn 51) [ptr b 0, .int .i64 k] h (fun o h' => h' = h ∧ o = .ret (.int .i64 (clsAt s (a + k)))) := by
 refine Wk_fn hT (by simp [C51]) ?_
 simp only [C51]
 have hw : IntKind.i64.wrap ((a : Int) + (k : Int)) = ((a + k : Nat) : Int) := by rw [wrap64] <;> omega
 refine Wc_seq (Wc_ops (Wo_run (fun _ => by simp only [go_sem, seval]; rfl) ?_))
 show Wc T _ _ _
 refine Wc_seq (Wc_seq (Wc_draw_calm (by decide) (Wo_run (fun _ => by simp only [iops_nil, iops_op, iK_some, iop, ev, upd, dstUpd, binV, binI, ptr, Heap.cell, args0, scnC, hg, hw, List.getD_cons_zero, List.getD_cons_succ, List.getElem?_cons_zero, List.getElem?_cons_succ, reduceIte, Nat.reduceEqDiff, Nat.reduceAdd, Nat.zero_add, Option.map_some, ge_iff_le]; rfl) ⟨rfl, ?_⟩)))
 show Wc T _ _ _
 by_cases hlt : a + k < s.size
 case neg =>
  refine Wc_cond true (by simp [ev, upd]; omega) (fun _ => ?_) nofun
  refine Wc_seq (Wc_ops (Wo_run (fun _ => by simp only [go_sem, seval]; rfl) ?_))
  refine Wc_ret ⟨.inr rfl, rfl, [.int .i64 0], by simp only [resAll, resV, upd, dstUpd, reduceIte, Nat.reduceEqDiff], rfl, ?_⟩
  rw [clsAt, List.getElem?_eq_none (by rw [← bs_size]; omega)]; rfl
 refine Wc_cond false (by simp [ev, upd]; omega) nofun (fun _ => Wc_skip ?_)
 obtain ⟨c, hc⟩ := bs_at hlt
 have hsc : s.data.toList[a + k]? = some c := hc
 have hc2 := u8_lt c
 have hi : idxV 256 (.int .u8 ((c.toNat : Nat) : Int)) = some c.toNat := by simp only [idxV, Int.toNat_natCast]; rw [if_pos (by omega)]
 have hcell : (scnC s a)[2 + c.toNat]? = some (.int .i64 (clsI c.toNat)) := by
  rw [scnC, show 2 + c.toNat = c.toNat + 1 + 1 by omega, List.getElem?_cons_succ, List.getElem?_cons_succ]; exact clsC_at (by omega)
 have hc0 : (scnC s a)[0]? = some (.string s) := rfl
 have hc1 : (scnC s a)[1]? = some (.int .i64 a) := rfl
 show Wc T _ _ _
 refine Wc_seq (Wc_draw_calm (by decide) (Wo_run (fun _ => by simp only [iops_nil, iops_op, iK_some, iop, ev, upd, dstUpd, binV, binI, ptr, Heap.cell, args0, hg, hc0, hc1, hcell, hw, idx_ok hlt, hi, hsc, List.getD_cons_zero, List.getD_cons_succ, reduceIte, Nat.reduceEqDiff, Nat.reduceAdd, Nat.zero_add, Nat.mul_one, Option.map_some]; rfl) ⟨rfl, ?_⟩))
 refine Wc_ret ⟨.inr rfl, rfl, [.int .i64 (clsI c.toNat)], by simp only [resAll, resV, upd, dstUpd, reduceIte, Nat.reduceEqDiff], rfl, ?_⟩
 rw [clsAt, hc]; rfl
def runN : List UInt8 → Nat
 | [] => 0
 | c :: r => if isL c.toNat || isD c.toNat then runN r + 1 else 0
def isLD (s : ByteArray) (j : Nat) : Bool := decide (clsAt s j = 2) || decide (clsAt s j = 3)
theorem isLD_of {s : ByteArray} {j : Nat} {c : UInt8} (h : (bs s)[j]? = some c) : isLD s j = (isL c.toNat || isD c.toNat) := by
 have := u8_lt c
 rw [isLD, clsAt, h]
 simp only
 rw [cls2 (by omega), cls3 (by omega)]
theorem isLD_no {s : ByteArray} {j : Nat} (h : (bs s).length ≤ j) : isLD s j = false := by
 rw [isLD, clsAt, List.getElem?_eq_none h]; rfl
theorem runN_le : ∀ l : List UInt8, runN l ≤ l.length
 | [] => Nat.le_refl _
 | c :: r => by
  have := runN_le r
  simp only [runN, List.length_cons]
  split <;> omega
theorem runN_step {s : ByteArray} {j : Nat} : runN ((bs s).drop j) = if isLD s j then runN ((bs s).drop (j + 1)) + 1 else 0 := by
 by_cases hj : j < (bs s).length
 ·have hc := List.getElem?_eq_getElem hj
  rw [isLD_of hc, List.drop_eq_getElem_cons hj]; rfl
 ·rw [isLD_no (by omega), List.drop_of_length_le (by omega)]; rfl
theorem goes_ok (hT : T.fn 52 = some C52) (hp : T.fn 51 = some C51) {s : ByteArray} {a b : Nat} {o : Bool} {z : Nat} {h : Heap} (hg : h.get b = some (.cells (scnC s a) o z)) (ha : a ≤ s.size) (hs : s.size < 4611686018427387904) :
 Wk T (.fn 52) [ptr b 0] h (fun o h' => h' = h ∧ o = .ret (.int .i64 ((runN ((bs s).drop a) : Nat) : Int))) := by
 refine Wk_fn hT (by simp [C52]) ?_
 simp only [C52]
 refine Wc_seq (Wc_ops (Wo_run (fun _ => by simp only [go_sem, seval]; rfl) ?_))
 show Wc T _ _ _
 refine Wc_seq (Wc_ops (Wo_run (fun _ => by simp only [go_sem, seval]; rfl) ?_))
 show Wc T _ _ _
 refine Wc_seq (Wc_seq (Wc_ops (Wo_pre 2 (fun _ => by simp only [go_sem, seval]; rfl) ?_)))
 refine Wo_call (Wk_pure (peek_ok (k := 0) hp hg (by omega)) ?_)
 refine (Wo_run (fun _ => by simp only [go_sem, seval]; rfl) ?_)
 show Wc T _ _ _
 refine Wc_block (Wc_loopF (fun e h' d => d = some [] ∧ h' = h ∧ ∃ k : Nat, a + k ≤ s.size ∧ e 3 = .int .i64 k ∧ e 4 = .int .i64 (clsAt s (a + k)) ∧ runN ((bs s).drop a) = k + runN ((bs s).drop (a + k))) (fun e _ => match e 3 with | .int _ k => (s.size - k).toNat | _ => 0) ?_ ?_)
 ·exact ⟨rfl, rfl, 0, ha, (by first | rfl | assumption), (by first | rfl | assumption), by rw [Nat.zero_add]; rfl⟩
 rintro e h' d ⟨rfl, hh, k, hk, h3, h4, hrun⟩ hfr
 rw [hh]
 have e0 : e 0 = ptr b 0 := ((hfr 0 (by decide)).trans (by first | rfl | assumption | (symm; assumption)))
 rw [C52L0]
 refine Wc_mid (fun s' => s'.d = some [] ∧ s'.h = h ∧ FrE [8, 9, 10, 11, 12, 13] e s'.e ∧ isLD s (a + k) = true) ?_ ?_
 ·refine Wc_fr (Wc_seq ?_)
  have ex : isLD s (a + k) = false → ∀ e' : Env, e' 13 = .bool false → e' 3 = .int .i64 k → Wc T (.cond (.t 13) .skip (.exit 0)) ⟨e', h, some []⟩ (fun x s' => FrE (mods (.seq (.ops [⟨(some 8), .op (.mov (.t 4)), none⟩, ⟨(some 9), .op (.bin .eql (.t 8) (.c (.int .i64 2))), none⟩, ⟨(some 10), .op (.mov (.t 9)), none⟩, ⟨(some 11), .op (.mov (.t 4)), (some (10, false))⟩, ⟨(some 12), .op (.bin .eql (.t 11) (.c (.int .i64 3))), (some (10, false))⟩, ⟨(some 13), .op (.pick (.t 10) (.c (.bool true)) (.t 12)), none⟩]) (.cond (.t 13) .skip (.exit 0)))) e s'.e → match x with
   | .normal => s'.d = some [] ∧ s'.h = h ∧ FrE [8, 9, 10, 11, 12, 13] e s'.e ∧ isLD s (a + k) = true
   | x => (match x with
    | .normal => (s'.d = some [] ∧ s'.h = h ∧ ∃ k : Nat, a + k ≤ s.size ∧ s'.e 3 = .int .i64 k ∧ s'.e 4 = .int .i64 (clsAt s (a + k)) ∧ runN ((bs s).drop a) = k + runN ((bs s).drop (a + k))) ∧ (match s'.e 3 with | .int _ k => (s.size - k).toNat | _ => 0) < (match e 3 with | .int _ k => (s.size - k).toNat | _ => 0)
    | x => Tb 0 (Tn T (.seq (.ops [⟨(some 19), .op (.mov (.t 3)), none⟩, ⟨(some 2), .op (.mov (.t 19)), none⟩]) .ret) fun x s_1 => (x = .normal ∨ x = .ret) ∧ s_1.d = some [] ∧ ∃ vs, resAll s_1.e s_1.h [.tmp 2] = some vs ∧ s_1.h = h ∧ Out.ret (tup vs) = .ret (.int .i64 ((runN ((bs s).drop a) : Nat) : Int))) x s')) := by
   intro hno e' h13 h3'
   refine Wc_cond false h13 nofun (fun _ => Wc_exit fun _ => ?_)
   show Wc T _ _ _
   refine Wc_seq (Wc_ops (Wo_run (fun _ => by simp only [go_sem, seval, h3']; rfl) ?_))
   refine Wc_ret ⟨.inr rfl, rfl, [.int .i64 k], by simp only [resAll, resV, upd, dstUpd, reduceIte, Nat.reduceEqDiff], rfl, ?_⟩
   rw [hrun, runN_step (j := a + k), hno]; rfl
  cases y2 : (clsAt s (a + k) == 2)
  ·cases y3 : (clsAt s (a + k) == 3)
   ·refine Wc_ops (Wo_run (fun _ => by simp only [go_sem, seval, h4, y2, y3]; rfl) ?_)
    exact ex (by rw [isLD, ← Bool.beq_eq_decide_eq, ← Bool.beq_eq_decide_eq, y2, y3]; rfl) _ (by first | rfl | assumption) (by simp only [go_sem, seval, h3] <;> first | rfl | assumption | (symm; assumption))
   ·refine Wc_ops (Wo_run (fun _ => by simp only [go_sem, seval, h4, y2, y3]; rfl) ?_)
    refine Wc_cond true (by first | rfl | assumption) (fun _ => Wc_skip fun hf => ⟨rfl, rfl, hf, ?_⟩) nofun
    rw [isLD, decide_eq_true (beq_iff_eq.1 y3), Bool.or_true]
  ·refine Wc_ops (Wo_run (fun _ => by simp only [go_sem, seval, h4, y2]; rfl) ?_)
   refine Wc_cond true (by first | rfl | assumption) (fun _ => Wc_skip fun hf => ⟨rfl, rfl, hf, ?_⟩) nofun
   rw [isLD, decide_eq_true (beq_iff_eq.1 y2), Bool.true_or]
 rintro ⟨e', h'', d'⟩ ⟨hd', hh', hf, hy⟩
 simp only at hd' hh' hf
 rw [hd', hh']
 have g3 : e' 3 = .int .i64 k := by rw [hf 3 (by decide)]; exact h3
 have g0 : e' 0 = ptr b 0 := by rw [hf 0 (by decide)]; exact e0
 have hlt : a + k < (bs s).length := by
  rcases Nat.lt_or_ge (a + k) (bs s).length with h | h
  ·exact h
  ·rw [isLD_no h] at hy; cases hy
 rw [← bs_size] at hlt
 have e1 : IntKind.i64.wrap ((k : Int) + 1) = ((k + 1 : Nat) : Int) := by rw [wrap64] <;> omega
 refine Wc_seq (Wc_block (Wc_ops (Wo_run (fun _ => by simp only [go_sem, seval, g3, e1]; rfl) ?_)))
 show Wc T _ _ _
 refine Wc_ops (Wo_pre 2 (fun _ => by simp only [go_sem, seval, g0]; rfl) ?_)
 refine Wo_call (Wk_pure (peek_ok (k := k + 1) hp hg (by omega)) ?_)
 refine (Wo_run (fun _ => by simp only [go_sem, seval]; rfl) ?_)
 refine ⟨⟨rfl, rfl, k + 1, by omega, (by first | rfl | assumption), (by first | rfl | assumption), ?_⟩, ?_⟩
 ·rw [hrun, runN_step (j := a + k), hy, if_pos rfl]; rw [show a + (k + 1) = a + k + 1 by omega]; omega
 ·simp only [upd, dstUpd, reduceIte, Nat.reduceEqDiff, h3]
  exact (Int.toNat_lt_toNat (by omega)).2 (by omega)
end Go.Idl
end

section
namespace Go.Idl
variable {T : Tbl}
theorem reserved_ok (hT : T.fn 62 = some C62) {h : Heap} : Wk T (.fn 62) [] h (fun o h' => Kept h h' ∧ o = .ret (.agg (wordsL.map Value.string).toArray)) := by
 refine Wk_fn hT (by simp [C62]) ?_
 simp only [C62]
 refine Wc_seq (Wc_ops (Wo_op (by rfl) (Wo_nil ?_)))
 show Wc T _ _ _
 refine Wc_seq (Wc_ops (Wo_op (v := .agg (wordsL.map Value.string).toArray) (h' := h.new (.cells (List.replicate 19 (.string ⟨#[]⟩)) true 0)) (by kernel_rfl) ?_))
 refine Wo_store_new (cs := wordsL.map Value.string) (h := h) (by first | rfl | assumption) (by first | rfl | assumption) rfl rfl fun h1 n1 => Wo_nil ?_
 show Wc T _ _ _
 refine Wc_ret ⟨.inr rfl, rfl, [.agg (wordsL.map Value.string).toArray], ?_, n1.kept, rfl⟩
 have hc : h1.cells h.next 0 19 = some (wordsL.map Value.string) := cells_all n1.get rfl
 simp only [resAll, resV, upd, dstUpd, reduceIte, Nat.reduceEqDiff, ptr, hc, Option.map_some]
theorem wordS_ok (hT : T.fn 53 = some C53) (hr : T.fn 62 = some C62) {s : ByteArray} {h : Heap} : Wk T (.fn 53) [.string s] h (fun o h' => Kept h h' ∧ o = .ret (.bool (wordB s))) := by
 refine Wk_fn hT (by simp [C53]) ?_
 simp only [C53]
 refine Wc_seq (Wc_ops (Wo_run (fun _ => by simp only [go_sem, seval]; rfl) ?_))
 show Wc T _ _ _
 refine Wc_seq (Wc_seq (Wc_ops (Wo_call (Wk_kept (reserved_ok hr) fun h1 k1 => ?_))))
 generalize hA : (wordsL.map Value.string).toArray = A
 refine (Wo_run (fun _ => by simp only [go_sem, seval]; rfl) ?_)
 show Wc T _ _ _
 refine Wc_rangeG (n := .c (.int .i64 19)) 19 (fun j e h' d => d = some [] ∧ h' = h1 ∧ ∀ i, i < j → ∀ x, wordsL[i]? = some x → s ≠ x) (by decide) (by first | rfl | assumption) (fun _ _ => rfl) (by decide) (by decide) ⟨rfl, rfl, fun i hi => by omega⟩ ?_ ?_
 ·rintro j e h' d hj ⟨rfl, hh, hne⟩ hfr h6
  rw [hh]
  obtain ⟨x, hx⟩ : ∃ x, wordsL[j]? = some x := ⟨_, List.getElem?_eq_getElem (by rw [show wordsL.length = 19 from rfl]; exact hj)⟩
  have e5 : e 5 = .agg A := ((hfr 5 (by decide)).trans (by first | rfl | assumption | (symm; assumption)))
  have e0 : e 0 = .string s := ((hfr 0 (by decide)).trans (by first | rfl | assumption | (symm; assumption)))
  have hcell : A.toList[j * 1]? = some (.string x) := by rw [← hA, Nat.mul_one]; simp only [List.toList_toArray, List.getElem?_map, hx, Option.map_some]
  refine Wc_seq (Wc_ops (Wo_run (fun _ => by simp only [go_sem, seval, h6, e5, idx_ok hj, hcell]; rfl) ?_))
  show Wc T _ _ _
  refine Wc_seq (Wc_ops (Wo_run (fun _ => by simp only [go_sem, seval, e0]; rfl) ?_))
  show Wc T _ _ _
  refine Wc_cond (decide (x = s)) (by first | rfl | assumption) (fun hd => ?_) (fun hd => Wc_skip ?_)
  ·have hsx : x = s := by simpa using hd
   refine Wc_seq (Wc_ops (Wo_run (fun _ => by simp only [go_sem, seval]; rfl) ?_))
   exact Wc_ret ⟨.inr rfl, rfl, [.bool true], by simp only [resAll, resV, upd, dstUpd, reduceIte, Nat.reduceEqDiff], k1, by rw [wordB_of (by rw [← hsx]; exact List.mem_of_getElem? hx)]; rfl⟩
  ·refine ⟨rfl, rfl, fun i hi y hy => ?_⟩
   rcases Nat.lt_or_eq_of_le (Nat.le_of_lt_succ hi) with h1 | h1
   ·exact hne i h1 y hy
   ·subst h1; rw [hx] at hy; cases hy; exact fun e => by rw [e] at hd; simp at hd
 ·rintro e h' d ⟨rfl, hh, hne⟩ hfr h6
  rw [hh]
  show Wc T _ _ _
  refine Wc_seq (Wc_ops (Wo_run (fun _ => by simp only [go_sem, seval]; rfl) ?_))
  refine Wc_ret ⟨.inr rfl, rfl, [.bool false], by simp only [resAll, resV, upd, dstUpd, reduceIte, Nat.reduceEqDiff], k1, ?_⟩
  have : wordB s = false := wordB_no fun x hm => by
   obtain ⟨i, hi⟩ := List.getElem?_of_mem hm
   exact hne i (List.getElem?_eq_some_iff.1 hi).1 x hi
  rw [this]; rfl
theorem runN_all : ∀ {l : List UInt8}, (runN l = l.length ↔ ∀ c ∈ l, (isL c.toNat || isD c.toNat) = true)
 | [] => by simp [runN]
 | c :: r => by
  have ih := runN_all (l := r)
  have hle := runN_le r
  simp only [runN, List.length_cons, List.forall_mem_cons]
  split
  ·rename_i hc
   constructor
   ·intro h; exact ⟨hc, ih.1 (by omega)⟩
   ·intro h; have := ih.2 h.2; omega
  ·rename_i hc
   constructor
   ·intro h; omega
   ·intro h; exact absurd h.1 hc
theorem name_eq {l : List UInt8} {c : UInt8} (h0 : l[0]? = some c) : (isL c.toNat && decide (runN l = l.length)) = (nameC l && decide (l ≠ [])) := by
 cases l with
 | nil => simp at h0
 | cons x r =>
  simp at h0
  subst h0
  rw [decide_eq_true (List.cons_ne_nil x r), Bool.and_true, nameC]
  cases hL : isL x.toNat with
  | false => rfl
  | true =>
   rw [Bool.true_and, Bool.true_and]
   cases ha : (r.all fun c => isL c.toNat || isD c.toNat) with
   | true =>
    refine decide_eq_true (runN_all.2 fun c hc => ?_)
    rcases List.mem_cons.1 hc with rfl | hc
    ·rw [hL]; rfl
    ·exact List.all_eq_true.1 ha c hc
   | false =>
    refine decide_eq_false fun h => ?_
    have := runN_all.1 h
    rw [List.all_eq_true.2 fun c hc => this c (List.mem_cons_of_mem _ hc)] at ha
    cases ha
theorem build_scn (s : ByteArray) : fillL (.string ⟨#[]⟩ :: List.replicate 257 (.int .i64 0)) [(0, 1, .string s), (2, 256, clsV)] = some (scnC s 0) := by kernel_rfl
theorem nameS_ok (hT : T.fn 38 = some C38) (hc : ∀ (h : Heap) (K : Out → Heap → Prop), K (.ret clsV) h → Wk T (.fn 30) [] h K) (hp : T.fn 51 = some C51) (hg : T.fn 52 = some C52) (hw : T.fn 53 = some C53) (hr : T.fn 62 = some C62)
 {s : ByteArray} {h : Heap} (hs : s.size < 4611686018427387904) : Wk T (.fn 38) [.string s] h (fun o h' => Kept h h' ∧ o = .ret (.bool (nameB s))) := by
 refine Wk_fn hT (by simp [C38]) ?_
 simp only [C38]
 refine Wc_seq (Wc_ops (Wo_run (fun _ => by simp only [go_sem, seval]; rfl) ?_))
 show Wc T _ _ _
 refine Wc_seq (Wc_ops (Wo_pre 1 (fun _ => by simp only [go_sem, seval]; rfl) ?_))
 refine Wo_call (hc _ _ ?_)
 show Wo T _ _ _
 refine Wo_op (v := .agg (scnC s 0).toArray) (h' := h) ?_ ?_
 ·have := build_scn s
  simp only [iop, evps, List.map_cons, List.map_nil, ev, upd, dstUpd, args0, List.getD_cons_zero, reduceIte, Nat.reduceEqDiff]
  exact congrArg (Option.map fun cs : List Value => (Value.agg cs.toArray, h)) this
 generalize hA : (scnC s 0).toArray = A
 refine Wo_box (cs := scnC s 0) (by simp only [upd, dstUpd, reduceIte, Nat.reduceEqDiff, ev, cellsOf]; rw [← hA]) fun h1 n1 => ?_
 refine (Wo_run (fun _ => by simp only [go_sem, seval]; rfl) ?_)
 show Wc T _ _ _
 refine Wc_seq (Wc_ops (Wo_pre 1 (fun _ => by simp only [go_sem, seval]; rfl) ?_))
 refine Wo_call (Wk_pure (peek_ok (k := 0) (a := 0) hp n1.get (by decide)) ?_)
 have yes : ∀ (e : Env) (h2 : Heap) (b : Bool), Kept h1 h2 → e 2 = .bool b → nameB s = b → (Ex.ret = .normal ∨ Ex.ret = .ret) ∧ some ([] : List Dfr) = some [] ∧ ∃ vs, resAll e h2 [.tmp 2] = some vs ∧ Kept h h2 ∧ Out.ret (tup vs) = .ret (.bool (nameB s)) := fun e h2 b hk he hb =>
  ⟨.inr rfl, rfl, [.bool b], by simp only [resAll, resV, he], n1.kept.trans hk, by rw [hb]; rfl⟩
 by_cases h0 : 0 < s.size
 case neg =>
  have hz : clsAt s (0 + 0) = 0 := by rw [clsAt, List.getElem?_eq_none (by rw [← bs_size]; omega)]
  refine (Wo_run (fun _ => by simp only [go_sem, seval, hz]; rfl) ?_)
  refine Wc_ret (yes _ _ false (.refl _) (by first | rfl | assumption) ?_)
  have hn : bs s = [] := List.eq_nil_of_length_eq_zero (by rw [← bs_size]; omega)
  simp only [nameB, hn, ne_eq, not_true_eq_false, decide_false, Bool.and_false, Bool.false_and]
 obtain ⟨c, hc0⟩ := bs_at h0
 have hc2 := u8_lt c
 have hcl : clsAt s (0 + 0) = clsI c.toNat := by rw [clsAt, hc0]
 have hne := name_eq hc0
 have hL := cls2 (c := c.toNat) (by omega)
 cases y : (clsI c.toNat == 2)
 ·refine (Wo_run (fun _ => by simp only [go_sem, seval, hcl, y]; rfl) ?_)
  refine Wc_ret (yes _ _ false (.refl _) (by first | rfl | assumption) ?_)
  have : isL c.toNat = false := by rw [← hL, ← Bool.beq_eq_decide_eq, y]
  rw [this, Bool.false_and] at hne
  rw [nameB, ← hne, Bool.false_and]
 have hLt : isL c.toNat = true := by rw [← hL, ← Bool.beq_eq_decide_eq, y]
 rw [hLt, Bool.true_and] at hne
 refine (Wo_pre 3 (fun _ => by simp only [go_sem, seval, hcl, y]; rfl) ?_)
 refine Wo_take (by simp only [upd, dstUpd, reduceIte, Nat.reduceEqDiff, gval_bool]; rfl) (Wo_call (Wk_pure (goes_ok (a := 0) hg hp n1.get (Nat.zero_le _) hs) ?_))
 rw [List.drop_zero]
 cases y2 : (((runN (bs s) : Nat) : Int) == ((s.size : Nat) : Int))
 ·refine (Wo_run (fun _ => by simp only [go_sem, seval, y2]; rfl) ?_)
  refine Wc_ret (yes _ _ false (.refl _) (by first | rfl | assumption) ?_)
  have : ¬ runN (bs s) = (bs s).length := fun e => by rw [e, ← bs_size, beq_self_eq_true] at y2; cases y2
  rw [decide_eq_false this] at hne
  rw [nameB, ← hne, Bool.false_and]
 refine (Wo_pre 6 (fun _ => by simp only [go_sem, seval, y2]; rfl) ?_)
 refine Wo_take (by simp only [upd, dstUpd, reduceIte, Nat.reduceEqDiff, gval_bool]; rfl) (Wo_call (Wk_kept (wordS_ok hw hr) fun h2 k2 => ?_))
 refine (Wo_run (fun _ => by simp only [go_sem, seval]; rfl) ?_)
 refine Wc_ret (yes _ _ (!wordB s) k2 (by first | rfl | assumption) ?_)
 have : runN (bs s) = (bs s).length := by have := beq_iff_eq.1 y2; rw [← bs_size]; omega
 rw [decide_eq_true this] at hne
 rw [nameB, ← hne, Bool.true_and]
end Go.Idl
end

section
namespace Go.Idl
variable {T : Tbl}
theorem worth_ok (hT : T.fn 58 = some C58) {c base : Int} {h : Heap} (h0 : 0 ≤ c) (h1 : c ≤ 255) : Wk T (.fn 58) [.int .u8 c, .int .u64 base] h (fun o h' => h' = h ∧ o = .ret (.tuple #[.int .u64 (figI 255 c), .bool (decide (figI 255 c < base))])) := by
 refine Wk_fn hT (by simp [C58]) ?_
 simp only [C58]
 refine Wc_seq (Wc_ops (Wo_run (fun _ => by simp only [go_sem, seval]; rfl) ?_))
 show Wc T _ _ _
 refine Wc_seq (Wc_ops (Wo_run (fun _ => by simp only [go_sem, seval]; rfl) ?_))
 show Wc T _ _ _
 refine Wc_mid (fun s' => s'.d = some [] ∧ s'.h = h ∧ s'.e 6 = .int .u64 (figI 255 c) ∧ s'.e 1 = .int .u64 base) (Wc_block ?_) ?_
 ·refine Wc_mid (fun s' => s'.d = some [] ∧ s'.h = h ∧ s'.e 6 = .int .u64 255 ∧ s'.e 1 = .int .u64 base ∧ s'.e 0 = .int .u8 c ∧ s'.e 7 = .bool (decide (48 ≤ c ∧ c ≤ 57))) ?_ ?_
  ·by_cases x1 : (48 : Int) ≤ c <;> by_cases x2 : c ≤ 57 <;> first
    | (exfalso; omega)
    | (refine Wc_ops (Wo_run (fun _ => by simp only [go_sem, seval, x1, x2]; rfl) ?_); exact ⟨rfl, rfl, (by first | rfl | assumption), (by first | rfl | assumption), (by first | rfl | assumption), (by simp only [go_sem, seval, x1, x2, and_self, and_true, and_false, decide_true, decide_false] <;> first | rfl | assumption | (symm; assumption))⟩)
  rintro ⟨e, h', d⟩ ⟨hd, hh, e6, e1, e0, e7⟩
  simp only at hd hh e6 e1 e0 e7
  rw [hd, hh]
  refine Wc_cond _ e7 (fun x => ?_) (fun x => ?_)
  ·have d1 : (48 : Int) ≤ c ∧ c ≤ 57 := by simpa using x
   refine Wc_ops (Wo_run (fun _ => by simp only [go_sem, seval, e0, wrapU8 (show (0 : Int) ≤ c - 48 by omega) (show c - 48 ≤ 255 by omega), wrapU64 (show (0 : Int) ≤ c - 48 by omega) (show c - 48 ≤ 18446744073709551615 by omega)]; rfl) ?_)
   exact ⟨rfl, rfl, by simp only [upd, dstUpd, reduceIte, Nat.reduceEqDiff, figI, if_pos d1], (by simp only [go_sem, seval, e1] <;> first | rfl | assumption | (symm; assumption))⟩
  have d1 : ¬ ((48 : Int) ≤ c ∧ c ≤ 57) := by simpa using x
  refine Wc_mid (fun s' => s'.d = some [] ∧ s'.h = h ∧ s'.e 6 = .int .u64 255 ∧ s'.e 1 = .int .u64 base ∧ s'.e 0 = .int .u8 c ∧ s'.e 17 = .bool (decide (97 ≤ c ∧ c ≤ 102))) ?_ ?_
  ·by_cases x1 : (97 : Int) ≤ c <;> by_cases x2 : c ≤ 102 <;> first
    | (exfalso; omega)
    | (refine Wc_ops (Wo_run (fun _ => by simp only [go_sem, seval, e0, x1, x2]; rfl) ?_); exact ⟨rfl, rfl, (by simp only [go_sem, seval, e6] <;> first | rfl | assumption | (symm; assumption)), (by simp only [go_sem, seval, e1] <;> first | rfl | assumption | (symm; assumption)), (by simp only [go_sem, seval, e0] <;> first | rfl | assumption | (symm; assumption)), (by simp only [go_sem, seval, x1, x2, and_self, and_true, and_false, decide_true, decide_false] <;> first | rfl | assumption | (symm; assumption))⟩)
  rintro ⟨e, h', d⟩ ⟨hd, hh, e6, e1, e0, e17⟩
  simp only at hd hh e6 e1 e0 e17
  rw [hd, hh]
  refine Wc_cond _ e17 (fun x => ?_) (fun x => ?_)
  ·have d2 : (97 : Int) ≤ c ∧ c ≤ 102 := by simpa using x
   refine Wc_ops (Wo_run (fun _ => by simp only [go_sem, seval, e0, wrapU8 (show (0 : Int) ≤ c - 97 by omega) (show c - 97 ≤ 255 by omega), wrapU64 (show (0 : Int) ≤ c - 97 by omega) (show c - 97 ≤ 18446744073709551615 by omega), wrapU64 (show (0 : Int) ≤ c - 97 + 10 by omega) (show c - 97 + 10 ≤ 18446744073709551615 by omega)]; rfl) ?_)
   exact ⟨rfl, rfl, by simp only [upd, dstUpd, reduceIte, Nat.reduceEqDiff, figI, if_neg d1, if_pos d2]; congr 1; omega, (by simp only [go_sem, seval, e1] <;> first | rfl | assumption | (symm; assumption))⟩
  have d2 : ¬ ((97 : Int) ≤ c ∧ c ≤ 102) := by simpa using x
  refine Wc_mid (fun s' => s'.d = some [] ∧ s'.h = h ∧ s'.e 6 = .int .u64 255 ∧ s'.e 1 = .int .u64 base ∧ s'.e 0 = .int .u8 c ∧ s'.e 28 = .bool (decide (65 ≤ c ∧ c ≤ 70))) ?_ ?_
  ·by_cases x1 : (65 : Int) ≤ c <;> by_cases x2 : c ≤ 70 <;> first
    | (exfalso; omega)
    | (refine Wc_ops (Wo_run (fun _ => by simp only [go_sem, seval, e0, x1, x2]; rfl) ?_); exact ⟨rfl, rfl, (by simp only [go_sem, seval, e6] <;> first | rfl | assumption | (symm; assumption)), (by simp only [go_sem, seval, e1] <;> first | rfl | assumption | (symm; assumption)), (by simp only [go_sem, seval, e0] <;> first | rfl | assumption | (symm; assumption)), (by simp only [go_sem, seval, x1, x2, and_self, and_true, and_false, decide_true, decide_false] <;> first | rfl | assumption | (symm; assumption))⟩)
  rintro ⟨e, h', d⟩ ⟨hd, hh, e6, e1, e0, e28⟩
  simp only at hd hh e6 e1 e0 e28
  rw [hd, hh]
  refine Wc_cond _ e28 (fun x => ?_) (fun x => Wc_skip ?_)
  ·have d3 : (65 : Int) ≤ c ∧ c ≤ 70 := by simpa using x
   refine Wc_ops (Wo_run (fun _ => by simp only [go_sem, seval, e0, wrapU8 (show (0 : Int) ≤ c - 65 by omega) (show c - 65 ≤ 255 by omega), wrapU64 (show (0 : Int) ≤ c - 65 by omega) (show c - 65 ≤ 18446744073709551615 by omega), wrapU64 (show (0 : Int) ≤ c - 65 + 10 by omega) (show c - 65 + 10 ≤ 18446744073709551615 by omega)]; rfl) ?_)
   exact ⟨rfl, rfl, by simp only [upd, dstUpd, reduceIte, Nat.reduceEqDiff, figI, if_neg d1, if_neg d2, if_pos d3]; congr 1; omega, (by simp only [go_sem, seval, e1] <;> first | rfl | assumption | (symm; assumption))⟩
  have d3 : ¬ ((65 : Int) ≤ c ∧ c ≤ 70) := by simpa using x
  exact ⟨rfl, rfl, by show e 6 = _; rw [e6, figI, if_neg d1, if_neg d2, if_neg d3], e1⟩
 rintro ⟨e, h', d⟩ ⟨hd, hh, e6, e1⟩
 simp only at hd hh e6 e1
 rw [hd, hh]
 refine Wc_seq (Wc_ops (Wo_run (fun _ => by simp only [go_sem, seval, e6, e1]; rfl) ?_))
 exact Wc_ret ⟨.inr rfl, rfl, [.int .u64 (figI 255 c), .bool (decide (figI 255 c < base))], by simp only [resAll, resV, upd, dstUpd, reduceIte, Nat.reduceEqDiff], rfl, rfl⟩
theorem whole_quote {l : List UInt8} {base : Int} (hb : base ≤ 16) (h : bt l 0 = 39) : wholeR base l = (0, false) := by
 cases l with
 | nil => simp [bt] at h
 | cons c r =>
  have hc : ((c.toNat : Nat) : Int) = 39 := by simpa [bt] using h
  have hf : figI 255 ((c.toNat : Nat) : Int) = 255 := by rw [hc]; rfl
  rw [wholeR, wholeF, hf, if_pos (by omega)]
theorem whole_x {l : List UInt8} (h0 : bt l 0 = 48) (h1 : bt l 1 = 120) (h2 : l.length = 2) : wholeR 10 l = (0, false) := by
 match l, h2 with
 | [a, b], _ =>
  have ha : ((a.toNat : Nat) : Int) = 48 := by simpa [bt] using h0
  have hb : ((b.toNat : Nat) : Int) = 120 := by simpa [bt] using h1
  have fa : figI 255 ((a.toNat : Nat) : Int) = 0 := by rw [ha]; rfl
  have fb : figI 255 ((b.toNat : Nat) : Int) = 255 := by rw [hb]; rfl
  simp only [wholeR, wholeF, fa, fb]
  rfl
def hexP (l : List UInt8) : Bool := decide (2 < l.length) && (bt l 0 == 48) && (bt l 1 == 120)
def quoP (l : List UInt8) : Bool := decide (l.length = 3) && (bt l 0 == 39) && (bt l 2 == 39) && decide (32 ≤ bt l 1) && decide (bt l 1 ≤ 126)
theorem numR_eq (l : List UInt8) : numR l = match quoP l with
 | true => (bt l 1, true)
 | false => match hexP l with
  | true => wholeR 16 (l.drop 2)
  | false => wholeR 10 l := by
 cases h0 : bt l 0 == 39 with
 | true =>
  have hq : quoP l = (decide (l.length = 3) && (bt l 2 == 39) && decide (32 ≤ bt l 1) && decide (bt l 1 ≤ 126)) := by rw [quoP, h0, Bool.and_true]
  rw [hq]
  cases hx : (decide (l.length = 3) && (bt l 2 == 39) && decide (32 ≤ bt l 1) && decide (bt l 1 ≤ 126)) with
  | true => simp only [numR, h0, hx]
  | false =>
   simp only [numR, h0, hx]
   have h39 := beq_iff_eq.1 h0
   have : hexP l = false := by rw [hexP, show (bt l 0 == 48) = false by rw [h39]; rfl, Bool.and_false]; rfl
   rw [this]
   exact (whole_quote (by decide) h39).symm
 | false =>
  have hq : quoP l = false := by rw [quoP, h0, Bool.and_false]; rfl
  rw [hq]
  simp only [numR, h0]
  cases hx : hexP l with
  | true =>
   simp only [hexP, Bool.and_eq_true, decide_eq_true_eq] at hx
   have : (decide (1 < l.length) && (bt l 0 == 48) && (bt l 1 == 120)) = true := by rw [decide_eq_true (by omega), hx.1.2, hx.2]; rfl
   rw [this]
  | false =>
   cases hy : (decide (1 < l.length) && (bt l 0 == 48) && (bt l 1 == 120)) with
   | false => rfl
   | true =>
    simp only [Bool.and_eq_true, decide_eq_true_eq] at hy
    have h2 : l.length = 2 := by
     rcases Nat.lt_or_ge 2 l.length with h | h
     ·rw [hexP, decide_eq_true h, hy.1.2, hy.2] at hx; cases hx
     ·omega
    have h20 := List.drop_of_length_le (l := l) (i := 2) (by omega)
    simp only [h20]
    rw [whole_x (beq_iff_eq.1 hy.1.2) (beq_iff_eq.1 hy.2) h2]; rfl
theorem numberS_ok (hT : T.fn 39 = some C39) (hw : T.fn 58 = some C58) {s : ByteArray} {h : Heap} (hs : s.size < 9223372036854775807) :
 Wk T (.fn 39) [.string s] h (fun o h' => h' = h ∧ o = .ret (numV s)) := by
 refine Wk_fn hT (by simp [C39]) ?_
 simp only [C39]
 have fin : ∀ (e : Env) (n : Int) (b : Bool), e 2 = .int .i64 n → e 3 = .bool b → numR (bs s) = (n, b) → (Ex.ret = .normal ∨ Ex.ret = .ret) ∧ some ([] : List Dfr) = some [] ∧ ∃ vs, resAll e h [.tmp 2, .tmp 3] = some vs ∧ h = h ∧ Out.ret (tup vs) = .ret (numV s) := fun e n b h2 h3 hn =>
  ⟨.inr rfl, rfl, [.int .i64 n, .bool b], by simp only [resAll, resV, h2, h3], rfl, by rw [numV, hn]; rfl⟩
 refine Wc_seq (Wc_ops (Wo_run (fun _ => by simp only [go_sem, seval]; rfl) ?_))
 show Wc T _ _ _
 have hlen : (bs s).length = s.size := (bs_size s).symm
 have hnum := numR_eq (bs s)
 refine Wc_mid (fun s' => s'.d = some [] ∧ s'.h = h ∧ s'.e 0 = .string s ∧ quoP (bs s) = false) ?_ ?_
 ·refine Wc_mid (fun s' => s'.d = some [] ∧ s'.h = h ∧ s'.e 0 = .string s ∧ s'.e 31 = .bool (quoP (bs s))) ?_ ?_
  ·cases y : (((s.size : Nat) : Int) == 3)
   ·refine Wc_ops (Wo_run (fun _ => by simp only [go_sem, seval, y]; rfl) ?_)
    have : ¬ (bs s).length = 3 := by rw [hlen]; intro e; rw [e] at y; cases y
    exact ⟨rfl, rfl, (by first | rfl | assumption), by simp only [upd, dstUpd, reduceIte, Nat.reduceEqDiff]; rw [quoP, decide_eq_false this]; rfl⟩
   have h3 : s.size = 3 := by have := beq_iff_eq.1 y; omega
   obtain ⟨c0, hc0⟩ := bs_at (s := s) (j := 0) (by omega)
   obtain ⟨c1, hc1⟩ := bs_at (s := s) (j := 1) (by omega)
   obtain ⟨c2, hc2⟩ := bs_at (s := s) (j := 2) (by omega)
   have s0 : s.data.toList[0]? = some c0 := hc0
   have s1 : s.data.toList[1]? = some c1 := hc1
   have s2 : s.data.toList[2]? = some c2 := hc2
   have i0 := idx0 (k := .i64) (show 0 < s.size by omega)
   have i1 := idx1 (k := .i64) (show 1 < s.size by omega)
   have i2 := idx2 (k := .i64) (show 2 < s.size by omega)
   have hq : quoP (bs s) = ((((c0.toNat : Nat) : Int) == 39) && (((c2.toNat : Nat) : Int) == 39) && decide ((32 : Int) ≤ ((c1.toNat : Nat) : Int)) && decide (((c1.toNat : Nat) : Int) ≤ 126)) := by
    rw [quoP, bt_at hc0, bt_at hc1, bt_at hc2, hlen, decide_eq_true h3, Bool.true_and]
   cases y0 : (((c0.toNat : Nat) : Int) == 39)
   ·refine Wc_ops (Wo_run (fun _ => by simp only [go_sem, seval, y, i0, s0, y0]; rfl) ?_)
    exact ⟨rfl, rfl, (by first | rfl | assumption), by simp only [upd, dstUpd, reduceIte, Nat.reduceEqDiff, hq, y0, Bool.false_and]⟩
   cases y2 : (((c2.toNat : Nat) : Int) == 39)
   ·refine Wc_ops (Wo_run (fun _ => by simp only [go_sem, seval, y, i0, i2, s0, s2, y0, y2]; rfl) ?_)
    exact ⟨rfl, rfl, (by first | rfl | assumption), by simp only [upd, dstUpd, reduceIte, Nat.reduceEqDiff, hq, y0, y2, Bool.and_false, Bool.false_and]⟩
   cases y3 : decide ((32 : Int) ≤ ((c1.toNat : Nat) : Int))
   ·have y3' := of_decide_eq_false y3
    refine Wc_ops (Wo_run (fun _ => by simp only [go_sem, seval, y, i0, i1, i2, s0, s1, s2, y0, y2, y3']; rfl) ?_)
    exact ⟨rfl, rfl, (by first | rfl | assumption), by simp only [upd, dstUpd, reduceIte, Nat.reduceEqDiff, hq, y0, y2, y3, Bool.and_false, Bool.false_and]⟩
   have y3' := of_decide_eq_true y3
   refine Wc_ops (Wo_run (fun _ => by simp only [go_sem, seval, y, i0, i1, i2, s0, s1, s2, y0, y2, y3']; rfl) ?_)
   exact ⟨rfl, rfl, (by first | rfl | assumption), by simp only [upd, dstUpd, reduceIte, Nat.reduceEqDiff, hq, y0, y2, y3, Bool.true_and]⟩
  rintro ⟨e, h', d⟩ ⟨hd, hh, e0, e31⟩
  simp only at hd hh e0 e31
  rw [hd, hh]
  refine Wc_cond _ e31 (fun x => ?_) (fun x => Wc_skip ⟨rfl, rfl, e0, x⟩)
  have h3 : s.size = 3 := by
   simp only [quoP, Bool.and_eq_true, decide_eq_true_eq] at x
   rw [← hlen]; exact x.1.1.1.1
  obtain ⟨c1, hc1⟩ := bs_at (s := s) (j := 1) (by omega)
  have s1 : s.data.toList[1]? = some c1 := hc1
  have hw1 : IntKind.i64.wrap ((c1.toNat : Nat) : Int) = ((c1.toNat : Nat) : Int) := by have := u8_lt c1; exact wrap64 (by omega) (by omega)
  refine Wc_seq (Wc_ops (Wo_run (fun _ => by simp only [go_sem, seval, e0, idx1 (k := .i64) (show 1 < s.size by omega), s1, hw1]; rfl) ?_))
  exact Wc_ret (fin _ _ _ (by first | rfl | assumption) (by first | rfl | assumption) (by rw [hnum, x, bt_at hc1]))
 rintro ⟨e, h', d⟩ ⟨hd, hh, e0, hq⟩
 simp only at hd hh e0
 rw [hd, hh]
 rw [hq] at hnum
 simp only at hnum
 refine Wc_seq (Wc_ops (Wo_run (fun _ => by simp only [go_sem, seval]; rfl) ?_))
 show Wc T _ _ _
 refine Wc_mid (fun s' => s'.d = some [] ∧ s'.h = h ∧ ∃ (s2 : ByteArray) (base : Int), s2.size < 9223372036854775807 ∧ 0 < base ∧ base ≤ 16 ∧ s'.e 0 = .string s2 ∧ s'.e 4 = .int .u64 base ∧ numR (bs s) = wholeR base (bs s2)) ?_ ?_
 ·refine Wc_mid (fun s' => s'.d = some [] ∧ s'.h = h ∧ s'.e 0 = .string s ∧ s'.e 4 = .int .u64 10 ∧ s'.e 42 = .bool (hexP (bs s))) ?_ ?_
  ·by_cases h2 : 2 < s.size
   ·have y : decide ((2 : Int) < ((s.size : Nat) : Int)) = true := decide_eq_true (by omega)
    have hb2 : bndV 0 s.size (.int .i64 2) = some 2 := by simp [bndV]; omega
    have hb0 : bndO (fun _ => undef) 0 2 0 none = some 0 := rfl
    have hx : decide (s.extract 0 2 = ⟨#[48, 120]⟩) = hexP (bs s) := by
     obtain ⟨c0, hc0⟩ := bs_at (s := s) (j := 0) (by omega)
     obtain ⟨c1, hc1⟩ := bs_at (s := s) (j := 1) (by omega)
     have ht : bs (s.extract 0 2) = [c0, c1] := by
      rw [bs_extract, List.drop_zero]
      apply List.ext_getElem?
      intro i
      match i with
      | 0 => simp [List.getElem?_take, hc0]
      | 1 => simp [List.getElem?_take, hc1]
      | i + 2 => rw [List.getElem?_take, if_neg (by omega)]; rfl
     have hd2 : decide (2 < (bs s).length) = true := decide_eq_true (by rw [hlen]; exact h2)
     rw [hexP, bt_at hc0, bt_at hc1, hd2, Bool.true_and]
     have : (s.extract 0 2 = ⟨#[48, 120]⟩) ↔ (c0 = 48 ∧ c1 = 120) := by
      constructor
      ·intro h
       have := congrArg bs h
       rw [ht] at this
       simpa [bs] using this
      ·rintro ⟨rfl, rfl⟩
       exact bs_inj (by rw [ht]; rfl)
     rw [Bool.eq_iff_iff, decide_eq_true_iff, Bool.and_eq_true, beq_iff_eq, beq_iff_eq, this]
     constructor
     ·rintro ⟨rfl, rfl⟩; exact ⟨rfl, rfl⟩
     ·rintro ⟨z0, z1⟩
      exact ⟨UInt8.toNat_inj.1 (by rw [show (48 : UInt8).toNat = 48 from rfl]; omega), UInt8.toNat_inj.1 (by rw [show (120 : UInt8).toNat = 120 from rfl]; omega)⟩
    refine Wc_ops (Wo_run (fun _ => by simp only [go_sem, seval, e0, y, bndO, hb2]; rfl) ?_)
    refine ⟨rfl, rfl, (by simp only [go_sem, seval, e0] <;> first | rfl | assumption | (symm; assumption)), (by first | rfl | assumption), by simp only [upd, dstUpd, reduceIte, Nat.reduceEqDiff]; rw [← hx]⟩
   ·have y : decide ((2 : Int) < ((s.size : Nat) : Int)) = false := decide_eq_false (by omega)
    refine Wc_ops (Wo_run (fun _ => by simp only [go_sem, seval, e0, y]; rfl) ?_)
    exact ⟨rfl, rfl, (by simp only [go_sem, seval, e0] <;> first | rfl | assumption | (symm; assumption)), (by first | rfl | assumption), by simp only [upd, dstUpd, reduceIte, Nat.reduceEqDiff, hexP, hlen, decide_eq_false h2, Bool.false_and]⟩
  rintro ⟨e, h', d⟩ ⟨hd, hh, e0, e4, e42⟩
  simp only at hd hh e0 e4 e42
  rw [hd, hh]
  refine Wc_cond _ e42 (fun x => ?_) (fun x => Wc_skip ⟨rfl, rfl, s, 10, hs, by decide, by decide, e0, e4, by rw [hnum, x]⟩)
  have h2 : 2 < s.size := by
   simp only [hexP, Bool.and_eq_true, decide_eq_true_eq] at x
   rw [← hlen]; exact x.1.1
  have hb2 : bndV 0 s.size (.int .i64 2) = some 2 := by simp [bndV]; omega
  refine Wc_draw_calm (by decide) (Wo_run (fun _ => by simp only [go_sem, seval, e0, bndO, hb2]; rfl) ?_)
  refine ⟨rfl, ?_⟩
  have hx : bs (s.extract 2 s.size) = (bs s).drop 2 := by rw [bs_extract, List.take_of_length_le (by rw [hlen]; exact Nat.le_refl _)]
  exact ⟨rfl, rfl, s.extract 2 s.size, 16, by rw [bs_size, hx, List.length_drop]; omega, by decide, by decide, (by first | rfl | assumption), (by first | rfl | assumption), by rw [hnum, x, hx]⟩
 rintro ⟨e, h', d⟩ ⟨hd, hh, s2, base, hs2, hb, hb', e0, e4, hnum2⟩
 simp only at hd hh e0 e4
 rw [hd, hh]
 refine Wc_seq (Wc_ops (Wo_run (fun _ => by simp only [go_sem, seval]; rfl) ?_))
 show Wc T _ _ _
 refine Wc_seq (Wc_seq (Wc_ops (Wo_run (fun _ => by simp only [go_sem, seval, e0]; rfl) ?_)))
 show Wc T _ _ _
 refine Wc_range s2.size (fun j e h' d => d = some [] ∧ h' = h ∧ ∃ n, pre base (bs s2) j = some n ∧ e 5 = .int .u64 n) (by decide) (by first | rfl | assumption) (by first | rfl | assumption) (Nat.le_of_lt hs2) (by decide) ⟨rfl, rfl, 0, rfl, (by first | rfl | assumption)⟩ ?_ ?_
 ·rintro j e h' d hj ⟨rfl, hh, n, hn, h5⟩ hfr h47 h46
  rw [hh]
  have e0 : e 0 = .string s2 := ((hfr 0 (by decide)).trans (by first | rfl | assumption | (symm; assumption)))
  have e4 : e 4 = .int .u64 base := ((hfr 4 (by decide)).trans (by first | rfl | assumption | (symm; assumption)))
  have hnr := wholeF_range hb (by omega) (by omega) hn
  obtain ⟨c, hc⟩ := bs_at hj
  have hsc : s2.data.toList[j]? = some c := hc
  have no : pre base (bs s2) (j + 1) = none → ∀ (e : Env), e 2 = .int .i64 0 → e 3 = .bool false → (Ex.ret = .normal ∨ Ex.ret = .ret) ∧ some ([] : List Dfr) = some [] ∧ ∃ vs, resAll e h [.tmp 2, .tmp 3] = some vs ∧ h = h ∧ Out.ret (tup vs) = .ret (numV s) := fun hp e h2 h3 =>
   fin e 0 false h2 h3 (by rw [hnum2, whole_none hp])
  refine Wc_seq (Wc_ops (Wo_run (fun _ => by simp only [go_sem, seval, h47]; rfl) ?_))
  show Wc T _ _ _
  refine Wc_seq (Wc_ops (Wo_pre 4 (fun _ => by simp only [go_sem, seval, e0, e4, idx_ok hj, hsc]; rfl) ?_))
  refine Wo_call (Wk_pure (worth_ok hw (u8_lt c).1 (u8_lt c).2) ?_)
  refine (Wo_run (fun _ => by simp only [go_sem, seval]; rfl) ?_)
  show Wc T _ _ _
  have q1 : ¬ base ≤ figI 255 c.toNat → IntKind.u64.wrap (9223372036854775807 - figI 255 c.toNat) = 9223372036854775807 - figI 255 c.toNat := fun g => by
   have hf : 0 ≤ figI 255 c.toNat := by unfold figI; repeat' split; all_goals omega
   exact wrapU64 (by omega) (by omega)
  by_cases g1 : base ≤ figI 255 c.toNat
  ·have z1 : ¬ figI 255 c.toNat < base := by omega
   refine Wc_seq (Wc_seq (Wc_ops (Wo_run (fun _ => by simp only [go_sem, seval, z1]; rfl) ?_)))
   show Wc T _ _ _
   refine Wc_cond true (by first | rfl | assumption) (fun _ => ?_) nofun
   refine Wc_seq (Wc_ops (Wo_run (fun _ => by simp only [go_sem, seval]; rfl) ?_))
   exact Wc_ret (no (by rw [pre_succ hc, hn]; simp only [wholeF, if_pos g1]) _ (by first | rfl | assumption) (by first | rfl | assumption))
  have z1 : figI 255 c.toNat < base := by omega
  have q1 := q1 g1
  have hf : 0 ≤ figI 255 c.toNat := by unfold figI; repeat' split; all_goals omega
  have hdiv : (9223372036854775807 - figI 255 c.toNat).tdiv base = (9223372036854775807 - figI 255 c.toNat) / base := Int.tdiv_eq_ediv_of_nonneg (by omega)
  have hq0 : 0 ≤ (9223372036854775807 - figI 255 c.toNat) / base := Int.ediv_nonneg (by omega) (by omega)
  have hq1 : (9223372036854775807 - figI 255 c.toNat) / base ≤ 9223372036854775807 - figI 255 c.toNat := Int.ediv_le_self _ (by omega)
  have q2 : IntKind.u64.wrap ((9223372036854775807 - figI 255 c.toNat) / base) = (9223372036854775807 - figI 255 c.toNat) / base := wrapU64 hq0 (by omega)
  have hb0 : ¬ base = 0 := by omega
  by_cases g2 : (9223372036854775807 - figI 255 c.toNat) / base < n
  ·refine Wc_seq (Wc_seq (Wc_ops (Wo_run (fun _ => by simp only [go_sem, seval, z1, h5, e4, q1, hdiv, q2, hb0, g2]; rfl) ?_)))
   show Wc T _ _ _
   refine Wc_cond true (by first | rfl | assumption) (fun _ => ?_) nofun
   refine Wc_seq (Wc_ops (Wo_run (fun _ => by simp only [go_sem, seval]; rfl) ?_))
   exact Wc_ret (no (by rw [pre_succ hc, hn]; simp only [wholeF, if_neg g1, if_pos g2]) _ (by first | rfl | assumption) (by first | rfl | assumption))
  refine Wc_seq (Wc_seq (Wc_ops (Wo_run (fun _ => by simp only [go_sem, seval, z1, h5, e4, q1, hdiv, q2, hb0, g2]; rfl) ?_)))
  show Wc T _ _ _
  refine Wc_cond false (by first | rfl | assumption) nofun (fun _ => Wc_skip ?_)
  show Wc T _ _ _
  have hm := (Int.le_ediv_iff_mul_le hb).1 (show n ≤ (9223372036854775807 - figI 255 c.toNat) / base by omega)
  have hm0 : 0 ≤ n * base := Int.mul_nonneg hnr.1 (Int.le_of_lt hb)
  have q3 : IntKind.u64.wrap (n * base) = n * base := wrapU64 hm0 (by omega)
  have q4 : IntKind.u64.wrap (n * base + figI 255 c.toNat) = n * base + figI 255 c.toNat := wrapU64 (by omega) (by omega)
  refine Wc_ops (Wo_run (fun _ => by simp only [go_sem, seval, h5, e4, q3, q4]; rfl) ?_)
  refine ⟨rfl, rfl, n * base + figI 255 c.toNat, ?_, (by first | rfl | assumption)⟩
  rw [pre_succ hc, hn]
  simp only [wholeF, if_neg g1, if_neg g2]
 ·rintro e h' d ⟨rfl, hh, n, hn, h5⟩ hfr h47
  rw [hh]
  have e0 : e 0 = .string s2 := ((hfr 0 (by decide)).trans (by first | rfl | assumption | (symm; assumption)))
  have hnr := wholeF_range hb (by omega) (by omega) hn
  rw [bs_size] at hn
  show Wc T _ _ _
  have hw : IntKind.i64.wrap n = n := wrap64 (by omega) (by omega)
  refine Wc_seq (Wc_ops (Wo_run (fun _ => by simp only [go_sem, seval, h5, e0, hw]; rfl) ?_))
  refine Wc_ret (fin _ n (!decide (s2 = ⟨#[]⟩)) (by first | rfl | assumption) (by first | rfl | assumption) ?_)
  rw [hnum2, whole_all hn]
  have : (!decide (s2 = ⟨#[]⟩)) = decide (bs s2 ≠ []) := by
   rw [← decide_not]
   congr 1
   refine propext ⟨fun hne he => hne (bs_inj he), fun hne he => hne (by rw [he]; rfl)⟩
  rw [this]
end Go.Idl
end

section
namespace Go.Idl
variable {T : Tbl}
def blankB (c : UInt8) : Bool := decide (clsI c.toNat = 1)
def skipN : List UInt8 → Bool → Nat
 | [], _ => 0
 | c :: r, true => if c = 10 then skipN r false + 1 else skipN r true + 1
 | c :: r, false => if blankB c then skipN r false + 1 else if c = 47 ∧ r[0]? = some 47 then skipN r true + 1 else 0
theorem skipN_le : ∀ (l : List UInt8) (b : Bool), skipN l b ≤ l.length
 | [], _ => Nat.le_refl _
 | c :: r, true => by
  have h1 := skipN_le r true
  have h2 := skipN_le r false
  rw [skipN, List.length_cons]; split <;> omega
 | c :: r, false => by
  have h1 := skipN_le r true
  have h2 := skipN_le r false
  rw [skipN, List.length_cons]; split
  ·omega
  ·split <;> omega
theorem blank10 : blankB 10 = true := by decide
theorem skipN_10 (r : List UInt8) : skipN (10 :: r) true = skipN (10 :: r) false := by simp [skipN, blank10]
structure Gone (b z : Nat) (s : ByteArray) (h h' : Heap) (a : Nat) : Prop where
 but : KeptBut b h h'
 next : h'.next = h.next
 get : h'.get b = some (.cells (scnC s a) true z)
theorem Gone.step {b z a a' : Nat} {s : ByteArray} {h h' : Heap} (g : Gone b z s h h' a) : Gone b z s h (h'.set b (.cells (scnC s a') true z)) a' :=
 ⟨g.but.trans ⟨Nat.le_refl _, fun k _ hm => set_get_ne' _ _ hm⟩, g.next, set_get' _ _ _⟩
theorem Gone.refl {b z a : Nat} {s : ByteArray} {h : Heap} (hg : h.get b = some (.cells (scnC s a) true z)) : Gone b z s h h a := ⟨.refl _ _, rfl, hg⟩
theorem scn_len (s : ByteArray) (a : Nat) : 1 < (scnC s a).length := by simp [scnC]
theorem drop_at {s : ByteArray} {a : Nat} {c : UInt8} (h : (bs s)[a]? = some c) : (bs s).drop a = c :: (bs s).drop (a + 1) := by
 obtain ⟨hl, h⟩ := List.getElem?_eq_some_iff.1 h
 rw [List.drop_eq_getElem_cons hl, h]
def farH (b : Nat) (s : ByteArray) (h : Heap) : Nat := match h.get b with
 | some (.cells (_ :: .int _ a :: _) _ _) => s.size - a.toNat
 | _ => 0
theorem Gone.far {b z a : Nat} {s : ByteArray} {h h' : Heap} (g : Gone b z s h h' a) : farH b s h' = s.size - a := by simp [farH, g.get, scnC]
theorem skip_ok (hT : T.fn 50 = some C50) (hp : T.fn 51 = some C51) {s : ByteArray} {a b z : Nat} {h : Heap} (hg : h.get b = some (.cells (scnC s a) true z)) (ha : a ≤ s.size) (hs : s.size < 4611686018427387904) :
 Wk T (.fn 50) [ptr b 0] h (fun o h' => (∃ r, o = .ret r) ∧ Gone b z s h h' (a + skipN ((bs s).drop a) false)) := by
 refine Wk_fn hT (by simp [C50]) ?_
 simp only [C50]
 have pb : ptr b 0 = .pointer (some ⟨b, 0, none⟩) := rfl
 have fin : ∀ (e : Env) (h' : Heap) (x : Ex), (x = .normal ∨ x = .ret) → Gone b z s h h' (a + skipN ((bs s).drop a) false) → (x = .normal ∨ x = .ret) ∧ some ([] : List Dfr) = some [] ∧ ∃ vs, resAll e h' [] = some vs ∧ (∃ r, Out.ret (tup vs) = .ret r) ∧ Gone b z s h h' (a + skipN ((bs s).drop a) false) := fun e h' x hx g => ⟨hx, rfl, [], rfl, ⟨_, rfl⟩, g⟩
 refine Wc_seq (Wc_skip ?_)
 show Wc T _ _ _
 refine Wc_block (Wc_loopF (fun e h' d => d = some [] ∧ ∃ a', a' ≤ s.size ∧ Gone b z s h h' a' ∧ a' + skipN ((bs s).drop a') false = a + skipN ((bs s).drop a) false) (fun _ h' => farH b s h') ⟨rfl, a, ha, .refl hg, rfl⟩ ?_)
 rintro e h' d ⟨rfl, a', ha', g, hsum⟩ hfr
 have e0 : e 0 = .pointer (some ⟨b, 0, none⟩) := ((hfr 0 (by decide)).trans (by first | rfl | assumption | (symm; assumption)))
 have hg' := g.get
 have hsz : s.size = (bs s).length := bs_size s
 have g0 : (scnC s a')[0]? = some (.string s) := rfl
 have g1 : (scnC s a')[1]? = some (.int .i64 a') := rfl
 have hi : (a' : Int) < 4611686018427387904 := by omega
 have hw : IntKind.i64.wrap (((a' : Nat) : Int) + 1) = ((a' + 1 : Nat) : Int) := by rw [wrap64] <;> omega
 by_cases hlt : a' < s.size
 case neg =>
  have hnlt : ¬ ((a' : Nat) : Int) < ((s.size : Nat) : Int) := by omega
  refine Wc_seq (Wc_seq (Wc_draw_calm (by decide) (Wo_run (fun _ => by simp only [go_sem, seval, e0, hg', g0, g1, hnlt]; rfl) ?_)))
  refine ⟨rfl, ?_⟩
  show Wc T _ _ _
  refine Wc_cond false (by first | rfl | assumption) nofun (fun _ => Wc_exit ?_)
  refine fin _ _ _ (.inl rfl) ?_
  rw [List.drop_of_length_le (by omega), skipN, Nat.add_zero] at hsum
  rw [← hsum]; exact g
 have hlt' : ((a' : Nat) : Int) < ((s.size : Nat) : Int) := by omega
 obtain ⟨c, hc⟩ := bs_at hlt
 have hdrop := drop_at hc
 have sc : s.data.toList[a']? = some c := hc
 have hcls : clsAt s (a' + 0) = clsI c.toNat := by rw [Nat.add_zero, clsAt, hc]
 refine Wc_seq (Wc_seq (Wc_draw_calm (by decide) (Wo_run (fun _ => by simp only [go_sem, seval, e0, hg', g0, g1, hlt']; rfl) ?_)))
 refine ⟨rfl, ?_⟩
 show Wc T _ _ _
 refine Wc_cond true (by first | rfl | assumption) (fun _ => Wc_skip ?_) nofun
 show Wc T _ _ _
 refine Wc_block (Wc_seq (Wc_block (Wc_seq (Wc_ops (Wo_pre 1 (fun _ => by simp only [go_sem, seval, e0]; rfl) ?_)))))
 refine Wo_call (Wk_pure (peek_ok (a := a') (k := 0) hp hg' (by omega)) ?_)
 rw [hcls]
 by_cases hbl : blankB c = true
 ·have hb1 : (clsI c.toNat == 1) = true := by rw [Bool.beq_eq_decide_eq]; exact hbl
  refine (Wo_run (fun _ => by simp only [go_sem, seval, hb1]; rfl) ?_)
  show Wc T _ _ _
  refine Wc_cond true (by first | rfl | assumption) (fun _ => ?_) nofun
  refine Wc_seq (Wc_ops (Wo_pre 7 (fun _ => by simp only [go_sem, seval, e0, hg', g1, hw]; rfl) ?_))
  refine Wo_op (iop_store_at (k := 1) (v := .int .i64 ((a' + 1 : Nat) : Int)) (by first | rfl | assumption) (by simp only [ev, upd, dstUpd, reduceIte, Nat.reduceEqDiff]; rfl) hg' (scn_len _ _)) (Wo_nil ?_)
  show Wc T _ _ _
  refine Wc_exit ?_
  have g2 : Gone b z s h (h'.set b (.cells ((scnC s a').set 1 (.int .i64 ((a' + 1 : Nat) : Int))) true z)) (a' + 1) := g.step
  refine ⟨⟨rfl, a' + 1, by omega, g2, ?_⟩, ?_⟩
  ·rw [hdrop, skipN, if_pos hbl] at hsum
   omega
  ·rw [g.far, g2.far]; omega
 have hb1 : (clsI c.toNat == 1) = false := by rw [Bool.beq_eq_decide_eq]; simpa [blankB] using hbl
 refine (Wo_run (fun _ => by simp only [go_sem, seval, hb1]; rfl) ?_)
 show Wc T _ _ _
 refine Wc_cond false (by first | rfl | assumption) nofun (fun _ => ?_)
 have out : skipN ((bs s).drop a') false = 0 → Gone b z s h h' (a + skipN ((bs s).drop a) false) := fun h0 => by
  rw [h0, Nat.add_zero] at hsum
  rw [← hsum]; exact g
 have hidx : idxV s.size (.int .i64 ((a' : Nat) : Int)) = some a' := idx_ok hlt
 have c47 : (c = 47) ↔ (((c.toNat : Nat) : Int) == 47) = true := by
  rw [beq_iff_eq]
  constructor
  ·rintro rfl; rfl
  ·intro h; exact UInt8.toNat_inj.1 (by simp; omega)
 cases x47 : (((c.toNat : Nat) : Int) == 47)
 ·refine Wc_seq (Wc_draw_calm (by decide) (Wo_run (fun _ => by simp only [go_sem, seval, e0, hg', g0, g1, hidx, sc, bne, x47]; rfl) ?_))
  refine ⟨rfl, ?_⟩
  show Wc T _ _ _
  refine Wc_cond true (by first | rfl | assumption) (fun _ => Wc_ret (fin _ _ _ (.inr rfl) (out ?_))) nofun
  rw [hdrop, skipN, if_neg hbl, if_neg]
  rintro ⟨h1, _⟩
  rw [c47.1 h1] at x47; cases x47
 have hc47 := c47.2 x47
 by_cases hlt1 : a' + 1 < s.size
 case neg =>
  have hge : ((s.size : Nat) : Int) ≤ ((a' + 1 : Nat) : Int) := by omega
  refine Wc_seq (Wc_draw_calm (by decide) (Wo_run (fun _ => by simp only [go_sem, seval, e0, hg', g0, g1, hidx, sc, bne, x47, hw, hge]; rfl) ?_))
  refine ⟨rfl, ?_⟩
  show Wc T _ _ _
  refine Wc_cond true (by first | rfl | assumption) (fun _ => Wc_ret (fin _ _ _ (.inr rfl) (out ?_))) nofun
  rw [hdrop, skipN, if_neg hbl, if_neg]
  rintro ⟨_, h1⟩
  rw [List.drop_of_length_le (by omega)] at h1; cases h1
 obtain ⟨c1, hc1⟩ := bs_at hlt1
 have sc1 : s.data.toList[a' + 1]? = some c1 := hc1
 have hge : ¬ ((s.size : Nat) : Int) ≤ ((a' + 1 : Nat) : Int) := by omega
 have hidx1 : idxV s.size (.int .i64 ((a' + 1 : Nat) : Int)) = some (a' + 1) := idx_ok hlt1
 have hr0 : ((bs s).drop (a' + 1))[0]? = some c1 := by rw [List.getElem?_drop]; exact hc1
 have c147 : (c1 = 47) ↔ (((c1.toNat : Nat) : Int) == 47) = true := by
  rw [beq_iff_eq]
  constructor
  ·rintro rfl; rfl
  ·intro h; exact UInt8.toNat_inj.1 (by simp; omega)
 cases y47 : (((c1.toNat : Nat) : Int) == 47)
 ·refine Wc_seq (Wc_draw_calm (by decide) (Wo_run (fun _ => by simp only [go_sem, seval, e0, hg', g0, g1, hidx, sc, bne, x47, hw, hge, hidx1, sc1, y47]; rfl) ?_))
  refine ⟨rfl, ?_⟩
  show Wc T _ _ _
  refine Wc_cond true (by first | rfl | assumption) (fun _ => Wc_ret (fin _ _ _ (.inr rfl) (out ?_))) nofun
  rw [hdrop, skipN, if_neg hbl, if_neg]
  rintro ⟨_, h1⟩
  rw [hr0] at h1
  rw [c147.1 (Option.some.inj h1)] at y47; cases y47
 have hc147 := c147.2 y47
 refine Wc_seq (Wc_draw_calm (by decide) (Wo_run (fun _ => by simp only [go_sem, seval, e0, hg', g0, g1, hidx, sc, bne, x47, hw, hge, hidx1, sc1, y47]; rfl) ?_))
 refine ⟨rfl, ?_⟩
 show Wc T _ _ _
 refine Wc_cond false (by first | rfl | assumption) nofun (fun _ => Wc_skip ?_)
 show Wc T _ _ _
 have n10 : ¬ c = 10 := by rw [hc47]; decide
 have hnote : skipN ((bs s).drop a') false = skipN ((bs s).drop a') true := by
  have s1 : skipN (c :: (bs s).drop (a' + 1)) false = skipN ((bs s).drop (a' + 1)) true + 1 := by rw [skipN, if_neg hbl, if_pos ⟨hc47, by rw [hr0, hc147]⟩]
  have s2 : skipN (c :: (bs s).drop (a' + 1)) true = skipN ((bs s).drop (a' + 1)) true + 1 := by rw [skipN, if_neg n10]
  rw [hdrop, s1, s2]
 rw [hnote] at hsum
 refine Wc_block (Wc_loopF (fun e1 h1 d => d = some [] ∧ e1 0 = .pointer (some ⟨b, 0, none⟩) ∧ ∃ a1, a' ≤ a1 ∧ a1 ≤ s.size ∧ Gone b z s h h1 a1 ∧ a1 + skipN ((bs s).drop a1) true = a + skipN ((bs s).drop a) false) (fun _ h1 => farH b s h1) ⟨rfl, (by simp only [go_sem, seval, e0] <;> first | rfl | assumption | (symm; assumption)), a', Nat.le_refl _, ha', g, hsum⟩ ?_)
 rintro e1 h1 d ⟨rfl, e10, a1, hle, ha1, q, hsum1⟩ _
 have q' := q.get
 have q0 : (scnC s a1)[0]? = some (.string s) := rfl
 have q1 : (scnC s a1)[1]? = some (.int .i64 a1) := rfl
 have hw1 : IntKind.i64.wrap (((a1 : Nat) : Int) + 1) = ((a1 + 1 : Nat) : Int) := by rw [wrap64] <;> omega
 have leave : a1 ≠ a' → skipN ((bs s).drop a1) true = skipN ((bs s).drop a1) false → (some ([] : List Dfr) = some [] ∧ ∃ a', a' ≤ s.size ∧ Gone b z s h h1 a' ∧ a' + skipN ((bs s).drop a') false = a + skipN ((bs s).drop a) false) ∧ farH b s h1 < farH b s h' := fun hne heq =>
  ⟨⟨rfl, a1, ha1, q, by rw [← heq]; exact hsum1⟩, by rw [q.far, g.far]; omega⟩
 by_cases hl1 : a1 < s.size
 case neg =>
  have hnl : ¬ ((a1 : Nat) : Int) < ((s.size : Nat) : Int) := by omega
  refine Wc_seq (Wc_seq (Wc_draw_calm (by decide) (Wo_run (fun _ => by simp only [go_sem, seval, e10, q', q0, q1, hnl]; rfl) ?_)))
  refine ⟨rfl, ?_⟩
  show Wc T _ _ _
  refine Wc_cond false (by first | rfl | assumption) nofun (fun _ => Wc_exit ?_)
  exact leave (by omega) (by rw [List.drop_of_length_le (by omega)]; rfl)
 have hl1' : ((a1 : Nat) : Int) < ((s.size : Nat) : Int) := by omega
 obtain ⟨k, hk⟩ := bs_at hl1
 have sk : s.data.toList[a1]? = some k := hk
 have hidk : idxV s.size (.int .i64 ((a1 : Nat) : Int)) = some a1 := idx_ok hl1
 cases x10 : (((k.toNat : Nat) : Int) == 10)
 ·refine Wc_seq (Wc_seq (Wc_draw_calm (by decide) (Wo_run (fun _ => by simp only [go_sem, seval, e10, q', q0, q1, hl1', hidk, sk, bne, x10]; rfl) ?_)))
  refine ⟨rfl, ?_⟩
  show Wc T _ _ _
  refine Wc_cond true (by first | rfl | assumption) (fun _ => Wc_skip ?_) nofun
  show Wc T _ _ _
  refine Wc_block (Wc_ops (Wo_pre 7 (fun _ => by simp only [go_sem, seval, e10, q', q1, hw1]; rfl) ?_))
  refine Wo_op (iop_store_at (k := 1) (v := .int .i64 ((a1 + 1 : Nat) : Int)) (by first | rfl | assumption) (by simp only [ev, upd, dstUpd, reduceIte, Nat.reduceEqDiff]; rfl) q' (scn_len _ _)) (Wo_nil ?_)
  have q2 : Gone b z s h (h1.set b (.cells ((scnC s a1).set 1 (.int .i64 ((a1 + 1 : Nat) : Int))) true z)) (a1 + 1) := q.step
  refine ⟨⟨rfl, (by simp only [go_sem, seval, e10] <;> first | rfl | assumption | (symm; assumption)), a1 + 1, by omega, by omega, q2, ?_⟩, ?_⟩
  ·have hn : ¬ k = 10 := by rintro rfl; cases x10
   rw [drop_at hk, skipN, if_neg hn] at hsum1
   omega
  ·rw [q.far, q2.far]; omega
 ·have hk10 : k = 10 := UInt8.toNat_inj.1 (by have := beq_iff_eq.1 x10; simp; omega)
  refine Wc_seq (Wc_seq (Wc_draw_calm (by decide) (Wo_run (fun _ => by simp only [go_sem, seval, e10, q', q0, q1, hl1', hidk, sk, bne, x10]; rfl) ?_)))
  refine ⟨rfl, ?_⟩
  show Wc T _ _ _
  refine Wc_cond false (by first | rfl | assumption) nofun (fun _ => Wc_exit ?_)
  refine leave ?_ ?_
  ·rintro rfl
   rw [hk] at hc; cases hc; exact n10 hk10
  ·rw [drop_at hk, hk10]; exact skipN_10 _
end Go.Idl
end

section
namespace Go.Idl
variable {T : Tbl}
def signN (c d : Int) : Nat := if (c == 62 && !(d == 62)) then 0 else if ((c == 60 || c == 62) && d == c) then 2 else if ((c == 61 || c == 33 || c == 60) && d == 61) then 2 else 1
theorem sign_ok (hT : T.fn 54 = some C54) {s : ByteArray} {a b z : Nat} {o : Bool} {h : Heap} (hg : h.get b = some (.cells (scnC s a) o z)) {c0 : UInt8} (hc0 : (bs s)[a]? = some c0) (hs : s.size < 4611686018427387904) :
 Wk T (.fn 54) [ptr b 0] h (fun o h' => h' = h ∧ o = .ret (.int .i64 ((signN ((c0.toNat : Nat) : Int) (bt (bs s) (a + 1)) : Nat) : Int))) := by
 refine Wk_fn hT (by simp [C54]) ?_
 simp only [C54]
 have hsz : s.size = (bs s).length := bs_size s
 have hlt : a < s.size := by rw [hsz]; exact (List.getElem?_eq_some_iff.1 hc0).1
 have sc : s.data.toList[a]? = some c0 := hc0
 have g0 : (scnC s a)[0]? = some (.string s) := rfl
 have g1 : (scnC s a)[1]? = some (.int .i64 a) := rfl
 have hidx : idxV s.size (.int .i64 ((a : Nat) : Int)) = some a := idx_ok hlt
 have hw : IntKind.i64.wrap (((a : Nat) : Int) + 1) = ((a + 1 : Nat) : Int) := by rw [wrap64] <;> omega
 refine Wc_seq (Wc_ops (Wo_run (fun _ => by simp only [go_sem, seval]; rfl) ?_))
 show Wc T _ _ _
 refine Wc_seq (Wc_draw_calm (by decide) (Wo_run (fun _ => by simp only [go_sem, seval, hg, g0, g1, hidx, sc]; rfl) ?_))
 refine ⟨rfl, ?_⟩
 show Wc T _ _ _
 refine Wc_seq (Wc_ops (Wo_run (fun _ => by simp only [go_sem, seval]; rfl) ?_))
 show Wc T _ _ _
 generalize hcc : ((c0.toNat : Nat) : Int) = c
 refine Wc_mid (fun s' => s'.d = some [] ∧ s'.h = h ∧ s'.e 3 = .int .u8 c ∧ s'.e 4 = .int .u8 (bt (bs s) (a + 1))) ?_ ?_
 ·by_cases h1 : a + 1 < s.size
  case neg =>
   have hn : ¬ ((a + 1 : Nat) : Int) < ((s.size : Nat) : Int) := by omega
   refine Wc_seq (Wc_draw_calm (by decide) (Wo_run (fun _ => by simp only [go_sem, seval, hg, g0, g1, hw, hn]; rfl) ?_))
   refine ⟨rfl, ?_⟩
   show Wc T _ _ _
   refine Wc_cond false (by first | rfl | assumption) nofun (fun _ => Wc_skip ⟨rfl, rfl, (by first | rfl | assumption), ?_⟩)
   rw [bt_no (by omega)]
   simp only [upd, dstUpd, reduceIte, Nat.reduceEqDiff]
  have hp : ((a + 1 : Nat) : Int) < ((s.size : Nat) : Int) := by omega
  obtain ⟨d, hd⟩ := bs_at h1
  have sd : s.data.toList[a + 1]? = some d := hd
  have hidd : idxV s.size (.int .i64 ((a + 1 : Nat) : Int)) = some (a + 1) := idx_ok h1
  refine Wc_seq (Wc_draw_calm (by decide) (Wo_run (fun _ => by simp only [go_sem, seval, hg, g0, g1, hw, hp]; rfl) ?_))
  refine ⟨rfl, ?_⟩
  show Wc T _ _ _
  refine Wc_cond true (by first | rfl | assumption) (fun _ => ?_) nofun
  refine Wc_draw_calm (by decide) (Wo_run (fun _ => by simp only [go_sem, seval, hg, g0, g1, hw, hidd, sd]; rfl) ?_)
  refine ⟨rfl, rfl, rfl, (by first | rfl | assumption), ?_⟩
  rw [bt_at hd]
  simp only [upd, dstUpd, reduceIte, Nat.reduceEqDiff]
 generalize hdd : bt (bs s) (a + 1) = d
 rintro ⟨e, h', ds⟩ ⟨hd, hh, e3, e4⟩
 simp only at hd hh e3 e4
 rw [hd, hh]
 have fin : ∀ (e : Env) (x : Ex) (n : Nat), (x = .normal ∨ x = .ret) → e 2 = .int .i64 ((n : Nat) : Int) → signN c d = n → (x = .normal ∨ x = .ret) ∧ some ([] : List Dfr) = some [] ∧ ∃ vs, resAll e h [.tmp 2] = some vs ∧ h = h ∧ Out.ret (tup vs) = .ret (.int .i64 ((signN c d : Nat) : Int)) := fun e x n hx h2 hn => ⟨hx, rfl, [.int .i64 ((n : Nat) : Int)], by simp only [resAll, resV, h2], rfl, by rw [hn]; rfl⟩
 refine Wc_mid (fun s' => s'.d = some [] ∧ s'.h = h ∧ (c == 62 && !(d == 62)) = false ∧ ((c == 60 || c == 62) && d == c) = false ∧ ((c == 61 || c == 33 || c == 60) && d == 61) = false) ?_ ?_
 ·refine Wc_block (Wc_mid (fun s' => s'.d = some [] ∧ s'.h = h ∧ s'.e 3 = .int .u8 c ∧ s'.e 4 = .int .u8 d ∧ s'.e 35 = .bool (c == 62 && !(d == 62))) ?_ ?_)
  ·cases x1 : (c == 62)
   ·refine Wc_ops (Wo_run (fun _ => by simp only [go_sem, seval, e3, e4, bne, x1]; rfl) ?_)
    exact ⟨rfl, rfl, (by simp only [go_sem, seval, e3] <;> first | rfl | assumption | (symm; assumption)), (by simp only [go_sem, seval, e4] <;> first | rfl | assumption | (symm; assumption)), (by first | rfl | assumption)⟩
   ·cases x2 : (d == 62) <;> (refine Wc_ops (Wo_run (fun _ => by simp only [go_sem, seval, e3, e4, bne, x1, x2]; rfl) ?_); exact ⟨rfl, rfl, (by simp only [go_sem, seval, e3] <;> first | rfl | assumption | (symm; assumption)), (by simp only [go_sem, seval, e4] <;> first | rfl | assumption | (symm; assumption)), (by first | rfl | assumption)⟩)
  rintro ⟨e, h', ds⟩ ⟨hd, hh, e3, e4, e35⟩
  simp only at hd hh e3 e4 e35
  rw [hd, hh]
  refine Wc_cond _ e35 (fun y => ?_) (fun n1 => ?_)
  ·refine Wc_seq (Wc_ops (Wo_run (fun _ => by simp only [go_sem, seval]; rfl) ?_))
   exact Wc_ret (fin _ _ 0 (.inr rfl) (by first | rfl | assumption) (by rw [signN, if_pos y]))
  refine Wc_mid (fun s' => s'.d = some [] ∧ s'.h = h ∧ s'.e 42 = .bool ((c == 60 || c == 62) && d == c || (c == 61 || c == 33 || c == 60) && d == 61)) ?_ ?_
  ·refine Wc_mid (fun s' => s'.d = some [] ∧ s'.h = h ∧ s'.e 3 = .int .u8 c ∧ s'.e 4 = .int .u8 d ∧ s'.e 42 = .bool ((c == 60 || c == 62) && d == c)) ?_ ?_
   ·cases x1 : (c == 60) <;> cases x2 : (c == 62) <;> cases x3 : (d == c) <;> (refine Wc_ops (Wo_run (fun _ => by simp only [go_sem, seval, e3, e4, bne, x1, x2, x3]; rfl) ?_); exact ⟨rfl, rfl, (by simp only [go_sem, seval, e3] <;> first | rfl | assumption | (symm; assumption)), (by simp only [go_sem, seval, e4] <;> first | rfl | assumption | (symm; assumption)), (by first | rfl | assumption)⟩)
   rintro ⟨e, h', ds⟩ ⟨hd, hh, e3, e4, e42⟩
   simp only at hd hh e3 e4 e42
   rw [hd, hh]
   refine Wc_cond _ e42 (fun y => Wc_skip ⟨rfl, rfl, by simp only; rw [e42, y]; rfl⟩) (fun y => ?_)
   rw [y]
   cases x1 : (c == 61) <;> cases x2 : (c == 33) <;> cases x3 : (c == 60) <;> cases x4 : (d == 61) <;> (refine Wc_ops (Wo_run (fun _ => by simp only [go_sem, seval, e3, e4, bne, x1, x2, x3, x4]; rfl) ?_); exact ⟨rfl, rfl, (by first | rfl | assumption)⟩)
  rintro ⟨e, h', ds⟩ ⟨hd, hh, e42⟩
  simp only at hd hh e42
  rw [hd, hh]
  refine Wc_cond _ e42 (fun y => ?_) (fun y => Wc_skip ?_)
  ·refine Wc_seq (Wc_ops (Wo_run (fun _ => by simp only [go_sem, seval]; rfl) ?_))
   refine Wc_ret (fin _ _ 2 (.inr rfl) (by first | rfl | assumption) ?_)
   rw [signN, if_neg (by rw [n1]; decide)]
   cases hA : ((c == 60 || c == 62) && d == c)
   ·rw [hA, Bool.false_or] at y
    rw [if_neg (by decide), if_pos y]
   ·rw [if_pos rfl]
  ·rw [Bool.or_eq_false_iff] at y
   exact ⟨rfl, rfl, n1, y.1, y.2⟩
 rintro ⟨e, h', ds⟩ ⟨hd, hh, y1, y2, y3⟩
 simp only at hd hh
 rw [hd, hh]
 refine Wc_seq (Wc_ops (Wo_run (fun _ => by simp only [go_sem, seval]; rfl) ?_))
 refine Wc_ret (fin _ _ 1 (.inr rfl) (by first | rfl | assumption) ?_)
 rw [signN, y1, y2, y3]; rfl
end Go.Idl
end

section
namespace Go.Idl
variable {T : Tbl}
structure Tok where
 kind : Int
 text : ByteArray
 frm : Nat
 upto : Nat
 num : Int
def Tok.cells (t : Tok) : List Value := [.int .i64 t.kind, .string t.text, .int .i64 t.frm, .int .i64 t.upto, .int .i64 t.num]
def lenT (l : List UInt8) (c : UInt8) : Nat := if clsI c.toNat = 2 then runN l else if clsI c.toNat = 3 then runN l else if clsI c.toNat = 5 then min 3 l.length else if clsI c.toNat = 4 then signN c.toNat (bt l 1) else 0
def kindT (c : UInt8) (w : Bool) : Int := if clsI c.toNat = 2 then (if w then 2 else 1) else if clsI c.toNat = 3 then 4 else if clsI c.toNat = 5 then 4 else if clsI c.toNat = 4 then 3 else 0
def nextA (l : List UInt8) (a : Nat) : Tok × Int × Nat :=
 match l with
 | [] => (⟨0, ⟨#[]⟩, a, a, 0⟩, 0, a)
 | c :: r =>
  let n := lenT (c :: r) c
  let text : ByteArray := ⟨((c :: r).take n).toArray⟩
  let kind := kindT c (wordB text)
  if kind = 4 ∧ (numR (bs text)).2 = false then (⟨4, text, a, a, 0⟩, 41, a)
  else if n = 0 then (⟨kind, text, a, a, if kind = 4 then (numR (bs text)).1 else 0⟩, 40, a)
  else (⟨kind, text, a, a + n, if kind = 4 then (numR (bs text)).1 else 0⟩, 0, a + n)
def nextL (l : List UInt8) (a : Nat) : Tok × Int × Nat := nextA (l.drop (skipN l false)) (a + skipN l false)
def z5 : List Value := [.int .i64 0, .string ⟨#[]⟩, .int .i64 0, .int .i64 0, .int .i64 0]
structure Mid (b z tb : Nat) (s : ByteArray) (a : Nat) (h0 h' : Heap) (tk : List Value) : Prop where
 but : KeptBut b h0 h'
 scn : h'.get b = some (.cells (scnC s a) true z)
 res : h'.get h0.next = some (.cells z5 true 0)
 tok : h'.get tb = some (.cells tk true 0)
 lt : tb < h'.next
 low : b < h0.next ∧ h0.next < tb
theorem Mid.keep {b z tb a : Nat} {s : ByteArray} {h0 h h' : Heap} {tk : List Value} (m : Mid b z tb s a h0 h tk) (k : Kept h h') : Mid b z tb s a h0 h' tk := by
 have := m.but.next; have := m.lt; have := m.low
 exact ⟨m.but.kept k, by rw [k.get _ (by omega)]; exact m.scn, by rw [k.get _ (by omega)]; exact m.res, by rw [k.get _ (by omega)]; exact m.tok, Nat.lt_of_lt_of_le m.lt k.next, m.low⟩
theorem Mid.put {b z tb a : Nat} {s : ByteArray} {h0 h : Heap} {tk : List Value} (m : Mid b z tb s a h0 h tk) (tk' : List Value) : Mid b z tb s a h0 (h.set tb (.cells tk' true 0)) tk' := by
 have := m.low
 exact ⟨m.but.set _ (.inr (by omega)), by rw [set_get_ne' _ _ (by omega)]; exact m.scn, by rw [set_get_ne' _ _ (by omega)]; exact m.res, set_get' _ _ _, m.lt, m.low⟩
theorem Mid.go {b z tb a : Nat} {s : ByteArray} {h0 h : Heap} {tk : List Value} (m : Mid b z tb s a h0 h tk) (a' : Nat) : Mid b z tb s a' h0 (h.set b (.cells (scnC s a') true z)) tk := by
 have := m.low
 exact ⟨m.but.set _ (.inl rfl), set_get' _ _ _, by rw [set_get_ne' _ _ (by omega)]; exact m.res, by rw [set_get_ne' _ _ (by omega)]; exact m.tok, m.lt, m.low⟩
theorem ext_eq {s : ByteArray} {a n : Nat} {l : List UInt8} (h : (bs s).drop a = l) : s.extract a (a + n) = ⟨(l.take n).toArray⟩ := bs_inj (by
 rw [bs_extract, List.drop_take, h, Nat.add_sub_cancel_left]
 exact (List.toList_toArray).symm)
end Go.Idl
end

section
namespace Go.Idl
variable {T : Tbl}
structure LexFns (T : Tbl) : Prop where
 next : T.fn 31 = some C31
 skip : T.fn 50 = some C50
 peek : T.fn 51 = some C51
 goes : T.fn 52 = some C52
 sign : T.fn 54 = some C54
 word : T.fn 53 = some C53
 reserved : T.fn 62 = some C62
 Number : T.fn 39 = some C39
 worth : T.fn 58 = some C58
theorem signN_le (c d : Int) : signN c d ≤ 2 := by unfold signN; split <;> (try split) <;> (try split) <;> omega
theorem lenT_le {l : List UInt8} {c : UInt8} {r : List UInt8} (h : l = c :: r) (hd : clsI c.toNat = 4 → signN c.toNat (bt l 1) ≤ l.length) : lenT l c ≤ l.length := by
 unfold lenT
 have := runN_le l
 split
 ·omega
 ·split
  ·omega
  ·split
   ·exact Nat.min_le_right _ _
   ·split
    ·exact hd (by assumption)
    ·exact Nat.zero_le _
theorem sign_fits {l : List UInt8} {c : UInt8} {r : List UInt8} (h : l = c :: r) : signN c.toNat (bt l 1) ≤ l.length := by
 subst h
 have h2 := signN_le c.toNat (bt (c :: r) 1)
 match r with
 | d :: r => simp only [List.length_cons]; omega
 | [] =>
  have hb : bt [c] 1 = 0 := rfl
  rw [hb]
  simp only [List.length_singleton]
  unfold signN
  split
  ·omega
  ·split
   ·rename_i h
    simp only [Bool.and_eq_true, Bool.or_eq_true, beq_iff_eq] at h
    omega
   ·split
    ·rename_i h
     simp only [Bool.and_eq_true, beq_iff_eq] at h
     exact absurd h.2 (by decide)
    ·omega
theorem tok0 (t : Tok) (k : Int) : t.cells.set 0 (.int .i64 k) = ({ t with kind := k } : Tok).cells := rfl
theorem tok1 (t : Tok) (x : ByteArray) : t.cells.set 1 (.string x) = ({ t with text := x } : Tok).cells := rfl
theorem tok3 (t : Tok) (n : Nat) : t.cells.set 3 (.int .i64 n) = ({ t with upto := n } : Tok).cells := rfl
theorem tok4 (t : Tok) (k : Int) : t.cells.set 4 (.int .i64 k) = ({ t with num := k } : Tok).cells := rfl
theorem next_ok (F : LexFns T) {s : ByteArray} {a b z : Nat} {h : Heap} (hg : h.get b = some (.cells (scnC s a) true z)) (hb : b < h.next) (ha : a ≤ s.size) (hs : s.size < 4611686018427387904) :
 Wk T (.fn 31) [ptr b 0] h (fun o h' => KeptBut b h h' ∧ h'.get b = some (.cells (scnC s (nextL ((bs s).drop a) a).2.2) true z) ∧ o = .ret (.tuple #[.agg (nextL ((bs s).drop a) a).1.cells.toArray, .int .i64 (nextL ((bs s).drop a) a).2.1])) := by
 have hsz : s.size = (bs s).length := bs_size s
 refine Wk_fn F.next (by simp [C31]) ?_
 simp only [C31]
 refine Wc_seq (Wc_ops (Wo_alloc fun h1 n1 => (Wo_run (fun _ => by simp only [go_sem, seval]; rfl) ?_)))
 show Wc T _ _ _
 have hg1 : h1.get b = some (.cells (scnC s a) true z) := by rw [n1.kept.get _ hb]; exact hg
 refine Wc_seq (Wc_ops (Wo_pre 1 (fun _ => by simp only [go_sem, seval]; rfl) ?_))
 refine Wo_call ((skip_ok F.skip F.peek hg1 ha hs).mono ?_)
 rintro o h2 ⟨⟨r, rfl⟩, g2⟩
 show Wo T _ _ _
 refine Wo_nil ?_
 show Wc T _ _ _
 have hk := skipN_le ((bs s).drop a) false
 rw [List.length_drop] at hk
 have hl1 : ((bs s).drop a).drop (skipN ((bs s).drop a) false) = (bs s).drop (a + skipN ((bs s).drop a) false) := List.drop_drop ..
 rw [nextL, hl1]
 generalize ha1 : a + skipN ((bs s).drop a) false = a1 at g2 ⊢
 have ha1' : a1 ≤ s.size := by omega
 clear hk hl1 ha1
 generalize hres : nextA ((bs s).drop a1) a1 = res
 have g20 := g2.get
 have q0 : (scnC s a1)[0]? = some (.string s) := rfl
 have q1 : (scnC s a1)[1]? = some (.int .i64 a1) := rfl
 have h12 : h2.next = h1.next := g2.next
 refine Wc_seq (Wc_draw_still (by decide) ?_)
 refine (Wo_pre 8 (fun _ => by simp only [go_sem, seval, g20, q1]; rfl) ?_)
 refine Wo_op (v := .agg (Tok.cells ⟨0, ⟨#[]⟩, a1, a1, 0⟩).toArray) (h' := h2) (by rfl) ?_
 refine Wo_op (v := ptr h2.next 0) (h' := h2.new (.cells z5 true 0)) rfl ?_
 refine Wo_store_new (cs := Tok.cells ⟨0, ⟨#[]⟩, a1, a1, 0⟩) (h := h2) (by first | rfl | assumption) (by first | rfl | assumption) rfl rfl fun h3 n3 => Wo_nil ⟨rfl, ?_⟩
 show Wc T _ _ _
 have hh1 : h.next < h1.next := by rw [n1.next]; exact Nat.lt_succ_self _
 have m3 : Mid b z h2.next s a1 h h3 (Tok.cells ⟨0, ⟨#[]⟩, a1, a1, 0⟩) := by
  refine ⟨(((n1.kept.but b).trans g2.but).kept n3.kept), ?_, ?_, n3.get, by rw [n3.next]; exact Nat.lt_succ_self _, hb, by omega⟩
  ·rw [n3.kept.get _ (by omega)]; exact g20
  ·rw [n3.kept.get _ (by omega), g2.but.get _ hh1 (by omega)]; exact n1.get
 generalize h2.next = tb at m3 ⊢
 clear n3 g20 g2 h12
 refine Wc_seq (Wc_ops (Wo_run (fun _ => by simp only [go_sem, seval]; rfl) ?_))
 show Wc T _ _ _
 have fin : ∀ (e : Env) (h' : Heap) (t : Tok) (er : Int) (a' : Nat), nextA ((bs s).drop a1) a1 = (t, er, a') → e 2 = ptr h.next 0 → e 3 = .int .i64 er → Mid b z tb s a' h h' t.cells → (Ex.ret = .normal ∨ Ex.ret = .ret) ∧ some ([] : List Dfr) = some [] ∧ ∃ vs, resAll e (h'.set h.next (.cells t.cells true 0)) [.cell 2 (some 5), .tmp 3] = some vs ∧ KeptBut b h (h'.set h.next (.cells t.cells true 0)) ∧ (h'.set h.next (.cells t.cells true 0)).get b = some (.cells (scnC s res.2.2) true z) ∧ Out.ret (tup vs) = .ret (.tuple #[.agg res.1.cells.toArray, .int .i64 res.2.1]) := by
  intro e h' t er a' hn e2 e3 m
  rw [hres] at hn
  subst hn
  have hlow := m.low
  refine ⟨.inr rfl, rfl, [.agg t.cells.toArray, .int .i64 er], ?_, m.but.set _ (.inr (Nat.le_refl _)), by rw [set_get_ne' _ _ (by omega)]; exact m.scn, rfl⟩
  have hc : (h'.set h.next (.cells t.cells true 0)).cells h.next 0 5 = some t.cells := cells_all (set_get' _ _ _) rfl
  simp only [resAll, resV, e2, e3, ptr, hc, Option.map_some]
 have tell : ∀ (e : Env) (h' : Heap) (t : Tok) (er : Int) (a' : Nat) (x : Nat), x ≠ 2 → x ≠ 4 → nextA ((bs s).drop a1) a1 = (t, er, a') → e 2 = .pointer (some ⟨h.next, 0, none⟩) → e 4 = .pointer (some ⟨tb, 0, none⟩) → Mid b z tb s a' h h' t.cells →
  Wc T (.seq (.ops [⟨some x, .op (.load (some 5) (.t 4)), none⟩, ⟨none, .op (.store 5 (.t 2) (.t x)), none⟩, ⟨some 3, .op (.mov (.c (.int .i64 er))), none⟩]) .ret) ⟨e, h', some []⟩ (fun y s' => y = .ret ∧ (Ex.ret = .normal ∨ Ex.ret = .ret) ∧ s'.d = some [] ∧ ∃ vs, resAll s'.e s'.h [.cell 2 (some 5), .tmp 3] = some vs ∧ KeptBut b h s'.h ∧ s'.h.get b = some (.cells (scnC s res.2.2) true z) ∧ Out.ret (tup vs) = .ret (.tuple #[.agg res.1.cells.toArray, .int .i64 res.2.1])) := by
  intro e h' t er a' x x2 x4 hn e2 e4 m
  have hct : h'.cells tb 0 5 = some t.cells := cells_all m.tok rfl
  refine Wc_seq (Wc_ops (Wo_op (v := .agg t.cells.toArray) (h' := h') (by simp only [iop, ev, e4, hct, Option.map_some]) ?_))
  refine Wo_op (iop_store (b := h.next) (esz := 0) (cs := t.cells) (z := z5) (by simp only [dstUpd, upd]; rw [if_neg (Ne.symm x2)]; exact e2) (by simp only [dstUpd, upd, if_true]) rfl m.res rfl) ?_
  refine Wo_op (v := .int .i64 er) (h' := _) rfl (Wo_nil ?_)
  have := fin (dstUpd (dstUpd (dstUpd e (some x) (.agg t.cells.toArray)) none undef) (some 3) (.int .i64 er)) h' t er a' hn (by simp only [dstUpd, upd]; rw [if_neg (by decide), if_neg (Ne.symm x2)]; exact e2) (by simp only [dstUpd, upd, if_true]) m
  exact Wc_ret ⟨rfl, this⟩
 have tellK : ∀ {c : IC} {st : St} {Q : Ex → St → Prop}, Wc T c st (fun y s' => y = .ret ∧ (Ex.ret = .normal ∨ Ex.ret = .ret) ∧ s'.d = some [] ∧ ∃ vs, resAll s'.e s'.h [.cell 2 (some 5), .tmp 3] = some vs ∧ KeptBut b h s'.h ∧ s'.h.get b = some (.cells (scnC s res.2.2) true z) ∧ Out.ret (tup vs) = .ret (.tuple #[.agg res.1.cells.toArray, .int .i64 res.2.1])) →
  (∀ s', ((Ex.ret = .normal ∨ Ex.ret = .ret) ∧ s'.d = some [] ∧ ∃ vs, resAll s'.e s'.h [.cell 2 (some 5), .tmp 3] = some vs ∧ KeptBut b h s'.h ∧ s'.h.get b = some (.cells (scnC s res.2.2) true z) ∧ Out.ret (tup vs) = .ret (.tuple #[.agg res.1.cells.toArray, .int .i64 res.2.1])) → Q .ret s') → Wc T c st Q := by
  intro c st Q hc hq
  exact hc.mono fun y s' hs => by
   obtain ⟨hy, hs⟩ := hs
   subst hy
   exact hq s' hs
 have pb : ptr b 0 = .pointer (some ⟨b, 0, none⟩) := rfl
 have hscn := m3.scn
 cases hc : (bs s)[a1]? with
 | none =>
  have hge : s.size ≤ a1 := by
   rw [hsz]; exact List.getElem?_eq_none_iff.1 hc
  have ha : a1 = s.size := by omega
  have hdrop : (bs s).drop a1 = [] := List.drop_of_length_le (by omega)
  refine Wc_seq (Wc_seq (Wc_ops (Wo_pre 1 (fun _ => by simp only [go_sem, seval]; rfl) ?_)))
  refine Wo_call (Wk_pure (peek_ok (a := a1) (k := 0) F.peek hscn (by omega)) ?_)
  have hcls : clsAt s (a1 + 0) = 0 := by rw [Nat.add_zero, clsAt, hc]
  rw [hcls]
  refine Wo_nil ?_
  show Wc T _ _ _
  refine Wc_block ?_
  refine Wc_case (by first | rfl | assumption) (fun y => absurd y (by decide)) (fun _ => ?_)
  refine Wc_case (by first | rfl | assumption) (fun y => absurd y (by decide)) (fun _ => ?_)
  refine Wc_case (by first | rfl | assumption) (fun y => absurd y (by decide)) (fun _ => ?_)
  refine Wc_case (by first | rfl | assumption) (fun y => absurd y (by decide)) (fun _ => ?_)
  have heq : (((a1 : Nat) : Int) == ((s.size : Nat) : Int)) = true := by rw [ha]; exact beq_self_eq_true _
  refine Wc_seq (Wc_draw_calm (by decide) (Wo_run (fun _ => by simp only [go_sem, seval, hscn, q0, q1, heq]; rfl) ?_))
  refine ⟨rfl, ?_⟩
  show Wc T _ _ _
  refine Wc_cond true (by first | rfl | assumption) (fun _ => ?_) nofun
  exact tellK (tell _ h3 ⟨0, ⟨#[]⟩, a1, a1, 0⟩ 0 a1 31 (by decide) (by decide) (by rw [hdrop]; rfl) (by first | rfl | assumption) (by first | rfl | assumption) m3) fun s' hs => hs
 | some c =>
  have hdrop := drop_at hc
  generalize (bs s).drop (a1 + 1) = r at hdrop
  have hl : ((bs s).drop a1).length = s.size - a1 := by rw [List.length_drop, hsz]
  have hn := lenT_le hdrop (fun _ => sign_fits hdrop)
  generalize hnn : lenT ((bs s).drop a1) c = n at hn
  have hna : a1 + n ≤ s.size := by omega
  have hlt : a1 < s.size := by rw [hsz]; exact (List.getElem?_eq_some_iff.1 hc).1
  have htx := ext_eq (n := n) hdrop
  generalize htt : s.extract a1 (a1 + n) = text at htx
  have hw : IntKind.i64.wrap (((a1 : Nat) : Int) + ((n : Nat) : Int)) = ((a1 + n : Nat) : Int) := by rw [wrap64] <;> omega
  have hb1 : bndV 0 s.size (.int .i64 ((a1 + n : Nat) : Int)) = some (a1 + n) := bnd_ok (Nat.zero_le _) hna
  have hb2 : bndV 0 (a1 + n) (.int .i64 ((a1 : Nat) : Int)) = some a1 := bnd_ok (Nat.zero_le _) (Nat.le_add_right _ _)
  have hcls : clsAt s (a1 + 0) = clsI c.toNat := by rw [Nat.add_zero, clsAt, hc]
  have hd : (bs s).drop a1 = c :: r := hdrop
  refine Wc_mid (fun s' => s'.d = some [] ∧ s'.e 0 = .pointer (some ⟨b, 0, none⟩) ∧ s'.e 2 = .pointer (some ⟨h.next, 0, none⟩) ∧ s'.e 4 = .pointer (some ⟨tb, 0, none⟩) ∧ s'.e 5 = .int .i64 ((n : Nat) : Int) ∧ Mid b z tb s a1 h s'.h (Tok.cells ⟨kindT c (wordB text), ⟨#[]⟩, a1, a1, 0⟩)) ?_ ?_
  ·refine Wc_seq (Wc_ops (Wo_pre 1 (fun _ => by simp only [go_sem, seval]; rfl) ?_))
   refine Wo_call (Wk_pure (peek_ok (a := a1) (k := 0) F.peek hscn (by omega)) ?_)
   rw [hcls]
   refine Wo_nil ?_
   show Wc T _ _ _
   have tl : 0 < (Tok.cells ⟨0, ⟨#[]⟩, a1, a1, 0⟩).length := by simp [Tok.cells]
   refine Wc_block ?_
   refine Wc_case (by first | rfl | assumption) (fun k2 => ?_) (fun k2 => ?_)
   ·-- a name or a word
    have hn2 : n = runN ((bs s).drop a1) := by rw [← hnn, lenT, if_pos k2]
    refine Wc_seq (Wc_ops (Wo_pre 1 (fun _ => by simp only [go_sem, seval]; rfl) ?_))
    refine Wo_call (Wk_pure (goes_ok F.goes F.peek hscn ha1' hs) ?_)
    rw [← hn2]
    refine (Wo_run (fun _ => by simp only [go_sem, seval]; rfl) ?_)
    show Wc T _ _ _
    refine Wc_seq (Wc_ops (Wo_pre 1 (fun _ => by simp only [go_sem, seval]; rfl) ?_))
    refine Wo_op (iop_store_at (k := 0) (v := .int .i64 1) (by first | rfl | assumption) rfl m3.tok tl) (Wo_nil ?_)
    show Wc T _ _ _
    rw [tok0]
    have m4 := m3.put (Tok.cells ⟨1, ⟨#[]⟩, a1, a1, 0⟩)
    have hscn4 := m4.scn
    refine Wc_seq (Wc_draw_still (by decide) ?_)
    refine (Wo_pre 15 (fun _ => by simp only [go_sem, seval, hscn4, q0, q1, hw, bndO, hb1, hb2, htt]; rfl) ?_)
    refine Wo_call (Wk_kept (wordS_ok F.word F.reserved (s := text)) fun h5 k5 => ?_)
    refine Wo_nil ⟨rfl, ?_⟩
    show Wc T _ _ _
    have m5 := m4.keep k5
    cases hwb : wordB text
    ·refine Wc_cond false (by simp only [go_sem, seval, hwb] <;> first | rfl | assumption | (symm; assumption)) nofun (fun _ => Wc_skip ?_)
     refine ⟨rfl, (by first | rfl | assumption), (by first | rfl | assumption), (by first | rfl | assumption), (by first | rfl | assumption), ?_⟩
     rw [kindT, if_pos k2]; exact m5
    ·refine Wc_cond true (by simp only [go_sem, seval, hwb] <;> first | rfl | assumption | (symm; assumption)) (fun _ => ?_) nofun
     refine Wc_ops (Wo_pre 1 (fun _ => by simp only [go_sem, seval]; rfl) ?_)
     refine Wo_op (iop_store_at (k := 0) (v := .int .i64 2) (by first | rfl | assumption) rfl m5.tok (by simp [Tok.cells])) (Wo_nil ?_)
     rw [tok0]
     refine ⟨rfl, (by first | rfl | assumption), (by first | rfl | assumption), (by first | rfl | assumption), (by first | rfl | assumption), ?_⟩
     rw [kindT, if_pos k2]; exact m5.put _
   refine Wc_case (by first | rfl | assumption) (fun k3 => ?_) (fun k3 => ?_)
   ·have hn3 : n = runN ((bs s).drop a1) := by rw [← hnn, lenT, if_neg k2, if_pos k3]
    refine Wc_seq (Wc_ops (Wo_pre 1 (fun _ => by simp only [go_sem, seval]; rfl) ?_))
    refine Wo_op (iop_store_at (k := 0) (v := .int .i64 4) (by first | rfl | assumption) rfl m3.tok tl) (Wo_nil ?_)
    show Wc T _ _ _
    rw [tok0]
    have m4 := m3.put (Tok.cells ⟨4, ⟨#[]⟩, a1, a1, 0⟩)
    refine Wc_ops (Wo_pre 1 (fun _ => by simp only [go_sem, seval]; rfl) ?_)
    refine Wo_call (Wk_pure (goes_ok F.goes F.peek m4.scn ha1' hs) ?_)
    rw [← hn3]
    refine (Wo_run (fun _ => by simp only [go_sem, seval]; rfl) ?_)
    refine ⟨rfl, (by first | rfl | assumption), (by first | rfl | assumption), (by first | rfl | assumption), (by first | rfl | assumption), ?_⟩
    rw [kindT, if_neg k2, if_pos k3]; exact m4
   refine Wc_case (by first | rfl | assumption) (fun k5 => ?_) (fun k5 => ?_)
   ·have hn5 : n = min 3 (s.size - a1) := by rw [← hnn, lenT, if_neg k2, if_neg k3, if_pos k5, hl]
    refine Wc_seq (Wc_ops (Wo_pre 1 (fun _ => by simp only [go_sem, seval]; rfl) ?_))
    refine Wo_op (iop_store_at (k := 0) (v := .int .i64 4) (by first | rfl | assumption) rfl m3.tok tl) (Wo_nil ?_)
    show Wc T _ _ _
    rw [tok0]
    have m4 := m3.put (Tok.cells ⟨4, ⟨#[]⟩, a1, a1, 0⟩)
    have hscn4 := m4.scn
    have hws : IntKind.i64.wrap (((s.size : Nat) : Int) - ((a1 : Nat) : Int)) = ((s.size - a1 : Nat) : Int) := by rw [wrap64] <;> omega
    have hmin : (if ((s.size - a1 : Nat) : Int) < 3 then Value.int .i64 ((s.size - a1 : Nat) : Int) else .int .i64 3) = .int .i64 ((n : Nat) : Int) := by
     rw [hn5]
     split
     ·congr 1; omega
     ·congr 1; omega
    refine Wc_draw_calm (by decide) ?_
    refine (Wo_pre 10 (fun _ => by simp only [go_sem, seval, hscn4, q0, q1, hws]; rfl) ?_)
    refine Wo_op (v := .int .i64 ((n : Nat) : Int)) (h' := _) (by
     simp only [iop, ev, upd, dstUpd, reduceIte, Nat.reduceEqDiff, Bool.false_eq_true]
     rw [← hmin]
     split <;> rfl) ?_
    refine (Wo_run (fun _ => by simp only [go_sem, seval]; rfl) ?_)
    refine ⟨rfl, rfl, (by first | rfl | assumption), (by first | rfl | assumption), (by first | rfl | assumption), (by first | rfl | assumption), ?_⟩
    rw [kindT, if_neg k2, if_neg k3, if_pos k5]; exact m4
   refine Wc_case (by first | rfl | assumption) (fun k4 => ?_) (fun k4 => ?_)
   ·have hn4 : n = signN c.toNat (bt (bs s) (a1 + 1)) := by
     rw [← hnn, lenT, if_neg k2, if_neg k3, if_neg k5, if_pos k4]
     congr 1
     simp [bt, List.getD_eq_getElem?_getD]
    refine Wc_seq (Wc_ops (Wo_pre 1 (fun _ => by simp only [go_sem, seval]; rfl) ?_))
    refine Wo_op (iop_store_at (k := 0) (v := .int .i64 3) (by first | rfl | assumption) rfl m3.tok tl) (Wo_nil ?_)
    show Wc T _ _ _
    rw [tok0]
    have m4 := m3.put (Tok.cells ⟨3, ⟨#[]⟩, a1, a1, 0⟩)
    refine Wc_ops (Wo_pre 1 (fun _ => by simp only [go_sem, seval]; rfl) ?_)
    refine Wo_call (Wk_pure (sign_ok F.sign m4.scn hc hs) ?_)
    rw [← hn4]
    refine (Wo_run (fun _ => by simp only [go_sem, seval]; rfl) ?_)
    refine ⟨rfl, (by first | rfl | assumption), (by first | rfl | assumption), (by first | rfl | assumption), (by first | rfl | assumption), ?_⟩
    rw [kindT, if_neg k2, if_neg k3, if_neg k5, if_pos k4]; exact m4
   ·have hn0 : n = 0 := by rw [← hnn, lenT, if_neg k2, if_neg k3, if_neg k5, if_neg k4]
    have hne : (((a1 : Nat) : Int) == ((s.size : Nat) : Int)) = false := beq_eq_false_iff_ne.2 (by omega)
    refine Wc_seq (Wc_draw_calm (by decide) (Wo_run (fun _ => by simp only [go_sem, seval, hscn, q0, q1, hne]; rfl) ?_))
    refine ⟨rfl, ?_⟩
    show Wc T _ _ _
    refine Wc_cond false (by first | rfl | assumption) nofun (fun _ => Wc_skip ?_)
    refine ⟨rfl, (by first | rfl | assumption), (by first | rfl | assumption), (by first | rfl | assumption), ?_, ?_⟩
    ·rw [hn0]; simp only [upd, dstUpd, reduceIte, Nat.reduceEqDiff]; rfl
    ·rw [kindT, if_neg k2, if_neg k3, if_neg k5, if_neg k4]; exact m3
  rintro ⟨e, h4, d⟩ ⟨hd4, e0, e2, e4, e5, m4⟩
  simp only at hd4 e0 e2 e4 e5 m4
  rw [hd4]
  generalize hkd : kindT c (wordB text) = kind at m4
  have hscn4 := m4.scn
  have hnx : nextA ((bs s).drop a1) a1 = if kind = 4 ∧ (numR (bs text)).2 = false then (⟨4, text, a1, a1, 0⟩, 41, a1) else if n = 0 then (⟨kind, text, a1, a1, if kind = 4 then (numR (bs text)).1 else 0⟩, 40, a1) else (⟨kind, text, a1, a1 + n, if kind = 4 then (numR (bs text)).1 else 0⟩, 0, a1 + n) := by
   rw [hd] at hnn ⊢
   simp only [nextA, hnn, ← htx, hkd]
  refine Wc_seq (Wc_draw_still (by decide) ?_)
  refine (Wo_pre 16 (fun _ => by simp only [go_sem, seval, e0, hscn4, q0, q1, e4, e5, hw, bndO, hb1, hb2, htt]; rfl) ?_)
  refine Wo_op (iop_store_at (k := 1) (v := .string text) (by first | rfl | assumption) (by simp only [ev, upd, dstUpd, reduceIte, Nat.reduceEqDiff]; rfl) m4.tok (by simp [Tok.cells])) (Wo_nil ⟨rfl, ?_⟩)
  show Wc T _ _ _
  rw [tok1]
  have m5 := m4.put (Tok.cells ⟨kind, text, a1, a1, 0⟩)
  generalize h4.set tb (.cells (Tok.cells ⟨kind, text, a1, a1, 0⟩) true 0) = h5 at m5 ⊢
  have ht5 := m5.tok
  refine Wc_mid (fun s' => s'.d = some [] ∧ s'.e 0 = .pointer (some ⟨b, 0, none⟩) ∧ s'.e 2 = .pointer (some ⟨h.next, 0, none⟩) ∧ s'.e 4 = .pointer (some ⟨tb, 0, none⟩) ∧ s'.e 5 = .int .i64 ((n : Nat) : Int) ∧ ¬ (kind = 4 ∧ (numR (bs text)).2 = false) ∧ Mid b z tb s a1 h s'.h (Tok.cells ⟨kind, text, a1, a1, if kind = 4 then (numR (bs text)).1 else 0⟩)) ?_ ?_
  ·by_cases k4 : kind = 4
   case neg =>
    have hk : (kind == 4) = false := beq_eq_false_iff_ne.2 k4
    refine Wc_seq (Wc_ops (Wo_run (fun _ => by simp only [go_sem, seval, e4, ht5, Tok.cells, hk]; rfl) ?_))
    show Wc T _ _ _
    refine Wc_cond false (by first | rfl | assumption) nofun (fun _ => Wc_skip ?_)
    refine ⟨rfl, (by simp only [go_sem, seval, e0] <;> first | rfl | assumption | (symm; assumption)), (by simp only [go_sem, seval, e2] <;> first | rfl | assumption | (symm; assumption)), (by simp only [go_sem, seval, e4] <;> first | rfl | assumption | (symm; assumption)), (by simp only [go_sem, seval, e5] <;> first | rfl | assumption | (symm; assumption)), fun h => k4 h.1, ?_⟩
    rw [if_neg k4]; exact m5
   have hk : (kind == 4) = true := beq_iff_eq.2 k4
   refine Wc_seq (Wc_ops (Wo_run (fun _ => by simp only [go_sem, seval, e4, ht5, Tok.cells, hk]; rfl) ?_))
   show Wc T _ _ _
   refine Wc_cond true (by first | rfl | assumption) (fun _ => ?_) nofun
   refine Wc_seq (Wc_ops (Wo_pre 2 (fun _ => by simp only [go_sem, seval, e4, ht5, Tok.cells]; rfl) ?_))
   refine Wo_call (Wk_pure (numberS_ok F.Number F.worth (s := text) (by rw [← htt, ByteArray.size_extract]; omega)) ?_)
   refine (Wo_run (fun _ => by simp only [go_sem, seval, numV]; rfl) ?_)
   show Wc T _ _ _
   cases hnum : (numR (bs text)).2
   ·refine Wc_seq (Wc_seq (Wc_ops (Wo_run (fun _ => by simp only [go_sem, seval, hnum]; rfl) ?_)))
    show Wc T _ _ _
    refine Wc_cond true (by first | rfl | assumption) (fun _ => ?_) nofun
    refine tellK (tell _ h5 ⟨4, text, a1, a1, 0⟩ 41 a1 105 (by decide) (by decide) (by rw [hnx, if_pos ⟨k4, hnum⟩]) (by simp only [go_sem, seval, e2] <;> first | rfl | assumption | (symm; assumption)) (by simp only [go_sem, seval, e4] <;> first | rfl | assumption | (symm; assumption)) (by rw [← k4]; exact m5)) fun s' hs => hs
   refine Wc_seq (Wc_seq (Wc_ops (Wo_run (fun _ => by simp only [go_sem, seval, hnum]; rfl) ?_)))
   show Wc T _ _ _
   refine Wc_cond false (by first | rfl | assumption) nofun (fun _ => Wc_skip ?_)
   show Wc T _ _ _
   refine Wc_ops (Wo_pre 2 (fun _ => by simp only [go_sem, seval, e4]; rfl) ?_)
   refine Wo_op (iop_store_at (k := 4) (v := .int .i64 (numR (bs text)).1) (by first | rfl | assumption) (by simp only [ev, upd, dstUpd, reduceIte, Nat.reduceEqDiff]; rfl) m5.tok (by simp [Tok.cells])) (Wo_nil ?_)
   rw [tok4]
   refine ⟨rfl, (by simp only [go_sem, seval, e0] <;> first | rfl | assumption | (symm; assumption)), (by simp only [go_sem, seval, e2] <;> first | rfl | assumption | (symm; assumption)), (by simp only [go_sem, seval, e4] <;> first | rfl | assumption | (symm; assumption)), (by simp only [go_sem, seval, e5] <;> first | rfl | assumption | (symm; assumption)), (fun h => by cases h.2), ?_⟩
   rw [if_pos k4]; exact m5.put _
  rintro ⟨e', h6, d⟩ ⟨hd6, f0, f2, f4, f5, hok, m6⟩
  simp only at hd6 f0 f2 f4 f5 m6
  rw [hd6]
  rw [if_neg hok] at hnx
  generalize hnm : (if kind = 4 then (numR (bs text)).1 else 0) = num at hnx m6
  by_cases hn0 : n = 0
  ·have hz : (((n : Nat) : Int) == 0) = true := by rw [hn0]; rfl
   refine Wc_seq (Wc_seq (Wc_ops (Wo_run (fun _ => by simp only [go_sem, seval, f5, hz]; rfl) ?_)))
   show Wc T _ _ _
   refine Wc_cond true (by first | rfl | assumption) (fun _ => ?_) nofun
   exact tellK (tell _ h6 ⟨kind, text, a1, a1, num⟩ 40 a1 110 (by decide) (by decide) (by rw [hnx, if_pos hn0]) (by simp only [go_sem, seval, f2] <;> first | rfl | assumption | (symm; assumption)) (by simp only [go_sem, seval, f4] <;> first | rfl | assumption | (symm; assumption)) m6) fun s' hs => hs
  have hz : (((n : Nat) : Int) == 0) = false := beq_eq_false_iff_ne.2 (by omega)
  rw [if_neg hn0] at hnx
  have hscn6 := m6.scn
  refine Wc_seq (Wc_seq (Wc_ops (Wo_run (fun _ => by simp only [go_sem, seval, f5, hz]; rfl) ?_)))
  show Wc T _ _ _
  refine Wc_cond false (by first | rfl | assumption) nofun (fun _ => Wc_skip ?_)
  show Wc T _ _ _
  refine Wc_seq (Wc_ops (Wo_pre 8 (fun _ => by simp only [go_sem, seval, f0, f5, hscn6, q1, hw]; rfl) ?_))
  refine Wo_op (iop_store_at (k := 1) (v := .int .i64 ((a1 + n : Nat) : Int)) (by first | rfl | assumption) (by simp only [ev, upd, dstUpd, reduceIte, Nat.reduceEqDiff]; rfl) hscn6 (scn_len _ _)) (Wo_nil ?_)
  show Wc T _ _ _
  have hset : (scnC s a1).set 1 (.int .i64 ((a1 + n : Nat) : Int)) = scnC s (a1 + n) := rfl
  rw [hset]
  have m7 := m6.go (a1 + n)
  have hscn7 := m7.scn
  have q1' : (scnC s (a1 + n))[1]? = some (.int .i64 ((a1 + n : Nat) : Int)) := rfl
  refine Wc_seq (Wc_ops (Wo_pre 5 (fun _ => by simp only [go_sem, seval, f0, f4, hscn7, q1']; rfl) ?_))
  refine Wo_op (iop_store_at (k := 3) (v := .int .i64 ((a1 + n : Nat) : Int)) (by first | rfl | assumption) (by simp only [ev, upd, dstUpd, reduceIte, Nat.reduceEqDiff]; rfl) m7.tok (by simp [Tok.cells])) (Wo_nil ?_)
  show Wc T _ _ _
  rw [tok3]
  exact tellK (tell _ _ ⟨kind, text, a1, a1 + n, num⟩ 0 (a1 + n) 124 (by decide) (by decide) hnx (by simp only [go_sem, seval, f2] <;> first | rfl | assumption | (symm; assumption)) (by simp only [go_sem, seval, f4] <;> first | rfl | assumption | (symm; assumption)) (m7.put _)) fun s' hs => hs
end Go.Idl
end

section
namespace Go.Idl
variable {T : Tbl}
theorem tok_len (t : Tok) : t.cells.length = 5 := rfl
def scanL : Nat → List UInt8 → Nat → List Tok → List Tok × Nat × Int
 | 0, _, _, _ => ([], 0, 0)
 | f + 1, l, a, acc =>
  let r := nextL l a
  if r.2.1 = 0 then (if r.1.kind = 0 then (acc ++ [r.1], 0, 0) else scanL f (l.drop (r.2.2 - a)) r.2.2 (acc ++ [r.1])) else ([], r.1.frm, r.2.1)
def scanS (s : ByteArray) : List Tok × Nat × Int := if 200000 < s.size then ([], 0, 2) else scanL (s.size + 1) (bs s) 0 []
theorem nextL_go {l : List UInt8} {a : Nat} (h : (nextL l a).2.1 = 0) (hk : (nextL l a).1.kind ≠ 0) : a < (nextL l a).2.2 ∧ (nextL l a).2.2 ≤ a + l.length := by
 have hs := skipN_le l false
 rw [nextL] at h hk ⊢
 generalize hl : l.drop (skipN l false) = l1 at h hk ⊢
 have hl1 : l1.length = l.length - skipN l false := by rw [← hl, List.length_drop]
 cases l1 with
 | nil => exact absurd rfl hk
 | cons c r =>
  have hn := lenT_le (l := c :: r) rfl (fun _ => sign_fits rfl)
  rw [hl1] at hn
  have hpos : 0 < l.length - skipN l false := by rw [← hl1]; simp
  simp only [nextA] at h ⊢
  split at h
  ·cases h
  ·rename_i h1
   rw [if_neg h1]
   split at h
   ·cases h
   ·rename_i h2
    rw [if_neg h2]
    simp only
    omega
theorem scan_ok (F : LexFns T) (hT : T.fn 16 = some C16) (hc : ∀ (h : Heap) (K : Out → Heap → Prop), K (.ret clsV) h → Wk T (.fn 30) [] h K) {s : ByteArray} {h : Heap} (hs : s.size < 4611686018427387904) :
 Wk T (.fn 16) [.string s] h (fun o h' => Kept h h' ∧ ∃ v, o = .ret (.tuple #[v, .int .i64 (scanS s).2.1, .int .i64 (scanS s).2.2]) ∧ ownL Tok.cells 5 h.next h' v (scanS s).1) := by
 refine Wk_fn hT (by simp [C16]) ?_
 simp only [C16]
 generalize hres : scanS s = res
 have fin : ∀ (e : Env) (h' : Heap) (v : Value) (x : Ex), (x = .normal ∨ x = .ret) → Kept h h' → e 2 = v → e 3 = .int .i64 res.2.1 → e 4 = .int .i64 res.2.2 → ownL Tok.cells 5 h.next h' v res.1 → (x = .normal ∨ x = .ret) ∧ some ([] : List Dfr) = some [] ∧ ∃ vs, resAll e h' [.tmp 2, .tmp 3, .tmp 4] = some vs ∧ Kept h h' ∧ ∃ v, Out.ret (tup vs) = .ret (.tuple #[v, .int .i64 res.2.1, .int .i64 res.2.2]) ∧ ownL Tok.cells 5 h.next h' v res.1 := fun e h' v x hx hk e2 e3 e4 ho =>
  ⟨hx, rfl, [v, .int .i64 res.2.1, .int .i64 res.2.2], by simp only [resAll, resV, e2, e3, e4], hk, v, rfl, ho⟩
 refine Wc_seq (Wc_ops (Wo_run (fun _ => by simp only [go_sem, seval]; rfl) ?_))
 show Wc T _ _ _
 by_cases hlong : 200000 < s.size
 ·have h1 : (200000 : Int) < ((s.size : Nat) : Int) := by omega
  rw [scanS, if_pos hlong] at hres
  subst hres
  refine Wc_seq (Wc_seq (Wc_ops (Wo_run (fun _ => by simp only [go_sem, seval, h1]; rfl) ?_)))
  show Wc T _ _ _
  refine Wc_cond true (by first | rfl | assumption) (fun _ => ?_) nofun
  refine Wc_seq (Wc_ops (Wo_run (fun _ => by simp only [go_sem, seval]; rfl) ?_))
  exact Wc_ret (fin _ _ (.slice none 0 0) _ (.inr rfl) (.refl _) (by first | rfl | assumption) (by first | rfl | assumption) (by first | rfl | assumption) (.inl ⟨rfl, rfl⟩))
 have h1 : ¬ (200000 : Int) < ((s.size : Nat) : Int) := by omega
 rw [scanS, if_neg hlong] at hres
 refine Wc_seq (Wc_seq (Wc_ops (Wo_run (fun _ => by simp only [go_sem, seval, h1]; rfl) ?_)))
 show Wc T _ _ _
 refine Wc_cond false (by first | rfl | assumption) nofun (fun _ => Wc_skip ?_)
 show Wc T _ _ _
 refine Wc_seq (Wc_ops (Wo_pre 1 (fun _ => by simp only [go_sem, seval]; rfl) ?_))
 refine Wo_call (hc _ _ ?_)
 show Wo T _ _ _
 refine Wo_op (v := .agg (scnC s 0).toArray) (h' := h) ?_ ?_
 ·have := build_scn s
  simp only [iop, evps, List.map_cons, List.map_nil, ev, upd, dstUpd, args0, List.getD_cons_zero, reduceIte, Nat.reduceEqDiff]
  rw [show ([(0, 1, Value.string s), (2, 256, clsV)] : List (Nat × Nat × Value)) = [(0, 1, .string s), (2, 256, clsV)] from rfl]
  exact congrArg (Option.map _) this
 refine Wo_box (cs := scnC s 0) rfl fun h2 n2 => ?_
 refine (Wo_run (fun _ => by simp only [go_sem, seval]; rfl) ?_)
 show Wc T _ _ _
 refine Wc_seq (Wc_ops (Wo_run (fun _ => by simp only [go_sem, seval]; rfl) ?_))
 show Wc T _ _ _
 have hsz : s.size = (bs s).length := bs_size s
 refine Wc_block (Wc_loopF (fun e h' d => d = some [] ∧ Kept h h' ∧ h.next < h'.next ∧ ∃ a acc f, a ≤ s.size ∧ s.size - a < f ∧ acc.length ≤ a ∧ h'.get h.next = some (.cells (scnC s a) true 0) ∧ scanL f ((bs s).drop a) a acc = res ∧ ownL Tok.cells 5 (h.next + 1) h' (e 6) acc) (fun _ h' => farH h.next s h') ?_ ?_)
 ·refine ⟨rfl, n2.kept, by show h.next < h2.next; rw [n2.next]; exact Nat.lt_succ_self _, 0, [], s.size + 1, Nat.zero_le _, by omega, Nat.le_refl _, n2.get, hres, .inl ⟨rfl, (by first | rfl | assumption)⟩⟩
 rintro e h3 d ⟨rfl, hk, hlt, a, acc, f, ha, hf, hacc, hg, hsc, hown⟩ hfr
 have e5 : e 5 = .pointer (some ⟨h.next, 0, none⟩) := ((hfr 5 (by decide)).trans (by first | rfl | assumption | (symm; assumption)))
 obtain ⟨f, rfl⟩ : ∃ g, f = g + 1 := ⟨f - 1, by omega⟩
 have hgo := nextL_go (l := (bs s).drop a) (a := a)
 rw [List.length_drop, ← hsz] at hgo
 rw [scanL] at hsc
 have far3 : farH h.next s h3 = s.size - a := by simp [farH, hg, scnC]
 have pp : ptr h.next 0 = .pointer (some ⟨h.next, 0, none⟩) := rfl
 refine Wc_block (Wc_seq (Wc_ops (Wo_pre 1 (fun _ => by simp only [go_sem, seval, e5]; rfl) ?_)))
 refine Wo_call ((next_ok F hg hlt ha hs).mono ?_)
 generalize nextL ((bs s).drop a) a = r at hsc hgo ⊢
 obtain ⟨t, er, a'⟩ := r
 rintro o h4 ⟨k4, g4, rfl⟩
 simp only at hsc hgo g4
 show Wo T _ _ _
 refine (Wo_pre 4 (fun _ => by simp only [go_sem, seval]; rfl) ?_)
 refine Wo_store_new (cs := t.cells) (h := h4) (by first | rfl | assumption) (by first | rfl | assumption) rfl rfl fun h5 n5 => ?_
 refine (Wo_run (fun _ => by simp only [go_sem, seval]; rfl) ?_)
 show Wc T _ _ _
 have k34 : Kept h h5 := ⟨Nat.le_trans hk.next (Nat.le_trans k4.next n5.kept.next), fun b hb => by
  have := hk.next
  rw [n5.kept.get _ (by have := k4.next; omega), k4.get _ (by omega) (by omega), hk.get _ hb]⟩
 have h4n : h3.next ≤ h4.next := k4.next
 have ht5 := n5.get
 have hct : h5.cells h4.next 0 5 = some t.cells := cells_all ht5 rfl
 have g5 : h5.get h.next = some (.cells (scnC s a') true 0) := by rw [n5.kept.get _ (by omega)]; exact g4
 by_cases her : er = 0
 case neg =>
  have hb : (er != 0) = true := by simp [her]
  rw [if_neg her] at hsc
  subst hsc
  refine Wc_seq (Wc_seq (Wc_ops (Wo_run (fun _ => by simp only [go_sem, seval, hb]; rfl) ?_)))
  show Wc T _ _ _
  refine Wc_cond true (by first | rfl | assumption) (fun _ => ?_) nofun
  refine Wc_seq (Wc_draw_calm (by decide) (Wo_run (fun _ => by simp only [go_sem, seval, ht5, Tok.cells]; rfl) ?_))
  refine ⟨rfl, ?_⟩
  exact Wc_ret (fin _ _ (.slice none 0 0) _ (.inr rfl) k34 (by first | rfl | assumption) (by first | rfl | assumption) (by first | rfl | assumption) (.inl ⟨rfl, rfl⟩))
 have hb : (er != 0) = false := by simp [her]
 rw [if_pos her] at hsc
 refine Wc_seq (Wc_seq (Wc_ops (Wo_run (fun _ => by simp only [go_sem, seval, hb]; rfl) ?_)))
 show Wc T _ _ _
 refine Wc_cond false (by first | rfl | assumption) nofun (fun _ => Wc_skip ?_)
 show Wc T _ _ _
 have own5 : ownL Tok.cells 5 (h.next + 1) h5 (e 6) acc := hown.keep (by have := n5.kept.next; omega) fun b h1 h2 => by
  rw [n5.kept.get _ (by omega), k4.get _ h2 (by omega)]
 refine Wc_seq (Wc_ops (Wo_pre 2 (fun _ => by simp only [go_sem, seval, hct]; rfl) ?_))
 refine Wo_new (v := .slice (some ⟨h5.next, 0, none⟩) 1 1) (B := .cells t.cells true 5) (by rfl) fun h6 n6 => ?_
 have hel : elemsOf h6 5 (.slice (some ⟨h5.next, 0, none⟩) 1 1) = some ([t].length, [t].flatMap Tok.cells) := by
  simp only [elemsOf, Nat.one_ne_zero, if_false, Heap.cells, n6.get]; rfl
 have own6 := own5.kept n6.kept
 have h56 : h5.next ≤ h6.next := n6.kept.next
 have h45 : h4.next < h5.next := by rw [n5.next]; exact Nat.lt_succ_self _
 obtain ⟨v', h7, happ, hbs, own7⟩ := own6.append tok_len (bytes := 48) (x := .slice (some ⟨h5.next, 0, none⟩) 1 1) (m := [t]) (by omega) hel (by simp; omega)
 refine Wo_op (v := v') (h' := h7) (by simp only [iop, ev, upd, dstUpd, reduceIte, Nat.reduceEqDiff]; exact happ) ?_
 refine (Wo_run (fun _ => by simp only [go_sem, seval]; rfl) ?_)
 show Wc T _ _ _
 have lo : ∀ b, b < h.next + 1 → h7.get b = h5.get b := fun b hb => by
  rw [own6.beside hbs hb (by omega), n6.kept.get _ (by omega)]
 have k7 : Kept h h7 := ⟨Nat.le_trans k34.next (Nat.le_trans h56 hbs.next), fun b hb => by rw [lo b (by omega), k34.get b hb]⟩
 have hct7 : h7.get h4.next = some (.cells t.cells true 0) := by
  have : h7.get h4.next = h6.get h4.next := by
   refine hbs.get _ (by omega) ?_
   intro p n c hv
   rcases own6 with ⟨_, e1⟩ | ⟨k, e1, e2, e3, e4⟩
   ·rw [e1] at hv; cases hv
   ·rw [e3] at hv
    cases hv
    rintro rfl
    rcases own5 with ⟨_, e5'⟩ | ⟨k', q1, q2, q3, q4⟩
    ·rw [e5'] at e3; cases e3
    ·rw [q3] at e3
     simp only [Value.slice.injEq, Option.some.injEq, Addr.mk.injEq, true_and] at e3
     have hkk := e3.1.1
     subst hkk
     rw [ht5] at q4
     simp only [Option.some.injEq, Blk.cells.injEq] at q4
     exact absurd q4.2.2 (by decide)
  rw [this, n6.kept.get _ (by omega)]; exact ht5
 refine Wc_seq (Wc_ops (Wo_run (fun _ => by simp only [go_sem, seval, hct7, Tok.cells]; rfl) ?_))
 show Wc T _ _ _
 by_cases hk0 : t.kind = 0
 ·have hz : (t.kind == 0) = true := beq_iff_eq.2 hk0
  rw [if_pos hk0] at hsc
  subst hsc
  refine Wc_cond true (by simp only [go_sem, seval, hz] <;> first | rfl | assumption | (symm; assumption)) (fun _ => ?_) nofun
  refine Wc_seq (Wc_ops (Wo_run (fun _ => by simp only [go_sem, seval]; rfl) ?_))
  exact Wc_ret (fin _ _ v' _ (.inr rfl) k7 (by first | rfl | assumption) (by first | rfl | assumption) (by first | rfl | assumption) (own7.mono (by omega)))
 ·have hz : (t.kind == 0) = false := beq_eq_false_iff_ne.2 hk0
  rw [if_neg hk0] at hsc
  obtain ⟨g1, g2⟩ := hgo her hk0
  have g7 : h7.get h.next = some (.cells (scnC s a') true 0) := by rw [lo _ (by omega)]; exact g5
  have hdd : ((bs s).drop a).drop (a' - a) = (bs s).drop a' := by rw [List.drop_drop]; congr 1; omega
  rw [hdd] at hsc
  refine Wc_cond false (by simp only [go_sem, seval, hz] <;> first | rfl | assumption | (symm; assumption)) nofun (fun _ => Wc_skip ?_)
  refine ⟨⟨rfl, k7, ?_, a', acc ++ [t], f, by omega, by omega, by rw [List.length_append, List.length_singleton]; omega, g7, hsc, ?_⟩, ?_⟩
  ·show h.next < h7.next
   have := hbs.next; omega
  ·have : (upd (fun _ => undef) 0 undef : Env) = upd (fun _ => undef) 0 undef := rfl
   simpa only [upd, dstUpd, reduceIte, Nat.reduceEqDiff] using own7
  ·rw [far3]
   show farH h.next s h7 < _
   have : farH h.next s h7 = s.size - a' := by simp [farH, g7, scnC]
   rw [this]; omega
end Go.Idl
end

section
namespace Go.Idl
def C21L0 : IC := (.seq (.ops [Sb 23 .lss (.t 22) (.t 21)]) (.seq (.cond (.t 23) .skip (.exit 2)) (.seq (.block 3 (.seq (.ops [Si 24 1 20 22, Sl 25 24, Sm 7 25]) (.seq (.draw [Sm 26 7, Sb 27 .geq (.t 26) (Ci 0), Sm 28 27, Sg 29 (.mov (.t 7)) 28 true, Sg 30 (.mov (.t 4)) 28 true, Sg 31 (.bin .lss (.t 29) (.t 30)) 28 true, Sx 32 (.pick (.t 28) (.t 31) (.c (.bool false))), Sm 33 32, Sg 34 (.mov (.t 3)) 33 true, Sg 35 (.mov (.t 7)) 33 true, Sg 36 (.iaddr (.sl 1) (.t 34) (.t 35)) 33 true, Sg 37 (.load none (.t 36)) 33 true, Sg 38 (.mov (.t 3)) 33 true, Sg 39 (.mov (.t 4)) 33 true, Sg 40 (.iaddr (.sl 1) (.t 38) (.t 39)) 33 true, Sg 41 (.load none (.t 40)) 33 true, Sg 42 (.bin .gtr (.t 37) (.t 41)) 33 true, Sx 43 (.pick (.t 33) (.t 42) (.c (.bool false)))] [[], [0], [1, 0], [2, 1, 0], [2, 1, 0], [2, 1, 0, 4, 3], [5, 2, 1, 0, 4, 3], [2, 1, 0, 6, 5, 4, 3], [7, 2, 1, 0, 6, 5, 4, 3], [7, 2, 1, 0, 6, 5, 4, 3], [7, 2, 1, 0, 6, 5, 4, 3, 9, 8], [7, 2, 1, 0, 6, 5, 4, 3, 10, 9, 8], [7, 2, 1, 0, 6, 5, 4, 3], [7, 2, 1, 0, 6, 5, 4, 3], [7, 2, 1, 0, 6, 5, 4, 3, 13, 12], [7, 2, 1, 0, 6, 5, 4, 3, 14, 13, 12], [7, 2, 1, 0, 6, 5, 4, 3, 15, 14, 13, 12, 11, 10, 9, 8], [16, 7, 2, 1, 0, 6, 5, 4, 3, 15, 14, 13, 12, 11, 10, 9, 8]]) (.cond (.t 43) (.ops [Sm 44 3, Sm 45 4, Sm 46 3, Sm 47 7, Si 48 1 46 47, Sl 49 48, Si 50 1 44 45, Su (.store 1 (.t 50) (.t 49))]) .skip)))) (.ops [Sb 51 .add (.t 22) (Ci 1), Sm 22 51])))) def C21L1 : IC := (.seq (.ops [Sb 15 .lss (.t 14) (.t 13)]) (.seq (.cond (.t 15) .skip (.exit 0)) (.seq (.block 1 (.seq (.ops [Sm 16 14, Si 17 4 12 14, Sx 18 (.load (some 4) (.t 17)), Sx 5 (.alloc [.int .i64 0, .string ⟨#[]⟩, (.slice none 0 0), .int .i64 0]), Sm 4 16, Su (.store 4 (.t 5) (.t 18))]) (.seq (.seq (.ops [Sf 19 2 5, Sl 20 19, Sx 21 (.len .sl (.t 20)), Sx 22 (.mov (Ci 0))]) (.block 2 (.loop C21L0))) (.ops [Sm 52 3, Sm 53 4, Si 54 1 52 53, Sl 55 54, Sb 56 .add (.t 55) (Ci 1), Si 57 1 52 53, Su (.store 1 (.t 57) (.t 56))])))) (.ops [Sb 58 .add (.t 14) (Ci 1), Sm 14 58])))) def C21 : IFn := ⟨66, (.seq (.ops [Sx 2 (.mov (Ci 0))]) (.seq (.ops [Sm 8 0, Sx 9 (.len .sl (.t 8)), Sb 10 .add (.t 9) (Ci 1), Sx 11 (.mkslice 1 8 [.int .i64 0] (.t 10) (.t 10)), Sm 3 11]) (.seq (.seq (.ops [Sm 12 0, Sx 13 (.len .sl (.t 12)), Sx 14 (.mov (Ci 0))]) (.block 0 (.loop C21L1))) (.seq (.ops [Sm 59 3, Sm 60 0, Sx 61 (.len .sl (.t 60)), Sb 62 .sub (.t 61) (Ci 1), Sx 63 (.minmax true (.t 62) (Ci 0)), Si 64 1 59 63, Sl 65 64, Sm 2 65]) .ret)))), [.tmp 2]⟩
end Go.Idl
end

section
namespace Go.Idl
structure Nd where
 kind : Int
 text : ByteArray
 kids : List Int
 kv : Value
 pos : Int
def Nd.cells (x : Nd) : List Value := [.int .i64 x.kind, .string x.text, x.kv, .int .i64 x.pos]
def flatN : List Nd → List Value
 | [] => []
 | x :: l => .int .i64 x.kind :: .string x.text :: x.kv :: .int .i64 x.pos :: flatN l
def nodesAt (h : Heap) (v : Value) (l : List Nd) : Prop :=
 ((v = .slice none 0 0 ∧ l = []) ∨ ∃ b c, v = .slice (some ⟨b, 0, none⟩) l.length c ∧ b < h.next ∧ (l = [] ∨ ∃ o z, h.get b = some (.cells (flatN l) o z))) ∧ ∀ x ∈ l, intsAt h x.kv x.kids
theorem nodesAt.keep {h h' : Heap} (hk : Kept h h') {v : Value} {l : List Nd} (hh : nodesAt h v l) : nodesAt h' v l := by
 refine ⟨?_, fun x hx => (hh.2 x hx).keep hk⟩
 rcases hh.1 with hh | ⟨b, c, h1, h2, h3⟩
 ·exact .inl hh
 ·exact .inr ⟨b, c, h1, Nat.lt_of_lt_of_le h2 hk.next, h3.imp id fun ⟨o, z, h⟩ => ⟨o, z, by rw [hk.get b h2]; exact h⟩⟩
theorem flatN_length : ∀ l : List Nd, (flatN l).length = l.length * 4
 | [] => rfl
 | x :: l => by simp [flatN, flatN_length l]; omega
theorem flatN_drop : ∀ (l : List Nd) (i : Nat) (x : Nd), l[i]? = some x → ((flatN l).drop (i * 4)).take 4 = [.int .i64 x.kind, .string x.text, x.kv, .int .i64 x.pos]
 | [], i, x, h => by simp at h
 | y :: l, 0, x, h => by simp at h; subst h; simp [flatN]
 | y :: l, i + 1, x, h => by
  have := flatN_drop l i x (by simpa using h)
  rw [show (i + 1) * 4 = i * 4 + 4 by omega]
  simpa [flatN] using this
theorem nodesAt.load {h : Heap} {v : Value} {l : List Nd} (hh : nodesAt h v l) {i : Nat} {x : Nd} (hi : l[i]? = some x) : ∃ b c, v = .slice (some ⟨b, 0, none⟩) l.length c ∧ b < h.next ∧ (∃ o z, h.get b = some (.cells (flatN l) o z)) ∧ h.cells b (0 + i * 4) 4 = some [.int .i64 x.kind, .string x.text, x.kv, .int .i64 x.pos] := by
 have hlt : i < l.length := (List.getElem?_eq_some_iff.1 hi).1
 rcases hh.1 with ⟨_, rfl⟩ | ⟨b, c, h1, h2, h3⟩
 ·simp at hlt
 ·rcases h3 with rfl | h3
  ·simp at hlt
  ·refine ⟨b, c, h1, h2, h3, ?_⟩
   obtain ⟨o, z, h3⟩ := h3
   simp only [Heap.cells, h3, flatN_length, Nat.zero_add]
   rw [if_pos (by omega), flatN_drop l i x hi]
end Go.Idl
end

section
namespace Go.Idl
theorem nodesAt.len {h : Heap} {v : Value} {l : List Nd} (hh : nodesAt h v l) : ∃ a c, v = .slice a l.length c := by
 rcases hh.1 with ⟨rfl, rfl⟩ | ⟨b, c, h1, _⟩
 ·exact ⟨none, 0, rfl⟩
 ·exact ⟨_, c, h1⟩
end Go.Idl
end

section
namespace Go.Idl
def inner (D : List Nat) (m : Nat) (k : Int) : Nat := if 0 ≤ k ∧ k < D.length then max m (D.getD k.toNat 0 + 1) else m
def dep (D : List Nat) (ks : List Int) : Nat := ks.foldl (inner D) 1
def kidsOf (l : List Nd) (n : Nat) : List Int := (l[n]?.map (·.kids)).getD []
def depsN (l : List Nd) : Nat → List Nat
 | 0 => []
 | n + 1 => depsN l n ++ [dep (depsN l n) (kidsOf l n)]
def deepOf (l : List Nd) : Nat := (depsN l l.length).getD (l.length - 1) 0
theorem depsN_length (l : List Nd) : ∀ n, (depsN l n).length = n
 | 0 => rfl
 | n + 1 => by simp [depsN, depsN_length l n]
theorem inner_take {D : List Nat} {ks : List Int} {j : Nat} {k : Int} (h : ks[j]? = some k) (m : Nat) : (ks.take (j + 1)).foldl (inner D) m = inner D ((ks.take j).foldl (inner D) m) k := by
 rw [List.take_add_one, h]; simp
theorem fold_pos (D : List Nat) : ∀ (ks : List Int) (m : Nat), m ≤ ks.foldl (inner D) m
 | [], m => Nat.le_refl _
 | k :: ks, m => Nat.le_trans (by unfold inner; split <;> omega) (fold_pos D ks _)
theorem fold_le {D : List Nat} {B : Nat} (hD : ∀ k, D.getD k 0 ≤ B) : ∀ (ks : List Int) (m : Nat), m ≤ B + 1 → ks.foldl (inner D) m ≤ B + 1
 | [], m, h => h
 | k :: ks, m, h => fold_le hD ks _ (by have := hD k.toNat; unfold inner; split <;> omega)
theorem depsN_le (l : List Nd) : ∀ n k, (depsN l n).getD k 0 ≤ n
 | 0, k => by simp [depsN]
 | n + 1, k => by
  have ih := depsN_le l n
  simp only [depsN, List.getD_eq_getElem?_getD] at ih ⊢
  rw [List.getElem?_append]
  split
  ·have := ih k; omega
  ·rw [List.getElem?_singleton]
   split
   ·exact fold_le (fun k => by simpa [List.getD_eq_getElem?_getD] using ih k) _ 1 (by omega)
   ·simp
def natC (A : List Nat) : List Value := A.map fun (n : Nat) => Value.int .i64 (n : Int)
theorem natC_get {A : List Nat} {i a : Nat} (h : A[i]? = some a) : (natC A)[i]? = some (.int .i64 a) := by simp [natC, h]
theorem natC_set (A : List Nat) (i a : Nat) : (natC A).set i (.int .i64 a) = natC (A.set i a) := by simp [natC]
theorem natC_length (A : List Nat) : (natC A).length = A.length := by simp [natC]
theorem natC_zero (n : Nat) : (List.replicate n [Value.int .i64 0]).flatten = natC (List.replicate n 0) := by
 induction n with
 | zero => rfl
 | succ n ih => simp only [List.replicate_succ, List.flatten_cons, ih]; rfl
end Go.Idl
end

section
namespace Go.Idl
structure Arr (l : List Nd) (n m : Nat) (A : List Nat) : Prop where
 len : A.length = l.length + 1
 low : ∀ k, k < n → A[k]? = (depsN l n)[k]?
 at' : A[n]? = some (m - 1)
 high : ∀ k, n < k → k ≤ l.length → A[k]? = some 0
def slN (b n : Nat) : Value := .slice (some ⟨b, 0, none⟩) n n
theorem deep13_kid {T : Tbl} {l : List Nd} {n : Nat} (hn : n < l.length) (hN : l.length ≤ 100000) {ks : List Int} {h0 : Heap} {bl : Nat} {kv : Value} (hbl : h0.next ≤ bl) (hki : intsAt h0 kv ks)
 {e : Env} {hp : Heap} (h3 : e 3 = slN bl (l.length + 1)) (h4 : e 4 = .int .i64 n) (h20 : e 20 = kv) (h21 : e 21 = .int .i64 ks.length) {j : Nat} (hj : j ≤ ks.length) (h22 : e 22 = .int .i64 j)
 (hkl : ks.length < 4611686018427387904) (hk : Kept h0 hp) (hbn : bl < hp.next) {A : List Nat} (hA : hp.get bl = some (.cells (natC A) true 1)) (ha : Arr l n ((ks.take j).foldl (inner (depsN l n)) 1) A) {Q : Ex → St → Prop}
 (hgo : ∀ (e' : Env) (hp' : Heap) (A' : List Nat), (∀ t, t < 7 → e' t = e t) → (∀ t, 7 < t → t < 22 → e' t = e t) → e' 22 = .int .i64 ((j + 1 : Nat) : Int) → j < ks.length → Kept h0 hp' → hp.next = hp'.next → hp'.get bl = some (.cells (natC A') true 1) → Arr l n ((ks.take (j + 1)).foldl (inner (depsN l n)) 1) A' →
  (∀ b, b ≠ bl → hp'.get b = hp.get b) → Q .normal ⟨e', hp', some []⟩)
 (hend : ∀ e' : Env, (∀ t, t < 22 → e' t = e t) → j = ks.length → Q (.brk 2) ⟨e', hp, some []⟩) : Wc T C21L0 ⟨e, hp, some []⟩ Q := by
 rw [C21L0]
 refine Wc_seq (Wc_ops (Wo_run (fun _ => by simp only [iops_nil, iops_op, iops_grd, iK_some, iG_true, iG_false, gval_bool, beq_true, beq_false, Bool.not_true, Bool.not_false, iop, ev, upd, dstUpd, h21, h22, binV, binI, reduceIte, Option.map_some]; rfl) ?_))
 show Wc T _ _ _
 refine Wc_seq (Wc_cond (decide ((j : Int) < ks.length)) (by simp [ev, upd]) (fun hlt => Wc_skip ?_) (fun hge => Wc_exit ?_))
 case refine_2 =>
  refine hend _ (fun t ht => by simp only [upd]; rw [if_neg (by omega)]) (by simp at hge; omega)
 show Wc T _ _ _
 have hjl : j < ks.length := by simpa using hlt
 obtain ⟨k, hkj⟩ : ∃ k, ks[j]? = some k := ⟨_, List.getElem?_eq_getElem hjl⟩
 obtain ⟨b, c, rfl, hb0, ⟨o, z, hg0⟩, hcell⟩ := hki.load hkj
 have hb : b < hp.next := Nat.lt_of_lt_of_le hb0 hk.next
 have hg : hp.get b = some (.cells (ints64 ks) o z) := by rw [hk.get b hb0]; exact hg0
 have e1 : IntKind.i64.wrap ((j : Int) + 1) = ((j + 1 : Nat) : Int) := by rw [wrap64] <;> omega
 have hfold := inner_take hkj (D := depsN l n) 1
 have hDl := depsN_length l n
 have hbb : b ≠ bl := by omega
 refine Wc_seq (Wc_block (Wc_seq (Wc_ops (Wo_run (fun call => by
  simp only [iops_nil, iops_op, iops_grd, iK_some, iG_true, iG_false, gval_bool, beq_true, beq_false, Bool.not_true, Bool.not_false, iop, ev, upd, dstUpd, h20, h22, idx_ok hjl, ptr, Heap.cell, hg, hcell, Option.map_some, reduceIte, Nat.reduceEqDiff]
  rfl) ?_))))
 show Wc T _ _ _
 have last : ∀ (e' : Env) (hp' : Heap) (A' : List Nat), (∀ t, t < 7 → e' t = e t) → (∀ t, 7 < t → t < 23 → e' t = e t) → Kept h0 hp' → hp.next = hp'.next → hp'.get bl = some (.cells (natC A') true 1) → Arr l n (inner (depsN l n) ((ks.take j).foldl (inner (depsN l n)) 1) k) A' → (∀ b, b ≠ bl → hp'.get b = hp.get b) →
  To (Tb 3 (Tn T (.ops [⟨(some 51), .op (.bin .add (.t 22) (.c (.int .i64 1))), none⟩, ⟨(some 22), .op (.mov (.t 51)), none⟩]) Q)) none ⟨e', hp', some []⟩ := by
  intro e' hp' A' f1 f2 f3 f4 f5 f6 f7
  show Wc T _ _ _
  have g22 : e' 22 = .int .i64 j := by rw [f2 22 (by omega) (by omega)]; exact h22
  refine Wc_ops (Wo_run (fun _ => by simp only [iops_nil, iops_op, iops_grd, iK_some, iG_true, iG_false, gval_bool, beq_true, beq_false, Bool.not_true, Bool.not_false, iop, ev, upd, dstUpd, g22, e1, binV, binI, reduceIte, Nat.reduceEqDiff, Option.map_some]; rfl) ?_)
  refine hgo _ hp' A' (fun t ht => ?_) (fun t h1 h2 => ?_) (by simp [upd]) hjl f3 f4 f5 (by rw [hfold]; exact f6) f7
  ·simp only [upd]; rw [if_neg (by omega), if_neg (by omega)]; exact f1 t ht
  ·simp only [upd]; rw [if_neg (by omega), if_neg (by omega)]; exact f2 t h1 (by omega)
 have hcalm : calm [⟨(some 26), .op (.mov (.t 7)), none⟩,
  ⟨(some 27), .op (.bin .geq (.t 26) (.c (.int .i64 0))), none⟩,
  ⟨(some 28), .op (.mov (.t 27)), none⟩,
  ⟨(some 29), .op (.mov (.t 7)), (some (28, true))⟩,
  ⟨(some 30), .op (.mov (.t 4)), (some (28, true))⟩,
  ⟨(some 31), .op (.bin .lss (.t 29) (.t 30)), (some (28, true))⟩,
  ⟨(some 32), .op (.pick (.t 28) (.t 31) (.c (.bool false))), none⟩,
  ⟨(some 33), .op (.mov (.t 32)), none⟩,
  ⟨(some 34), .op (.mov (.t 3)), (some (33, true))⟩,
  ⟨(some 35), .op (.mov (.t 7)), (some (33, true))⟩,
  ⟨(some 36), .op (.iaddr (.sl 1) (.t 34) (.t 35)), (some (33, true))⟩,
  ⟨(some 37), .op (.load none (.t 36)), (some (33, true))⟩,
  ⟨(some 38), .op (.mov (.t 3)), (some (33, true))⟩,
  ⟨(some 39), .op (.mov (.t 4)), (some (33, true))⟩,
  ⟨(some 40), .op (.iaddr (.sl 1) (.t 38) (.t 39)), (some (33, true))⟩,
  ⟨(some 41), .op (.load none (.t 40)), (some (33, true))⟩,
  ⟨(some 42), .op (.bin .gtr (.t 37) (.t 41)), (some (33, true))⟩,
  ⟨(some 43), .op (.pick (.t 33) (.t 42) (.c (.bool false))), none⟩] = true := by decide
 have easy : ∀ (e' : Env), (∀ t, t < 7 → e' t = e t) → (∀ t, 7 < t → t < 23 → e' t = e t) → inner (depsN l n) ((ks.take j).foldl (inner (depsN l n)) 1) k = (ks.take j).foldl (inner (depsN l n)) 1 →
  To (Tb 3 (Tn T (.ops [⟨(some 51), .op (.bin .add (.t 22) (.c (.int .i64 1))), none⟩, ⟨(some 22), .op (.mov (.t 51)), none⟩]) Q)) none ⟨e', hp, some []⟩ := fun e' f1 f2 f3 =>
  last e' hp A f1 f2 hk rfl hA (by rw [f3]; exact ha) (fun _ _ => rfl)
 by_cases hk0 : 0 ≤ k
 case neg =>
  refine Wc_seq (Wc_draw_calm hcalm (Wo_run (fun call => by
   simp only [iops_nil, iops_op, iops_grd, iK_some, iG_true, iG_false, gval_bool, beq_true, beq_false, Bool.not_true, Bool.not_false, iop, ev, upd, dstUpd, h4, binV, binI, hk0, ge_iff_le, decide_false, reduceIte, Nat.reduceEqDiff, Option.map_some, Bool.false_eq_true, beq_iff_eq]
   rfl) ⟨rfl, ?_⟩))
  show Wc T _ _ _
  refine Wc_cond false (by simp [ev, upd]) nofun (fun _ => Wc_skip ?_)
  exact easy _ (fun t ht => by simp only [upd]; repeat rw [if_neg (by omega)]) (fun t h1 h2 => by simp only [upd]; repeat rw [if_neg (by omega)]) (by unfold inner; rw [if_neg (by omega)])
 by_cases hkn : k < n
 case neg =>
  refine Wc_seq (Wc_draw_calm hcalm (Wo_run (fun call => by
   simp only [iops_nil, iops_op, iops_grd, iK_some, iG_true, iG_false, gval_bool, beq_true, beq_false, Bool.not_true, Bool.not_false, iop, ev, upd, dstUpd, h4, binV, binI, hk0, hkn, ge_iff_le, decide_true, decide_false, reduceIte, Nat.reduceEqDiff, Option.map_some, Bool.false_eq_true, beq_iff_eq]
   rfl) ⟨rfl, ?_⟩))
  show Wc T _ _ _
  refine Wc_cond false (by simp [ev, upd]) nofun (fun _ => Wc_skip ?_)
  exact easy _ (fun t ht => by simp only [upd]; repeat rw [if_neg (by omega)]) (fun t h1 h2 => by simp only [upd]; repeat rw [if_neg (by omega)]) (by unfold inner; rw [if_neg (by omega)])
 obtain ⟨kk, rfl⟩ : ∃ kk : Nat, k = kk := ⟨k.toNat, by omega⟩
 have hkn' : kk < n := by omega
 obtain ⟨a, hDa⟩ : ∃ a, (depsN l n)[kk]? = some a := ⟨_, List.getElem?_eq_getElem (by omega)⟩
 have hAk : A[kk]? = some a := by rw [ha.low kk hkn', hDa]
 have hm := fold_pos (depsN l n) (ks.take j) 1
 have hin : inner (depsN l n) ((ks.take j).foldl (inner (depsN l n)) 1) (kk : Int) = max ((ks.take j).foldl (inner (depsN l n)) 1) (a + 1) := by
  unfold inner
  rw [if_pos (by omega)]
  simp [List.getD_eq_getElem?_getD, hDa]
 generalize (ks.take j).foldl (inner (depsN l n)) 1 = m at *
 have hkA : (natC A)[0 + kk * 1]? = some (.int .i64 a) := by rw [Nat.zero_add, Nat.mul_one]; exact natC_get hAk
 have hnA : (natC A)[0 + n * 1]? = some (.int .i64 ((m - 1 : Nat) : Int)) := by rw [Nat.zero_add, Nat.mul_one]; exact natC_get ha.at'
 have hset : (natC A).set (0 + n * 1) (.int .i64 a) = natC (A.set n a) := by rw [Nat.zero_add, Nat.mul_one]; exact natC_set A n a
 have hlen : 0 + n * 1 + 1 ≤ (natC A).length := by rw [natC_length, ha.len]; omega
 by_cases hgt : ((m - 1 : Nat) : Int) < (a : Int)
 ·refine Wc_seq (Wc_draw_calm hcalm (Wo_run (fun call => by
   simp only [iops_nil, iops_op, iops_grd, iK_some, iG_true, iG_false, gval_bool, beq_true, beq_false, Bool.not_true, Bool.not_false, iop, ev, upd, dstUpd, h3, h4, slN, binV, binI, hk0, hkn, idx_ok (show kk < l.length + 1 by omega), idx_ok (show n < l.length + 1 by omega), ptr, Heap.cell, hA, hkA, hnA, hgt, gt_iff_lt, ge_iff_le, decide_true, decide_false, reduceIte, Nat.reduceEqDiff, Option.map_some, Bool.false_eq_true, beq_iff_eq]
   rfl) ⟨rfl, ?_⟩))
  show Wc T _ _ _
  refine Wc_cond true (by simp [ev, upd]) (fun _ => ?_) nofun
  refine Wc_ops (Wo_run (fun call => by
   simp only [iops_nil, iops_op, iops_grd, iK_some, iop, ev, upd, dstUpd, h3, h4, slN, idx_ok (show kk < l.length + 1 by omega), idx_ok (show n < l.length + 1 by omega), ptr, Heap.cell, Heap.write, cellsOf, put, hA, hkA, hset, hlen, List.length_cons, List.length_nil, reduceIte, Nat.reduceEqDiff, Nat.reduceAdd, Option.map_some]
   rfl) ?_)
  refine last _ _ (A.set n a) (fun t ht => by simp only [upd]; repeat rw [if_neg (by omega)]) (fun t h1 h2 => by simp only [upd]; repeat rw [if_neg (by omega)]) (hk.set hbl _) rfl (set_get' _ _ _) ?_ (fun b hb => set_get_ne' _ _ hb)
  rw [hin]
  have he : max m (a + 1) = a + 1 := by omega
  rw [he]
  refine ⟨by simp [ha.len], fun t ht => ?_, ?_, fun t h1 h2 => ?_⟩
  ·rw [List.getElem?_set_ne (by omega)]; exact ha.low t ht
  ·rw [List.getElem?_set_self (by rw [ha.len]; omega)]; rfl
  ·rw [List.getElem?_set_ne (by omega)]; exact ha.high t h1 h2
 ·refine Wc_seq (Wc_draw_calm hcalm (Wo_run (fun call => by
   simp only [iops_nil, iops_op, iops_grd, iK_some, iG_true, iG_false, gval_bool, beq_true, beq_false, Bool.not_true, Bool.not_false, iop, ev, upd, dstUpd, h3, h4, slN, binV, binI, hk0, hkn, idx_ok (show kk < l.length + 1 by omega), idx_ok (show n < l.length + 1 by omega), ptr, Heap.cell, hA, hkA, hnA, hgt, gt_iff_lt, ge_iff_le, decide_true, decide_false, reduceIte, Nat.reduceEqDiff, Option.map_some, Bool.false_eq_true, beq_iff_eq]
   rfl) ⟨rfl, ?_⟩))
  show Wc T _ _ _
  refine Wc_cond false (by simp [ev, upd]) nofun (fun _ => Wc_skip ?_)
  exact easy _ (fun t ht => by simp only [upd]; repeat rw [if_neg (by omega)]) (fun t h1 h2 => by simp only [upd]; repeat rw [if_neg (by omega)]) (by rw [hin]; omega)
end Go.Idl
end

section
namespace Go.Idl
theorem Arr.done {l : List Nd} {n : Nat} (hn : n < l.length) {A : List Nat} (ha : Arr l n (dep (depsN l n) (kidsOf l n)) A) : Arr l (n + 1) 1 (A.set n (dep (depsN l n) (kidsOf l n))) := by
 have hD := depsN_length l n
 refine ⟨by simp [ha.len], fun k hk => ?_, ?_, fun k h1 h2 => ?_⟩
 ·simp only [depsN]
  by_cases e : k = n
  ·subst e
   rw [List.getElem?_set_self (by rw [ha.len]; omega), List.getElem?_append_right (by omega), hD, Nat.sub_self]; rfl
  ·rw [List.getElem?_set_ne (by omega), List.getElem?_append_left (by omega)]
   exact ha.low k (by omega)
 ·rw [List.getElem?_set_ne (by omega)]; exact ha.high (n + 1) (by omega) (by omega)
 ·rw [List.getElem?_set_ne (by omega)]; exact ha.high k (by omega) h2
theorem deep13_node {T : Tbl} {l : List Nd} (hN : l.length ≤ 100000) (hK : ∀ x ∈ l, x.kids.length ≤ 100000) {h0 : Heap} {bl : Nat} {v : Value} (hbl : h0.next ≤ bl) (hn : nodesAt h0 v l)
 {e : Env} {hp : Heap} {n : Nat} (hnl : n ≤ l.length) (h3 : e 3 = slN bl (l.length + 1)) (h12 : e 12 = v) (h13 : e 13 = .int .i64 l.length) (h14 : e 14 = .int .i64 n) (h0' : e 0 = v)
 (hk : Kept h0 hp) (hbn : bl < hp.next) {A : List Nat} (hA : hp.get bl = some (.cells (natC A) true 1)) (ha : Arr l n 1 A) {Q : Ex → St → Prop}
 (hgo : n < l.length → ∀ (e' : Env) (hp' : Heap) (A' : List Nat), e' 3 = e 3 → e' 12 = v → e' 13 = e 13 → e' 14 = .int .i64 ((n + 1 : Nat) : Int) → e' 0 = v → Kept h0 hp' → bl < hp'.next → hp'.get bl = some (.cells (natC A') true 1) → Arr l (n + 1) 1 A' → Q .normal ⟨e', hp', some []⟩)
 (hend : n = l.length → ∀ e' : Env, e' 3 = e 3 → e' 0 = v → Q (.brk 0) ⟨e', hp, some []⟩) : Wc T C21L1 ⟨e, hp, some []⟩ Q := by
 rw [C21L1]
 refine Wc_seq (Wc_ops (Wo_run (fun _ => by simp only [iops_nil, iops_op, iK_some, iop, ev, upd, dstUpd, h13, h14, binV, binI, reduceIte, Option.map_some]; rfl) ?_))
 show Wc T _ _ _
 refine Wc_seq (Wc_cond (decide ((n : Int) < l.length)) (by simp [ev, upd]) (fun hlt => Wc_skip ?_) (fun hge => Wc_exit ?_))
 case refine_2 => exact hend (by simp at hge; omega) _ (by simp [upd]) (by simp only [upd, Nat.reduceEqDiff, reduceIte]; exact h0')
 show Wc T _ _ _
 have hil : n < l.length := by simpa using hlt
 obtain ⟨x, hx⟩ : ∃ x, l[n]? = some x := ⟨_, List.getElem?_eq_getElem hil⟩
 have hxm := List.mem_of_getElem? hx
 obtain ⟨b, c, rfl, hb, ⟨o, z, hg⟩, hcells⟩ := (hn.keep hk).load hx
 obtain ⟨ka, kc, hkv⟩ := (hn.2 x hxm).len
 have hki := hn.2 x hxm
 have hkl := hK x hxm
 have e1 : IntKind.i64.wrap ((n : Int) + 1) = ((n + 1 : Nat) : Int) := by rw [wrap64] <;> omega
 have hkids : kidsOf l n = x.kids := by simp [kidsOf, hx]
 refine Wc_seq (Wc_block (Wc_seq (Wc_ops (Wo_run (fun call => by
  simp only [iops_nil, iops_op, iK_some, iop, ev, upd, dstUpd, h12, h14, idx_ok hil, ptr, hcells, Option.map_some, cellsOf, Heap.write, Heap.new, Heap.set, put, List.length_cons, List.length_nil, reduceIte, Nat.reduceEqDiff, Nat.reduceAdd, Nat.reduceLeDiff, List.set_cons_zero, List.set_cons_succ]
  rfl) ?_))))
 show Wc T _ _ _
 refine Wc_seq (Wc_seq (Wc_ops (Wo_run (fun call => by
  simp only [iops_nil, iops_op, iK_some, iop, ev, upd, dstUpd, ptr, hkv, Option.map_some, Heap.cell, reduceIte, Nat.reduceEqDiff, Nat.reduceAdd, Nat.zero_add, List.getElem?_cons_zero, List.getElem?_cons_succ]
  rfl) ?_)))
 show Wc T _ _ _
 have hbb : bl ≠ hp.next := by omega
 refine Wc_block (Wc_loop (fun s => s.d = some [] ∧ Kept h0 s.h ∧ bl < s.h.next ∧ s.e 0 = .slice (some ⟨b, 0, none⟩) l.length c ∧ s.e 3 = e 3 ∧ s.e 4 = .int .i64 n ∧ s.e 12 = .slice (some ⟨b, 0, none⟩) l.length c ∧ s.e 13 = e 13 ∧ s.e 14 = .int .i64 n ∧ s.e 20 = x.kv ∧ s.e 21 = .int .i64 x.kids.length ∧
  ∃ j : Nat, j ≤ x.kids.length ∧ s.e 22 = .int .i64 j ∧ ∃ A, s.h.get bl = some (.cells (natC A) true 1) ∧ Arr l n ((x.kids.take j).foldl (inner (depsN l n)) 1) A)
  (fun s => match s.e 22 with | .int _ i => (x.kids.length - i).toNat | _ => 0) ?_ ?_)
 ·refine ⟨rfl, (hk.new _).set hk.next _, by simp only [Heap.set, Heap.new]; omega, by simp only [upd, Nat.reduceEqDiff, reduceIte]; exact h0', by simp only [upd, Nat.reduceEqDiff, reduceIte], by simp only [upd, Nat.reduceEqDiff, reduceIte],
   by simp only [upd, Nat.reduceEqDiff, reduceIte]; exact h12, by simp only [upd, Nat.reduceEqDiff, reduceIte], by simp only [upd, Nat.reduceEqDiff, reduceIte]; exact h14, by simp only [upd, Nat.reduceEqDiff, reduceIte, hkv], by simp only [upd, Nat.reduceEqDiff, reduceIte],
   0, Nat.zero_le _, by simp only [upd, Nat.reduceEqDiff, reduceIte]; rfl, A, ?_, ha⟩
  simp only [if_neg hbb]; exact hA
 ·rintro ⟨e2, hp2, d2⟩ ⟨hd, gk, gbn, g0, g3, g4, g12, g13, g14, g20, g21, j, hj, g22, A2, gA, ga⟩
  simp only at hd gk gbn g0 g3 g4 g12 g13 g14 g20 g21 g22 gA
  subst hd
  refine deep13_kid hil hN hbl hki (g3.trans h3) g4 g20 g21 hj g22 (by omega) gk gbn gA ga ?_ ?_
  ·intro e' hp' A' f1 f2 f3 f4 f5 f6 f7 f8 f9
   refine ⟨⟨rfl, f5, by rw [← f6]; exact gbn, (f1 0 (by omega)).trans g0, (f1 3 (by omega)).trans g3, (f1 4 (by omega)).trans g4, (f2 12 (by omega) (by omega)).trans g12, (f2 13 (by omega) (by omega)).trans g13,
    (f2 14 (by omega) (by omega)).trans g14, (f2 20 (by omega) (by omega)).trans g20, (f2 21 (by omega) (by omega)).trans g21, j + 1, f4, f3, A', f7, f8⟩, ?_⟩
   simp only [f3, g22]
   omega
  ·intro e' f1 f2
   subst f2
   show Wc T _ _ _
   rw [List.take_length] at ga
   have hdep : (x.kids.foldl (inner (depsN l n)) 1) = dep (depsN l n) (kidsOf l n) := by rw [hkids]; rfl
   rw [hdep] at ga
   have hpos : 1 ≤ dep (depsN l n) (kidsOf l n) := fold_pos _ _ 1
   have hle : dep (depsN l n) (kidsOf l n) ≤ n + 1 := fold_le (fun k => depsN_le l n k) _ 1 (by omega)
   have k3 : e' 3 = slN bl (l.length + 1) := by rw [f1 3 (by omega), g3, h3]
   have k4 : e' 4 = .int .i64 n := by rw [f1 4 (by omega), g4]
   have k14 : e' 14 = .int .i64 n := by rw [f1 14 (by omega), g14]
   have hnA : (natC A2)[0 + n * 1]? = some (.int .i64 ((dep (depsN l n) (kidsOf l n) - 1 : Nat) : Int)) := by rw [Nat.zero_add, Nat.mul_one]; exact natC_get ga.at'
   have hset : (natC A2).set (0 + n * 1) (.int .i64 (dep (depsN l n) (kidsOf l n))) = natC (A2.set n (dep (depsN l n) (kidsOf l n))) := by rw [Nat.zero_add, Nat.mul_one]; exact natC_set A2 n _
   have hlen : 0 + n * 1 + 1 ≤ (natC A2).length := by rw [natC_length, ga.len]; omega
   have e2 : IntKind.i64.wrap (((dep (depsN l n) (kidsOf l n) - 1 : Nat) : Int) + 1) = ((dep (depsN l n) (kidsOf l n) : Nat) : Int) := by rw [wrap64] <;> omega
   refine Wc_ops (Wo_run (fun call => by
    simp only [iops_nil, iops_op, iK_some, iop, ev, upd, dstUpd, k3, k4, slN, idx_ok (show n < l.length + 1 by omega), ptr, Heap.cell, Heap.write, cellsOf, put, gA, hnA, binV, binI, e2, hset, hlen, List.length_cons, List.length_nil, reduceIte, Nat.reduceEqDiff, Nat.reduceAdd, Option.map_some]
    rfl) ?_)
   show Wc T _ _ _
   refine Wc_ops (Wo_run (fun _ => by simp only [iops_nil, iops_op, iK_some, iop, ev, upd, dstUpd, k14, e1, binV, binI, reduceIte, Nat.reduceEqDiff, Option.map_some]; rfl) ?_)
   refine hgo hil _ _ _ ?_ ?_ ?_ ?_ ?_ (gk.set hbl _) gbn (set_get' _ _ _) (ga.done hil)
   ·simp only [upd, Nat.reduceEqDiff, reduceIte]; rw [f1 3 (by omega), g3]
   ·simp only [upd, Nat.reduceEqDiff, reduceIte]; rw [f1 12 (by omega), g12]
   ·simp only [upd, Nat.reduceEqDiff, reduceIte]; rw [f1 13 (by omega), g13]
   ·simp only [upd, Nat.reduceEqDiff, reduceIte]
   ·simp only [upd, Nat.reduceEqDiff, reduceIte]; rw [f1 0 (by omega), g0]
theorem arr_begin (l : List Nd) : Arr l 0 1 (List.replicate (l.length + 1) 0) :=
 ⟨by simp, fun k hk => by omega, by simp, fun k h1 h2 => by rw [List.getElem?_replicate, if_pos (by omega)]⟩
theorem deep13 {T : Tbl} (hT : T.fn 21 = some C21) {h : Heap} {v : Value} {l : List Nd} (hn : nodesAt h v l) (hN : l.length ≤ 100000) (hK : ∀ x ∈ l, x.kids.length ≤ 100000) :
 Wk T (.fn 21) [v] h (fun o h' => Kept h h' ∧ o = .ret (.int .i64 (deepOf l))) := by
 obtain ⟨va, vc, hv⟩ := hn.len
 refine Wk_fn hT (by simp [C21]) ?_
 simp only [C21]
 refine Wc_seq (Wc_ops (Wo_run (fun _ => by simp only [iops_nil, iops_op, iK_some, iop, ev, upd, dstUpd, reduceIte]; rfl) ?_))
 show Wc T _ _ _
 have e1 : IntKind.i64.wrap ((l.length : Int) + 1) = ((l.length + 1 : Nat) : Int) := by rw [wrap64] <;> omega
 have hsz : (0 : Int) ≤ ((l.length + 1 : Nat) : Int) ∧ ((l.length + 1 : Nat) : Int) ≤ ((l.length + 1 : Nat) : Int) ∧ ((l.length + 1 : Nat) : Int) * ((8 : Nat) : Int) ≤ 140737488355328 := by omega
 refine Wc_seq (Wc_ops (Wo_run (fun call => by
  simp only [iops_nil, iops_op, iK_some, iop, ev, upd, dstUpd, args0, hv, e1, hsz, and_self, binV, binI, reduceIte, Nat.reduceEqDiff, Option.map_some, List.getD_cons_zero, Int.toNat_natCast, natC_zero]
  rfl) ?_))
 show Wc T _ _ _
 refine Wc_seq (Wc_seq (Wc_ops (Wo_run (fun _ => by simp only [iops_nil, iops_op, iK_some, iop, ev, upd, dstUpd, args0, hv, reduceIte, Nat.reduceEqDiff, List.getD_cons_zero]; rfl) ?_)))
 show Wc T _ _ _
 have hk0 : Kept h (h.new (.cells (natC (List.replicate (l.length + 1) 0)) true 1)) := (Kept.refl h).new _
 refine Wc_block (Wc_loop (fun s => s.d = some [] ∧ Kept h s.h ∧ h.next < s.h.next ∧ s.e 0 = v ∧ s.e 3 = slN h.next (l.length + 1) ∧ s.e 12 = v ∧ s.e 13 = .int .i64 l.length ∧ ∃ n : Nat, n ≤ l.length ∧ s.e 14 = .int .i64 n ∧ ∃ A, s.h.get h.next = some (.cells (natC A) true 1) ∧ Arr l n 1 A)
  (fun s => match s.e 14 with | .int _ i => (l.length - i).toNat | _ => 0) ?_ ?_)
 ·refine ⟨rfl, hk0, Nat.lt_succ_self _, by simp only [upd, Nat.reduceEqDiff, reduceIte, args0, List.getD_cons_zero, hv], by simp only [upd, Nat.reduceEqDiff, reduceIte, slN], by simp only [upd, Nat.reduceEqDiff, reduceIte, hv], by simp only [upd, Nat.reduceEqDiff, reduceIte],
   0, Nat.zero_le _, by simp only [upd, Nat.reduceEqDiff, reduceIte]; rfl, _, ?_, arr_begin l⟩
  simp [Heap.new]
 ·rintro ⟨e, hp, d⟩ ⟨hd, gk, gbn, g0, g3, g12, g13, n, hnl, g14, A, gA, ga⟩
  simp only at hd gk gbn g0 g3 g12 g13 g14 gA
  subst hd
  refine deep13_node hN hK (Nat.le_refl _) hn hnl g3 g12 g13 g14 g0 gk gbn gA ga ?_ ?_
  ·intro hlt e' hp' A' f3 f12 f13 f14 f0 fk fbn fA fa
   refine ⟨⟨rfl, fk, fbn, f0, f3.trans g3, f12, f13.trans g13, n + 1, hlt, f14, A', fA, fa⟩, ?_⟩
   simp only [f14, g14]
   omega
  ·intro hnn e' f3 f0
   subst hnn
   show Wc T _ _ _
   have k3 : e' 3 = slN h.next (l.length + 1) := f3.trans g3
   have hmx : (if (0 : Int) > IntKind.i64.wrap ((l.length : Int) - 1) then (0 : Int) else IntKind.i64.wrap ((l.length : Int) - 1)) = ((l.length - 1 : Nat) : Int) := by
    rw [wrap64] <;> first | (split <;> omega) | omega
   have hAt : A[l.length - 1]? = some (deepOf l) := by
    by_cases hz : l.length = 0
    ·have := ga.at'
     rw [hz] at this ⊢
     simp only [this, deepOf, hz, depsN]
     rfl
    ·rw [ga.low _ (by omega)]
     unfold deepOf
     rw [List.getD_eq_getElem?_getD, List.getElem?_eq_getElem (by rw [depsN_length]; omega)]
     rfl
   have hg : (natC A)[0 + (l.length - 1) * 1]? = some (.int .i64 (deepOf l)) := by rw [Nat.zero_add, Nat.mul_one]; exact natC_get hAt
   refine Wc_seq (Wc_ops (Wo_run (fun call => by
    simp only [iops_nil, iops_op, iK_some, iop, ev, upd, dstUpd, k3, f0, hv, slN, hmx, idx_ok (show l.length - 1 < l.length + 1 by omega), ptr, Heap.cell, gA, hg, binV, binI, reduceIte, Nat.reduceEqDiff, Option.map_some]
    rfl) ?_))
   show Wc T _ _ _
   refine Wc_ret ⟨.inr rfl, rfl, [.int .i64 (deepOf l)], ?_, gk, rfl⟩
   simp only [C21, resAll, resV, upd, Nat.reduceEqDiff, reduceIte]
end Go.Idl
end

section
namespace Go.Idl
structure Arr2 (l : List Nd) (n : Nat) (A : List Nat) : Prop where
 len : A.length = l.length
 low : ∀ k, k < n → A[k]? = (depsN l n)[k]?
end Go.Idl
end

section
namespace Go.Idl
theorem Arr2.done {l : List Nd} {n : Nat} (hn : n < l.length) {A : List Nat} (ha : Arr2 l n A) (hat : A[n]? = some (dep (depsN l n) (kidsOf l n))) : Arr2 l (n + 1) A := by
 have hD := depsN_length l n
 refine ⟨ha.len, fun k hk => ?_⟩
 simp only [depsN]
 by_cases e : k = n
 ·subst e
  rw [hat, List.getElem?_append_right (by omega), hD, Nat.sub_self]; rfl
 ·rw [List.getElem?_append_left (by omega)]
  exact ha.low k (by omega)
end Go.Idl
end

section
namespace Go.Idl
def C13L0 : IC := (.seq (.ops [Sb 48 .lss (.t 47) (.t 46)]) (.seq (.cond (.t 48) .skip (.exit 2)) (.seq (.block 3 (.seq (.ops [Si 49 1 45 47, Sl 50 49, Sm 11 50]) (.seq (.seq (.ops [Sm 51 11, Sb 52 .lss (.t 51) (Ci 0), Sm 53 52, Sg 54 (.mov (.t 11)) 53 false, Sg 55 (.mov (.t 6)) 53 false, Sg 56 (.bin .geq (.t 54) (.t 55)) 53 false, Sx 57 (.pick (.t 53) (.c (.bool true)) (.t 56)), Sm 58 57, Sg 59 (.mov (.t 5)) 58 false, Sg 60 (.mov (.t 11)) 58 false, Sg 61 (.iaddr (.sl 1) (.t 59) (.t 60)) 58 false, Sg 62 (.load none (.t 61)) 58 false, Sg 63 (.bin .gtr (.t 62) (Ci 0)) 58 false, Sx 64 (.pick (.t 58) (.c (.bool true)) (.t 63))]) (.cond (.t 64) (.seq (.ops [Sm 65 6, Sm 2 65, Sx 3 (.mov (Ci 50))]) .ret) .skip)) (.ops [Sm 66 5, Sm 67 11, Sm 68 6, Sb 69 .add (.t 68) (Ci 1), Si 70 1 66 67, Su (.store 1 (.t 70) (.t 69))])))) (.ops [Sb 71 .add (.t 47) (Ci 1), Sm 47 71])))) def C13L1 : IC := (.seq (.ops [Sb 25 .lss (.t 24) (.t 23)]) (.seq (.cond (.t 25) .skip (.exit 0)) (.seq (.block 1 (.seq (.ops [Sm 26 24, Si 27 4 22 24, Sx 28 (.load (some 4) (.t 27)), Sx 7 (.alloc [.int .i64 0, .string ⟨#[]⟩, (.slice none 0 0), .int .i64 0]), Sm 6 26, Su (.store 4 (.t 7) (.t 28))]) (.seq (.ops [Sm 30 4, Sf 31 0 7, Sl 32 31, Sx 33 (.lookup (.one (.int .i64)) (.string ⟨#[]⟩) true (.t 30) (.t 32)), Sm 29 33, Se 34 29 0, Se 35 29 1, Sm 8 34, Sm 9 35]) (.seq (.seq (.ops [Sm 36 9, Sx 37 (.un .not (.t 36)), Sm 38 37, Sg 39 (.faddr 3 (.t 7)) 38 false, Sg 40 (.load none (.t 39)) 38 false, Sg 41 (.bin .lss (.t 40) (Ci 0)) 38 false, Sx 42 (.pick (.t 38) (.c (.bool true)) (.t 41))]) (.cond (.t 42) (.seq (.ops [Sm 43 6, Sm 2 43, Sx 3 (.mov (Ci 50))]) .ret) .skip)) (.seq (.seq (.ops [Sf 44 2 7, Sl 45 44, Sx 46 (.len .sl (.t 45)), Sx 47 (.mov (Ci 0))]) (.block 2 (.loop C13L0))) (.block 4 (.seq (.ops [Sx 73 (.load (some 4) (.t 7)), Sc 74 23 [.t 73], Sx 75 (.un .not (.t 74)), Sm 72 75]) (.cond (.t 72) (.seq (.ops [Sm 76 6, Sm 2 76, Sx 3 (.mov (Ci 52))]) .ret) (.seq (.ops [Sm 78 0, Sf 79 2 7, Sl 80 79, Sm 81 8, Sc 82 24 [.t 78, .t 80, .t 81], Sx 83 (.un .not (.t 82)), Sm 77 83]) (.cond (.t 77) (.seq (.ops [Sm 84 6, Sm 2 84, Sx 3 (.mov (Ci 53))]) .ret) .skip)))))))))) (.ops [Sb 85 .add (.t 24) (Ci 1), Sm 24 85])))) def C13L2 : IC := (.seq (.ops [Sb 92 .lss (.t 91) (.t 90)]) (.seq (.cond (.t 92) .skip (.exit 5)) (.seq (.block 6 (.seq (.ops [Sm 93 91, Si 94 4 89 91, Sx 95 (.load (some 4) (.t 94)), Sx 14 (.alloc [.int .i64 0, .string ⟨#[]⟩, (.slice none 0 0), .int .i64 0]), Sm 13 93, Su (.store 4 (.t 14) (.t 95))]) (.seq (.ops [Sf 96 0 14, Sl 97 96, Sb 98 .eql (.t 97) (Ci 1), Sm 99 13, Sm 100 12, Sb 101 .eql (.t 99) (.t 100), Sx 102 (.beq true (.t 98) (.t 101)), Sm 103 102, Sg 104 (.mov (.t 5)) 103 false, Sg 105 (.mov (.t 13)) 103 false, Sg 106 (.iaddr (.sl 1) (.t 104) (.t 105)) 103 false, Sg 107 (.load none (.t 106)) 103 false, Sg 108 (.bin .eql (.t 107) (Ci 0)) 103 false, Sg 109 (.mov (.t 13)) 103 false, Sg 110 (.mov (.t 12)) 103 false, Sg 111 (.bin .eql (.t 109) (.t 110)) 103 false, Sg 112 (.beq true (.t 108) (.t 111)) 103 false, Sx 113 (.pick (.t 103) (.c (.bool true)) (.t 112))]) (.cond (.t 113) (.seq (.ops [Sm 114 12, Sm 2 114, Sx 3 (.mov (Ci 50))]) .ret) .skip)))) (.ops [Sb 115 .add (.t 91) (Ci 1), Sm 91 115])))) def C13 : IFn := ⟨123, (.seq (.ops [Sx 2 (.mov (Ci 0)), Sx 3 (.mov (Ci 0))]) (.seq (.seq (.ops [Sm 15 0, Sx 16 (.len .sl (.t 15)), Sb 17 .gtr (.t 16) (Ci 50000)]) (.cond (.t 17) (.seq (.ops [Sx 2 (.mov (Ci 0)), Sx 3 (.mov (Ci 2))]) .ret) .skip)) (.seq (.ops [Sc 18 22 [], Sm 4 18]) (.seq (.ops [Sm 19 0, Sx 20 (.len .sl (.t 19)), Sx 21 (.mkslice 1 8 [.int .i64 0] (.t 20) (.t 20)), Sm 5 21]) (.seq (.seq (.ops [Sm 22 0, Sx 23 (.len .sl (.t 22)), Sx 24 (.mov (Ci 0))]) (.block 0 (.loop C13L1))) (.seq (.ops [Sm 86 0, Sx 87 (.len .sl (.t 86)), Sb 88 .sub (.t 87) (Ci 1), Sm 12 88]) (.seq (.seq (.ops [Sm 89 0, Sx 90 (.len .sl (.t 89)), Sx 91 (.mov (Ci 0))]) (.block 5 (.loop C13L2))) (.seq (.block 7 (.seq (.ops [Sm 117 12, Sb 118 .lss (.t 117) (Ci 0), Sm 116 118]) (.cond (.t 116) (.seq (.ops [Sx 2 (.mov (Ci 0)), Sx 3 (.mov (Ci 50))]) .ret) (.seq (.ops [Sm 120 0, Sc 121 21 [.t 120], Sb 122 .gtr (.t 121) (Ci 200), Sm 119 122]) (.cond (.t 119) (.seq (.ops [Sx 2 (.mov (Ci 0)), Sx 3 (.mov (Ci 51))]) .ret) .skip))))) (.seq (.ops [Sx 2 (.mov (Ci 0)), Sx 3 (.mov (Ci 0))]) .ret))))))))), [.tmp 2, .tmp 3]⟩
def C29 : IFn := ⟨4, (.seq (.ops [Sx 1 (.box (.t 0)), Sx 2 (.mov (.c .nilFunc))]) (.seq (.ops [Sx 3 (.fn 48 [] [.t 1]), Sm 2 3]) .ret)), [.tmp 2]⟩
def C22 : IFn := ⟨3, (.seq (.ops [Sx 0 (.mov (.c (.map none)))]) (.seq (.ops [Sx 1 (.mkmap (.one (.int .i64))), Su (.mapset (.one (.int .i64)) (.t 1) (Ci 1) (.c (.string ⟨#[42, 100]⟩))), Su (.mapset (.one (.int .i64)) (.t 1) (Ci 2) (.c (.string ⟨#[42, 110]⟩))), Su (.mapset (.one (.int .i64)) (.t 1) (Ci 3) (.c (.string ⟨#[42, 110, 98]⟩))), Su (.mapset (.one (.int .i64)) (.t 1) (Ci 4) (.c (.string ⟨#[42, 115]⟩))), Su (.mapset (.one (.int .i64)) (.t 1) (Ci 5) (.c (.string ⟨#[101]⟩))), Su (.mapset (.one (.int .i64)) (.t 1) (Ci 6) (.c (.string ⟨#[112, 101]⟩))), Su (.mapset (.one (.int .i64)) (.t 1) (Ci 7) (.c (.string ⟨#[101, 98, 111]⟩))), Su (.mapset (.one (.int .i64)) (.t 1) (Ci 8) (.c (.string ⟨#[101, 98]⟩))), Su (.mapset (.one (.int .i64)) (.t 1) (Ci 9) (.c (.string ⟨#[101]⟩))), Su (.mapset (.one (.int .i64)) (.t 1) (Ci 10) (.c (.string ⟨#[101]⟩))), Su (.mapset (.one (.int .i64)) (.t 1) (Ci 11) (.c (.string ⟨#[101]⟩))), Su (.mapset (.one (.int .i64)) (.t 1) (Ci 12) (.c (.string ⟨#[99]⟩))), Su (.mapset (.one (.int .i64)) (.t 1) (Ci 13) (.c (.string ⟨#[42, 110]⟩))), Su (.mapset (.one (.int .i64)) (.t 1) (Ci 14) (.c (.string ⟨#[]⟩))), Su (.mapset (.one (.int .i64)) (.t 1) (Ci 15) (.c (.string ⟨#[]⟩))), Su (.mapset (.one (.int .i64)) (.t 1) (Ci 16) (.c (.string ⟨#[]⟩))), Su (.mapset (.one (.int .i64)) (.t 1) (Ci 17) (.c (.string ⟨#[]⟩))), Su (.mapset (.one (.int .i64)) (.t 1) (Ci 18) (.c (.string ⟨#[101]⟩))), Su (.mapset (.one (.int .i64)) (.t 1) (Ci 19) (.c (.string ⟨#[101, 101]⟩))), Su (.mapset (.one (.int .i64)) (.t 1) (Ci 20) (.c (.string ⟨#[101]⟩))), Su (.mapset (.one (.int .i64)) (.t 1) (Ci 21) (.c (.string ⟨#[101, 101]⟩))), Su (.mapset (.one (.int .i64)) (.t 1) (Ci 22) (.c (.string ⟨#[42, 101]⟩))), Su (.mapset (.one (.int .i64)) (.t 1) (Ci 23) (.c (.string ⟨#[]⟩))), Su (.mapset (.one (.int .i64)) (.t 1) (Ci 24) (.c (.string ⟨#[101]⟩))), Su (.mapset (.one (.int .i64)) (.t 1) (Ci 25) (.c (.string ⟨#[101]⟩))), Su (.mapset (.one (.int .i64)) (.t 1) (Ci 26) (.c (.string ⟨#[]⟩))), Su (.mapset (.one (.int .i64)) (.t 1) (Ci 27) (.c (.string ⟨#[101]⟩))), Su (.mapset (.one (.int .i64)) (.t 1) (Ci 28) (.c (.string ⟨#[]⟩))), Su (.mapset (.one (.int .i64)) (.t 1) (Ci 29) (.c (.string ⟨#[101]⟩))), Su (.mapset (.one (.int .i64)) (.t 1) (Ci 30) (.c (.string ⟨#[]⟩))), Sm 2 1, Sm 0 2]) .ret)), [.tmp 0]⟩
def C23 : IFn := ⟨70, (.seq (.ops [Sx 1 (.box (.t 0)), Sx 2 (.mov (.c (.bool false)))]) (.seq (.seq (.ops [Sf 5 0 1, Sl 6 5]) (.block 0 (.seq (.seq (.ops [Sb 8 .eql (.t 6) (Ci 2), Sm 7 8]) (.cond (.t 7) .skip (.seq (.ops [Sb 9 .eql (.t 6) (Ci 3), Sm 7 9]) (.cond (.t 7) .skip (.seq (.ops [Sb 10 .eql (.t 6) (Ci 5), Sm 7 10]) (.cond (.t 7) .skip (.seq (.ops [Sb 11 .eql (.t 6) (Ci 17), Sm 7 11]) (.cond (.t 7) .skip (.seq (.ops [Sb 12 .eql (.t 6) (Ci 20), Sm 7 12]) (.cond (.t 7) .skip (.seq (.ops [Sb 13 .eql (.t 6) (Ci 22), Sm 7 13]) (.cond (.t 7) .skip (.ops [Sb 14 .eql (.t 6) (Ci 23), Sm 7 14]))))))))))))) (.cond (.t 7) (.seq (.ops [Sf 15 1 1, Sl 16 15, Sc 17 38 [.t 16], Sm 2 17]) .ret) (.seq (.ops [Sb 19 .eql (.t 6) (Ci 15), Sm 18 19]) (.cond (.t 18) (.seq (.ops [Sf 21 1 1, Sl 22 21, Sc 23 39 [.t 22], Sm 20 23, Se 24 20 0, Se 25 20 1, Sm 3 24, Sm 4 25]) (.seq (.ops [Sm 26 4, Sm 27 26, Sg 28 (.faddr 1 (.t 1)) 27 true, Sg 29 (.load none (.t 28)) 27 true, Sg 30 (.bin .eql (.t 29) (.c (.string ⟨#[48]⟩))) 27 true, Sg 31 (.mov (.t 30)) 27 true, Sg 32 (.faddr 1 (.t 1)) 31 false, Sg 33 (.load none (.t 32)) 31 false, Sg 34 (.sidx (.t 33) (Ci 0)) 31 false, Sg 35 (.bin .geq (.t 34) (.c (.int .u8 49))) 31 false, Sg 36 (.mov (.t 35)) 31 false, Sg 37 (.faddr 1 (.t 1)) 36 true, Sg 38 (.load none (.t 37)) 36 true, Sg 39 (.sidx (.t 38) (Ci 0)) 36 true, Sg 40 (.bin .leq (.t 39) (.c (.int .u8 57))) 36 true, Sg 41 (.pick (.t 36) (.t 40) (.c (.bool false))) 31 false, Sg 42 (.pick (.t 31) (.c (.bool true)) (.t 41)) 27 true, Sx 43 (.pick (.t 27) (.t 42) (.c (.bool false))), Sm 2 43]) .ret)) (.seq (.ops [Sb 45 .eql (.t 6) (Ci 18), Sm 44 45]) (.cond (.t 44) (.seq (.ops [Sf 46 1 1, Sl 47 46, Sx 48 (.len .str (.t 47)), Sb 49 .eql (.t 48) (Ci 1), Sm 50 49, Sg 51 (.faddr 1 (.t 1)) 50 true, Sg 52 (.load none (.t 51)) 50 true, ⟨some 53, .call 40 [.c (.string ⟨#[45, 33, 126]⟩), .t 52], (some (50, true))⟩, Sx 54 (.pick (.t 50) (.t 53) (.c (.bool false))), Sm 2 54]) .ret) (.seq (.ops [Sb 56 .eql (.t 6) (Ci 19), Sm 55 56]) (.cond (.t 55) (.seq (.ops [Sf 57 1 1, Sl 58 57, Sb 59 .neq (.t 58) (.c (.string ⟨#[]⟩)), Sm 60 59, Sg 61 (.faddr 1 (.t 1)) 60 true, Sg 62 (.load none (.t 61)) 60 true, Sg 63 (.bin .add (.c (.string ⟨#[32]⟩)) (.t 62)) 60 true, Sg 64 (.bin .add (.t 63) (.c (.string ⟨#[32]⟩))) 60 true, ⟨some 65, .call 40 [.c (.string ⟨#[32, 43, 32, 45, 32, 42, 32, 47, 32, 37, 32, 60, 60, 32, 62, 62, 32, 38, 32, 94, 32, 124, 32, 61, 61, 32, 33, 61, 32, 60, 32, 60, 61, 32]⟩), .t 64], (some (60, true))⟩, Sx 66 (.pick (.t 60) (.t 65) (.c (.bool false))), Sm 2 66]) .ret) .skip)))))))))) (.seq (.ops [Sf 67 1 1, Sl 68 67, Sb 69 .eql (.t 68) (.c (.string ⟨#[]⟩)), Sm 2 69]) .ret))), [.tmp 2]⟩
def C24L0 : IC := (.seq (.seq (.ops [Sm 32 11, Sb 33 .gtr (.t 32) (Ci 0)]) (.cond (.t 33) .skip (.exit 2))) (.seq (.block 3 (.seq (.seq (.ops [Sm 36 7, Sm 37 1, Sx 38 (.len .sl (.t 37)), Sb 39 .geq (.t 36) (.t 38), Sm 40 39, Sg 41 (.mov (.t 0)) 40 false, Sg 42 (.mov (.t 1)) 40 false, Sg 43 (.mov (.t 7)) 40 false, Sg 44 (.iaddr (.sl 1) (.t 42) (.t 43)) 40 false, Sg 45 (.load none (.t 44)) 40 false, Sg 46 (.iaddr (.sl 4) (.t 41) (.t 45)) 40 false, Sg 47 (.faddr 0 (.t 46)) 40 false, Sg 48 (.load none (.t 47)) 40 false, ⟨some 49, .call 43 [.t 48], (some (40, false))⟩, Sg 50 (.mov (.t 10)) 40 false, ⟨some 51, .call 42 [.t 49, .t 50], (some (40, false))⟩, Sg 52 (.un .not (.t 51)) 40 false, Sx 53 (.pick (.t 40) (.c (.bool true)) (.t 52))]) (.cond (.t 53) (.seq (.ops [Sx 6 (.mov (.c (.bool false)))]) .ret) .skip)) (.ops [Sm 54 7, Sb 55 .add (.t 54) (Ci 1), Sm 7 55]))) (.ops [Sm 34 11, Sb 35 .sub (.t 34) (Ci 1), Sm 11 35]))) def C24L1 : IC := (.seq (.ops [Sx 14 (.next (.t 13)), Se 15 14 0]) (.seq (.cond (.t 15) .skip (.exit 0)) (.block 1 (.seq (.ops [Se 16 14 2, Sm 10 16]) (.seq (.seq (.ops [Sm 17 10, Sb 18 .eql (.t 17) (.c (.int .i32 42))]) (.cond (.t 18) (.seq (.ops [Sx 8 (.mov (.c (.bool true)))]) (.exit 1)) .skip)) (.seq (.ops [Sx 11 (.mov (Ci 1))]) (.seq (.seq (.ops [Sm 19 8]) (.cond (.t 19) (.seq (.ops [Sm 20 1, Sx 21 (.len .sl (.t 20)), Sm 22 7, Sb 23 .sub (.t 21) (.t 22), Sm 24 2, Sx 25 (.len .str (.t 24)), Sm 26 2, Sm 27 10, Sc 28 41 [.t 26, .t 27], Sb 29 .sub (.t 25) (.t 28), Sb 30 .sub (.t 29) (Ci 1), Sb 31 .sub (.t 23) (.t 30), Sm 11 31]) (.ops [Sx 8 (.mov (.c (.bool false)))])) .skip)) (.block 2 (.loop C24L0))))))))) def C24 : IFn := ⟨60, (.seq (.ops [Sx 6 (.mov (.c (.bool false)))]) (.seq (.ops [Sx 7 (.mov (Ci 0)), Sx 8 (.mov (.c (.bool false)))]) (.seq (.seq (.ops [Sm 12 2, Sx 13 (.range (.t 12))]) (.block 0 (.loop C24L1))) (.seq (.ops [Sm 56 7, Sm 57 1, Sx 58 (.len .sl (.t 57)), Sb 59 .eql (.t 56) (.t 58), Sm 6 59]) .ret)))), [.tmp 6]⟩
def C48L0 : IC := (.seq (.ops [Sb 51 .lss (.t 50) (.t 49)]) (.seq (.cond (.t 51) .skip (.exit 2)) (.seq (.block 3 (.seq (.ops [Sm 52 50, Sm 8 52]) (.draw [Sm 53 5, Sm 54 7, Sm 55 7, Sx 56 (.len .sl (.t 55)), Sb 57 .sub (.t 56) (Ci 1), Sm 58 8, Sb 59 .sub (.t 57) (.t 58), Si 60 1 54 59, Sl 61 60, Sf 62 1 6, Sl 63 62, Sb 64 .add (.t 63) (Ci 1), Sx 65 (.build [.int .i64 0, .int .i64 0] [(0, 1, .t 61), (1, 1, .t 64)]), Sx 66 (.lit 2 1 [.int .i64 0, .int .i64 0] [(0, 2, .t 65)]), Sx 67 (.append 2 16 (.t 53) (.t 66)), Sm 5 67] [[], [], [], [2], [3, 2], [], [5, 4, 3, 2], [6, 5, 4, 3, 2, 1], [7, 6, 5, 4, 3, 2, 1], [], [9], [10, 9], [11, 10, 9, 8, 7, 6, 5, 4, 3, 2, 1], [12, 11, 10, 9, 8, 7, 6, 5, 4, 3, 2, 1], [13, 12, 11, 10, 9, 8, 7, 6, 5, 4, 3, 2, 1, 0], [14, 13, 12, 11, 10, 9, 8, 7, 6, 5, 4, 3, 2, 1, 0]]))) (.ops [Sb 68 .add (.t 50) (Ci 1), Sm 50 68])))) def C48L1 : IC := (.seq (.seq (.ops [Sm 21 5, Sx 22 (.len .sl (.t 21)), Sb 23 .gtr (.t 22) (Ci 0)]) (.cond (.t 23) .skip (.exit 0))) (.block 1 (.seq (.ops [Sm 24 5, Sm 25 5, Sx 26 (.len .sl (.t 25)), Sb 27 .sub (.t 26) (Ci 1), Si 28 2 24 27, Sx 29 (.load (some 2) (.t 28)), Sx 6 (.alloc [.int .i64 0, .int .i64 0]), Su (.store 2 (.t 6) (.t 29))]) (.seq (.ops [Sm 30 5, Sm 31 5, Sx 32 (.len .sl (.t 31)), Sb 33 .sub (.t 32) (Ci 1), Sx 34 (.sub (.sl 2) (.t 30) none (some (.t 33)) none), Sm 5 34]) (.seq (.seq (.ops [Sm 35 0, Sf 36 0 6, Sl 37 36, Sf 38 1 6, Sl 39 38, ⟨some 40, .callv (.t 35) [.t 37, .t 39], none⟩, Sx 41 (.un .not (.t 40))]) (.cond (.t 41) .ret .skip)) (.seq (.ops [Sl 42 1, Sf 43 0 6, Sl 44 43, Si 45 4 42 44, Sf 46 2 45, Sl 47 46, Sm 7 47]) (.seq (.ops [Sm 48 7, Sx 49 (.len .sl (.t 48)), Sx 50 (.mov (Ci 0))]) (.block 2 (.loop C48L0))))))))) def C48 : IFn := ⟨69, (.seq (.seq (.ops [Sl 10 1, Sc 11 13 [.t 10], Sm 9 11, Se 12 9 0, Se 13 9 1, Sm 3 12, Sm 4 13]) (.seq (.ops [Sm 14 4, Sb 15 .neq (.t 14) (Ci 0)]) (.cond (.t 15) .ret .skip))) (.seq (.ops [Sl 16 1, Sx 17 (.len .sl (.t 16)), Sb 18 .sub (.t 17) (Ci 1), Sx 19 (.build [.int .i64 0, .int .i64 0] [(0, 1, .t 18), (1, 1, (Ci 0))]), Sx 20 (.lit 2 1 [.int .i64 0, .int .i64 0] [(0, 2, .t 19)]), Sm 5 20]) (.block 0 (.loop C48L1)))), []⟩
def C41L0 : IC := (.seq (.ops [Sx 9 (.next (.t 8)), Se 10 9 0]) (.seq (.cond (.t 10) .skip (.exit 0)) (.block 1 (.seq (.ops [Se 11 9 1, Se 12 9 2, Sm 5 11, Sm 6 12]) (.seq (.ops [Sm 13 6, Sm 14 1, Sb 15 .eql (.t 13) (.t 14)]) (.cond (.t 15) (.seq (.ops [Sm 16 5, Sm 4 16]) .ret) .skip)))))) def C41 : IFn := ⟨17, (.seq (.ops [Sx 4 (.mov (Ci 0))]) (.seq (.seq (.ops [Sm 7 0, Sx 8 (.range (.t 7))]) (.block 0 (.loop C41L0))) (.seq (.ops [Sx 4 (.mov (Ci (-1)))]) .ret))), [.tmp 4]⟩
def C42L0 : IC := (.seq (.ops [Sx 9 (.next (.t 8)), Se 10 9 0]) (.seq (.cond (.t 10) .skip (.exit 0)) (.block 1 (.seq (.ops [Se 11 9 2, Sm 6 11]) (.seq (.ops [Sm 12 6, Sm 13 1, Sb 14 .eql (.t 12) (.t 13)]) (.cond (.t 14) (.seq (.ops [Sx 4 (.mov (.c (.bool true)))]) .ret) .skip)))))) def C42 : IFn := ⟨15, (.seq (.ops [Sx 4 (.mov (.c (.bool false)))]) (.seq (.seq (.ops [Sm 7 0, Sx 8 (.range (.t 7))]) (.block 0 (.loop C42L0))) (.seq (.ops [Sx 4 (.mov (.c (.bool false)))]) .ret))), [.tmp 4]⟩
def C43 : IFn := ⟨33, (.seq (.ops [Sx 2 (.mov (.c (.string ⟨#[]⟩)))]) (.seq (.seq (.ops [Sm 3 0]) (.block 0 (.seq (.seq (.ops [Sb 5 .eql (.t 3) (Ci 2), Sm 4 5]) (.cond (.t 4) .skip (.ops [Sb 6 .eql (.t 3) (Ci 3), Sm 4 6]))) (.cond (.t 4) (.seq (.ops [Sx 2 (.mov (.c (.string ⟨#[100]⟩)))]) .ret) (.seq (.ops [Sb 8 .eql (.t 3) (Ci 4), Sm 7 8]) (.cond (.t 7) (.seq (.ops [Sx 2 (.mov (.c (.string ⟨#[98, 111]⟩)))]) .ret) (.seq (.ops [Sb 10 .eql (.t 3) (Ci 14), Sm 9 10]) (.cond (.t 9) (.seq (.ops [Sx 2 (.mov (.c (.string ⟨#[111]⟩)))]) .ret) (.seq (.ops [Sb 12 .eql (.t 3) (Ci 17), Sm 11 12]) (.cond (.t 11) (.seq (.ops [Sx 2 (.mov (.c (.string ⟨#[110, 101, 112]⟩)))]) .ret) (.seq (.seq (.ops [Sb 14 .eql (.t 3) (Ci 20), Sm 13 14]) (.cond (.t 13) .skip (.seq (.ops [Sb 15 .eql (.t 3) (Ci 21), Sm 13 15]) (.cond (.t 13) .skip (.ops [Sb 16 .eql (.t 3) (Ci 30), Sm 13 16]))))) (.cond (.t 13) (.seq (.ops [Sx 2 (.mov (.c (.string ⟨#[101, 112]⟩)))]) .ret) (.seq (.ops [Sb 18 .eql (.t 3) (Ci 22), Sm 17 18]) (.cond (.t 17) (.seq (.ops [Sx 2 (.mov (.c (.string ⟨#[101, 99]⟩)))]) .ret) .skip)))))))))))))) (.seq (.block 1 (.seq (.ops [Sm 20 0, Sb 21 .geq (.t 20) (Ci 5), Sm 22 21, Sg 23 (.mov (.t 0)) 22 true, Sg 24 (.bin .leq (.t 23) (Ci 13)) 22 true, Sx 25 (.pick (.t 22) (.t 24) (.c (.bool false))), Sm 19 25]) (.cond (.t 19) (.seq (.ops [Sx 2 (.mov (.c (.string ⟨#[115]⟩)))]) .ret) (.seq (.ops [Sm 27 0, Sb 28 .geq (.t 27) (Ci 15), Sm 29 28, Sg 30 (.mov (.t 0)) 29 true, Sg 31 (.bin .leq (.t 30) (Ci 30)) 29 true, Sx 32 (.pick (.t 29) (.t 31) (.c (.bool false))), Sm 26 32]) (.cond (.t 26) (.seq (.ops [Sx 2 (.mov (.c (.string ⟨#[101]⟩)))]) .ret) .skip))))) (.seq (.ops [Sx 2 (.mov (.c (.string ⟨#[]⟩)))]) .ret)))), [.tmp 2]⟩
end Go.Idl
end

section
namespace Go.Idl
variable {T : Tbl}
def opsL : List ByteArray := [⟨#[43]⟩, ⟨#[45]⟩, ⟨#[42]⟩, ⟨#[47]⟩, ⟨#[37]⟩, ⟨#[60, 60]⟩, ⟨#[62, 62]⟩, ⟨#[38]⟩, ⟨#[94]⟩, ⟨#[124]⟩, ⟨#[61, 61]⟩, ⟨#[33, 61]⟩, ⟨#[60]⟩, ⟨#[60, 61]⟩]
def opB (s : ByteArray) : Bool := opsL.any fun w => decide (s = w)
theorem opB_of {s : ByteArray} (h : s ∈ opsL) : opB s = true := List.any_eq_true.2 ⟨s, h, decide_eq_true rfl⟩
structure intsR (h : Heap) (v : Value) (l : List Int) : Prop where
 len : ∃ a c, v = .slice a l.length c
 at' : ∀ (j : Nat) (k : Int), l[j]? = some k → ∃ b o c cs w z, v = .slice (some ⟨b, o, none⟩) l.length c ∧ b < h.next ∧ h.get b = some (.cells cs w z) ∧ cs[o + j * 1]? = some (.int .i64 k)
theorem intsR.keep {h h' : Heap} (hk : Kept h h') {v : Value} {l : List Int} (hh : intsR h v l) : intsR h' v l := ⟨hh.len, fun j k hj => by
 obtain ⟨b, o, c, cs, w, z, h1, h2, h3, h4⟩ := hh.at' j k hj
 exact ⟨b, o, c, cs, w, z, h1, Nat.lt_of_lt_of_le h2 hk.next, by rw [hk.get b h2]; exact h3, h4⟩⟩
theorem intsAt.r {h : Heap} {v : Value} {l : List Int} (hh : intsAt h v l) : intsR h v l := ⟨hh.len, fun j k hj => by
 obtain ⟨b, c, h1, h2, ⟨o, z, h3⟩, h4⟩ := hh.load hj
 exact ⟨b, 0, c, _, o, z, h1, h2, h3, h4⟩⟩
def stmtB (k : Int) : Bool := decide (5 ≤ k ∧ k ≤ 13)
def exprB (k : Int) : Bool := decide (15 ≤ k ∧ k ≤ 30)
def exprsB (l : List Int) (n : Int) : Bool := l.all exprB && ((l.length : Int) == n)
end Go.Idl
end

section
namespace Go.Idl
variable {T : Tbl}
def mem10 (k : Int) : Bool := decide (k = 5 ∨ k = 9 ∨ k = 10 ∨ k = 11 ∨ k = 18 ∨ k = 20 ∨ k = 24 ∨ k = 25 ∨ k = 27 ∨ k = 29)
def mem8 (k : Int) : Bool := decide (k = 14 ∨ k = 15 ∨ k = 16 ∨ k = 17 ∨ k = 23 ∨ k = 26 ∨ k = 28 ∨ k = 30)
def shapeB (kind : Int) (ks : List Int) : Bool :=
 if kind = 1 then ks.all fun k => k == 2 || k == 3
 else if kind = 2 ∨ kind = 13 then ks.all fun k => k == 17
 else if kind = 3 then decide (0 < ks.length) && ((ks.take (ks.length - 1)).all fun k => k == 17) && (ks.getD (ks.length - 1) 0 == 4)
 else if kind = 4 then ks.all stmtB
 else if mem10 kind then exprsB ks 1
 else if kind = 6 then exprsB ks 2 && (ks.getD 0 0 == 17 || ks.getD 0 0 == 20 || ks.getD 0 0 == 21 || ks.getD 0 0 == 30)
 else if kind = 7 then decide (ks.length = 3) && exprB (ks.getD 0 0) && (ks.getD 1 0 == 4) && (ks.getD 2 0 == 4 || ks.getD 2 0 == 14)
 else if kind = 8 then decide (ks.length = 2) && exprB (ks.getD 0 0) && (ks.getD 1 0 == 4)
 else if kind = 12 then decide (ks.length = 1) && (ks.getD 0 0 == 22)
 else if kind = 19 ∨ kind = 21 then exprsB ks 2
 else if kind = 22 then exprsB ks ks.length
 else if mem8 kind then decide (ks.length = 0)
 else false
theorem len_eq {n a : Nat} : (((n : Nat) : Int) == ((a : Nat) : Int)) = decide (n = a) := by rw [Bool.beq_eq_decide_eq, decide_eq_decide]; omega
theorem intsR.ge {h : Heap} {v : Value} {l : List Int} (hv : intsR h v l) {j : Nat} (hj : j < l.length) : ∃ b o c cs w z, v = .slice (some ⟨b, o, none⟩) l.length c ∧ b < h.next ∧ h.get b = some (.cells cs w z) ∧ cs[o + j * 1]? = some (.int .i64 (l.getD j 0)) := by
 have := hv.at' j _ (List.getElem?_eq_getElem hj)
 simpa [List.getD_eq_getElem?_getD, List.getElem?_eq_getElem hj] using this
theorem intsR.sub {h : Heap} {b o c : Nat} {l : List Int} (hv : intsR h (.slice (some ⟨b, o, none⟩) l.length c) l) {m : Nat} (hm : m ≤ l.length) : intsR h (subSl 1 l.length c 0 m none (some ⟨b, o, none⟩)) (l.take m) := by
 have hlen : (l.take m).length = m := by rw [List.length_take]; omega
 refine ⟨⟨_, _, by simp only [subSl, hlen]; rfl⟩, fun j k hj => ?_⟩
 have hjm : j < m := by have := (List.getElem?_eq_some_iff.1 hj).1; omega
 obtain ⟨b', o', c', cs, w, z, h1, h2, h3, h4⟩ := hv.at' j k (by rw [← hj, List.getElem?_take, if_pos hjm])
 simp only [Value.slice.injEq, Option.some.injEq, Addr.mk.injEq] at h1
 obtain ⟨⟨rfl, rfl, _⟩, _, rfl⟩ := h1
 refine ⟨b, o, (if c = l.length ∧ m = l.length then m - 0 else m - 0 + 1), cs, w, z, ?_, h2, h3, h4⟩
 rw [hlen]
 simp only [subSl, Option.map_some, Nat.zero_mul, Nat.add_zero, Nat.sub_zero]
end Go.Idl
end

section
namespace Go.Idl
variable {T : Tbl}
def mem7 (k : Int) : Bool := decide (k = 2 ∨ k = 3 ∨ k = 5 ∨ k = 17 ∨ k = 20 ∨ k = 22 ∨ k = 23)
def sgnB (s : ByteArray) : Bool := decide (s = ⟨#[45]⟩) || decide (s = ⟨#[33]⟩) || decide (s = ⟨#[126]⟩)
def digB (s : ByteArray) : Bool := (numR (bs s)).2 && decide (48 ≤ bt (bs s) 0) && decide (bt (bs s) 0 ≤ 57) && (decide (s.size = 1) || !(bt (bs s) 0 == 48))
def textB (kind : Int) (s : ByteArray) : Bool :=
 if mem7 kind then nameB s else if kind = 15 then digB s else if kind = 18 then sgnB s else if kind = 19 then opB s else decide (s = ⟨#[]⟩)
theorem num_ne {s : ByteArray} (h : (numR (bs s)).2 = true) : 0 < s.size := by
 rcases Nat.eq_zero_or_pos s.size with h0 | h0
 ·have : bs s = [] := List.eq_nil_of_length_eq_zero (by rw [← bs_size]; exact h0)
  rw [this] at h
  exact absurd h (by decide)
 ·exact h0
end Go.Idl
end

section
namespace Go.Idl
variable {T : Tbl}
theorem flatN_at : ∀ {l : List Nd} {i : Nat} {x : Nd}, l[i]? = some x → (flatN l)[i * 4]? = some (.int .i64 x.kind) ∧ (flatN l)[i * 4 + 1]? = some (.string x.text) ∧ (flatN l)[i * 4 + 2]? = some x.kv ∧ (flatN l)[i * 4 + 3]? = some (.int .i64 x.pos)
 | [], i, x, h => by simp at h
 | y :: l, 0, x, h => by simp at h; subst h; simp [flatN]
 | y :: l, i + 1, x, h => by
  have := flatN_at (l := l) (i := i) (x := x) (by simpa using h)
  rw [show (i + 1) * 4 = i * 4 + 4 by omega]
  simpa [flatN, show i * 4 + 4 + 1 = (i * 4 + 1) + 4 by omega, show i * 4 + 4 + 2 = (i * 4 + 2) + 4 by omega, show i * 4 + 4 + 3 = (i * 4 + 3) + 4 by omega] using this
theorem nodesAt.load4 {h : Heap} {v : Value} {l : List Nd} (hh : nodesAt h v l) {i : Nat} {x : Nd} (hi : l[i]? = some x) : ∃ b c o z, v = .slice (some ⟨b, 0, none⟩) l.length c ∧ b < h.next ∧ h.get b = some (.cells (flatN l) o z) ∧ h.cells b (i * 4) 4 = some x.cells := by
 obtain ⟨b, c, h1, h2, ⟨o, z, h3⟩, h4⟩ := hh.load hi
 exact ⟨b, c, o, z, h1, h2, h3, by rw [Nat.zero_add] at h4; exact h4⟩
def kindAt (l : List Nd) (k : Int) : Int := (l[k.toNat]?.map (·.kind)).getD 0
def kidsUp (l : List Nd) (j : Nat) : List Int := (l.take j).flatMap (·.kids)
theorem kidsUp_succ {l : List Nd} {j : Nat} {x : Nd} (h : l[j]? = some x) : kidsUp l (j + 1) = kidsUp l j ++ x.kids := by
 simp only [kidsUp]
 rw [List.take_add_one, h]
 simp
structure NodeOk (l : List Nd) (n : Nat) (x : Nd) : Prop where
 kids : ∀ k ∈ x.kids, 0 ≤ k ∧ k < n
 pos : 0 ≤ x.pos
 kind : 1 ≤ x.kind ∧ x.kind ≤ 30
 text : textB x.kind x.text = true
 shape : shapeB x.kind (x.kids.map (kindAt l)) = true
structure GoodT (l : List Nd) : Prop where
 len : l.length ≤ 50000
 ok : ∀ n x, l[n]? = some x → NodeOk l n x
 nodup : (kidsUp l l.length).Nodup
 ne : 0 < l.length
 last : ∀ n x, l[n]? = some x → (x.kind = 1 ↔ n + 1 = l.length)
 used : ∀ n : Nat, n + 1 < l.length → (n : Int) ∈ kidsUp l l.length
 deep : deepOf l ≤ 200
theorem kidsUp_sub {l : List Nd} {j : Nat} (h : j ≤ l.length) : (kidsUp l j).Sublist (kidsUp l l.length) := by
 have : kidsUp l l.length = kidsUp l j ++ (l.drop j).flatMap (·.kids) := by
  simp only [kidsUp, List.take_length]
  rw [← List.flatMap_append, List.take_append_drop]
 rw [this]
 exact List.sublist_append_left _ _
theorem nodesAt.but {m : Nat} {h0 h h' : Heap} (k0 : Kept h0 h) (hb : KeptBut m h h') (hm : h0.next ≤ m) {v : Value} {l : List Nd} (hh : nodesAt h0 v l) : nodesAt h' v l := hh.keep (k0.of_but hb hm)
end Go.Idl
end

section
namespace Go.Idl
variable {T : Tbl}
end Go.Idl
end

section
namespace Go.Idl
variable {T : Tbl}
def lettersOf (k : Int) : ByteArray :=
 if k = 2 ∨ k = 3 then ⟨#[100]⟩ else if k = 4 then ⟨#[98, 111]⟩ else if k = 14 then ⟨#[111]⟩ else if k = 17 then ⟨#[110, 101, 112]⟩ else if k = 20 ∨ k = 21 ∨ k = 30 then ⟨#[101, 112]⟩ else if k = 22 then ⟨#[101, 99]⟩
 else if 5 ≤ k ∧ k ≤ 13 then ⟨#[115]⟩ else if 15 ≤ k ∧ k ≤ 30 then ⟨#[101]⟩ else ⟨#[]⟩
theorem letters_ok (hT : T.fn 43 = some C43) {k : Int} {h : Heap} : Wk T (.fn 43) [.int .i64 k] h (fun o h' => h' = h ∧ o = .ret (.string (lettersOf k))) := by
 refine Wk_fn hT (by simp [C43]) ?_
 simp only [C43]
 have fin : ∀ (e : Env) (x : Ex) (b : ByteArray), (x = .normal ∨ x = .ret) → e 2 = .string b → lettersOf k = b → (x = .normal ∨ x = .ret) ∧ some ([] : List Dfr) = some [] ∧ ∃ vs, resAll e h [.tmp 2] = some vs ∧ h = h ∧ Out.ret (tup vs) = .ret (.string (lettersOf k)) := fun e x b hx h4 hb =>
  ⟨hx, rfl, [.string b], by simp only [resAll, resV, h4], rfl, by rw [hb]; rfl⟩
 refine Wc_seq (Wc_ops (Wo_run (fun _ => by simp only [go_sem, seval]; rfl) ?_))
 show Wc T _ _ _
 refine Wc_seq (Wc_seq (Wc_ops (Wo_run (fun _ => by simp only [go_sem, seval]; rfl) ?_)))
 show Wc T _ _ _
 refine Wc_block ?_
 refine Wc_mid (fun s' => s'.d = some [] ∧ s'.h = h ∧ s'.e 0 = .int .i64 k ∧ s'.e 3 = .int .i64 k ∧ s'.e 4 = .bool (decide (k = 2 ∨ k = 3))) ?_ ?_
 ·clear fin
  refine Wc_case (by first | rfl | assumption) (fun y => Wc_skip ⟨rfl, rfl, (by first | rfl | assumption), (by first | rfl | assumption), by simp only [upd, dstUpd, reduceIte, Nat.reduceEqDiff, y, true_or, decide_true]⟩) (fun m0 => ?_)
  refine Wc_ops (Wo_run (fun _ => by simp only [go_sem, seval]; rfl) ?_)
  exact ⟨rfl, rfl, (by first | rfl | assumption), (by first | rfl | assumption), by simp only [upd, dstUpd, reduceIte, Nat.reduceEqDiff, Bool.beq_eq_decide_eq, m0, false_or]⟩
 rintro ⟨e, h', d⟩ ⟨hd, hh, g0, g3, g4⟩
 simp only at hd hh g0 g3 g4
 rw [hd, hh]
 refine Wc_cond _ g4 (fun y => ?_) (fun y => ?_)
 ·have y := of_decide_eq_true y
  refine Wc_seq (Wc_ops (Wo_run (fun _ => by simp only [go_sem, seval]; rfl) ?_))
  exact Wc_ret (fin _ _ _ (.inr rfl) (by first | rfl | assumption) (by rw [lettersOf, if_pos y]))
 have n2 := of_decide_eq_false y
 refine Wc_case g3 (fun y4 => ?_) (fun n4 => ?_)
 ·refine Wc_seq (Wc_ops (Wo_run (fun _ => by simp only [go_sem, seval]; rfl) ?_))
  exact Wc_ret (fin _ _ _ (.inr rfl) (by first | rfl | assumption) (by rw [lettersOf, if_neg n2, if_pos y4]))
 refine Wc_case (by simp only [go_sem, seval, g3] <;> first | rfl | assumption | (symm; assumption)) (fun y14 => ?_) (fun n14 => ?_)
 ·refine Wc_seq (Wc_ops (Wo_run (fun _ => by simp only [go_sem, seval]; rfl) ?_))
  exact Wc_ret (fin _ _ _ (.inr rfl) (by first | rfl | assumption) (by rw [lettersOf, if_neg n2, if_neg n4, if_pos y14]))
 refine Wc_case (by simp only [go_sem, seval, g3] <;> first | rfl | assumption | (symm; assumption)) (fun y17 => ?_) (fun n17 => ?_)
 ·refine Wc_seq (Wc_ops (Wo_run (fun _ => by simp only [go_sem, seval]; rfl) ?_))
  exact Wc_ret (fin _ _ _ (.inr rfl) (by first | rfl | assumption) (by rw [lettersOf, if_neg n2, if_neg n4, if_neg n14, if_pos y17]))
 refine Wc_mid (fun s' => s'.d = some [] ∧ s'.h = h ∧ s'.e 0 = .int .i64 k ∧ s'.e 3 = .int .i64 k ∧ s'.e 13 = .bool (decide (k = 20 ∨ k = 21 ∨ k = 30))) ?_ ?_
 ·clear fin
  refine Wc_case (by simp only [go_sem, seval, g3] <;> first | rfl | assumption | (symm; assumption)) (fun y => Wc_skip ⟨rfl, rfl, (by simp only [go_sem, seval, g0] <;> first | rfl | assumption | (symm; assumption)), (by simp only [go_sem, seval, g3] <;> first | rfl | assumption | (symm; assumption)), by simp only [upd, dstUpd, reduceIte, Nat.reduceEqDiff, y, true_or, decide_true]⟩) (fun m0 => ?_)
  refine Wc_case (by simp only [go_sem, seval, g3] <;> first | rfl | assumption | (symm; assumption)) (fun y => Wc_skip ⟨rfl, rfl, (by simp only [go_sem, seval, g0] <;> first | rfl | assumption | (symm; assumption)), (by simp only [go_sem, seval, g3] <;> first | rfl | assumption | (symm; assumption)), by simp only [upd, dstUpd, reduceIte, Nat.reduceEqDiff, y, true_or, or_true, decide_true]⟩) (fun m1 => ?_)
  refine Wc_ops (Wo_run (fun _ => by simp only [go_sem, seval, g3]; rfl) ?_)
  exact ⟨rfl, rfl, (by simp only [go_sem, seval, g0] <;> first | rfl | assumption | (symm; assumption)), (by simp only [go_sem, seval, g3] <;> first | rfl | assumption | (symm; assumption)), by simp only [upd, dstUpd, reduceIte, Nat.reduceEqDiff, Bool.beq_eq_decide_eq, m0, m1, false_or]⟩
 rintro ⟨e, h', d⟩ ⟨hd, hh, g0, g3, g13⟩
 simp only at hd hh g0 g3 g13
 rw [hd, hh]
 refine Wc_cond _ g13 (fun y => ?_) (fun y => ?_)
 ·have y := of_decide_eq_true y
  refine Wc_seq (Wc_ops (Wo_run (fun _ => by simp only [go_sem, seval]; rfl) ?_))
  exact Wc_ret (fin _ _ _ (.inr rfl) (by first | rfl | assumption) (by rw [lettersOf, if_neg n2, if_neg n4, if_neg n14, if_neg n17, if_pos y]))
 have n20 := of_decide_eq_false y
 refine Wc_case (by simp only [go_sem, seval, g3] <;> first | rfl | assumption | (symm; assumption)) (fun y22 => ?_) (fun n22 => Wc_skip ?_)
 ·refine Wc_seq (Wc_ops (Wo_run (fun _ => by simp only [go_sem, seval]; rfl) ?_))
  exact Wc_ret (fin _ _ _ (.inr rfl) (by first | rfl | assumption) (by rw [lettersOf, if_neg n2, if_neg n4, if_neg n14, if_neg n17, if_neg n20, if_pos y22]))
 show Wc T _ _ _
 have pre : lettersOf k = if 5 ≤ k ∧ k ≤ 13 then ⟨#[115]⟩ else if 15 ≤ k ∧ k ≤ 30 then ⟨#[101]⟩ else ⟨#[]⟩ := by rw [lettersOf, if_neg n2, if_neg n4, if_neg n14, if_neg n17, if_neg n20, if_neg n22]
 refine Wc_seq (Wc_block ?_)
 refine Wc_mid (fun s' => s'.d = some [] ∧ s'.h = h ∧ s'.e 0 = .int .i64 k ∧ s'.e 19 = .bool (decide (5 ≤ k ∧ k ≤ 13))) ?_ ?_
 ·by_cases x1 : (5 : Int) ≤ k <;> by_cases x2 : k ≤ 13 <;> first
   | (exfalso; omega)
   | (refine Wc_ops (Wo_run (fun _ => by simp only [go_sem, seval, g0, x1, x2]; rfl) ?_); exact ⟨rfl, rfl, (by simp only [go_sem, seval, g0] <;> first | rfl | assumption | (symm; assumption)), (by simp only [go_sem, seval, x1, x2, and_self, and_true, and_false, decide_true, decide_false] <;> first | rfl | assumption | (symm; assumption))⟩)
 rintro ⟨e, h', d⟩ ⟨hd, hh, g0, g19⟩
 simp only at hd hh g0 g19
 rw [hd, hh]
 refine Wc_cond _ g19 (fun y => ?_) (fun y => ?_)
 ·refine Wc_seq (Wc_ops (Wo_run (fun _ => by simp only [go_sem, seval]; rfl) ?_))
  exact Wc_ret (fin _ _ _ (.inr rfl) (by first | rfl | assumption) (by rw [pre, if_pos (of_decide_eq_true y)]))
 have n5 := of_decide_eq_false y
 refine Wc_mid (fun s' => s'.d = some [] ∧ s'.h = h ∧ s'.e 26 = .bool (decide (15 ≤ k ∧ k ≤ 30))) ?_ ?_
 ·by_cases x1 : (15 : Int) ≤ k <;> by_cases x2 : k ≤ 30 <;> first
   | (exfalso; omega)
   | (refine Wc_ops (Wo_run (fun _ => by simp only [go_sem, seval, g0, x1, x2]; rfl) ?_); exact ⟨rfl, rfl, (by simp only [go_sem, seval, x1, x2, and_self, and_true, and_false, decide_true, decide_false] <;> first | rfl | assumption | (symm; assumption))⟩)
 rintro ⟨e, h', d⟩ ⟨hd, hh, g26⟩
 simp only at hd hh g26
 rw [hd, hh]
 refine Wc_cond _ g26 (fun y => ?_) (fun y => Wc_skip ?_)
 ·refine Wc_seq (Wc_ops (Wo_run (fun _ => by simp only [go_sem, seval]; rfl) ?_))
  exact Wc_ret (fin _ _ _ (.inr rfl) (by first | rfl | assumption) (by rw [pre, if_neg n5, if_pos (of_decide_eq_true y)]))
 show Wc T _ _ _
 refine Wc_seq (Wc_ops (Wo_run (fun _ => by simp only [go_sem, seval]; rfl) ?_))
 exact Wc_ret (fin _ _ _ (.inr rfl) (by first | rfl | assumption) (by rw [pre, if_neg n5, if_neg (of_decide_eq_false y)]))
def Asc (s : ByteArray) : Prop := ∀ b ∈ s.data.toList, b.toNat < 128
theorem letters_asc (k : Int) : Asc (lettersOf k) := by
 unfold lettersOf Asc
 repeat' split
 all_goals (intro b hb; revert b; decide)
def hasB (s : ByteArray) (c : Int) : Bool := (bs s).any fun b => ((b.toNat : Nat) : Int) == c
theorem hasRune_ok (hT : T.fn 42 = some C42) {s : ByteArray} {c : Int} {h : Heap} (ha : Asc s) : Wk T (.fn 42) [.string s, .int .i32 c] h (fun o h' => Kept h h' ∧ o = .ret (.bool (hasB s c))) := by
 refine Wk_fn hT (by simp [C42]) ?_
 simp only [C42]
 refine Wc_seq (Wc_ops (Wo_run (fun _ => by simp only [go_sem, seval]; rfl) ?_))
 show Wc T _ _ _
 refine Wc_seq (Wc_seq (Wc_ops (Wo_pre 1 (fun _ => by simp only [go_sem, seval]; rfl) ?_)))
 refine Wo_new (v := ptr h.next 0) (B := .siter s 0) (by simp only [iop, ev, upd, reduceIte]) fun h1 n1 => Wo_nil ?_
 show Wc T _ _ _
 refine Wc_rangeStr (s := s) (bi := h.next) (fun j e h' d => d = some [] ∧ Kept h h' ∧ ∀ i, i < j → ∀ b, (bs s)[i]? = some b → ((b.toNat : Nat) : Int) ≠ c) ha (by decide) (by decide) (by first | rfl | assumption) n1.get ⟨rfl, n1.kept, fun i hi => by omega⟩ ?_ ?_
 ·rintro j b e h' d hb ⟨rfl, hk, hne⟩ hfr hg
  have e1 : e 1 = .int .i32 c := ((hfr 1 (by decide)).trans (by first | rfl | assumption | (symm; assumption)))
  have hk' : Kept h (h'.set h.next (.siter s (j + 1))) := hk.set (Nat.le_refl _) _
  refine Wc_seq (Wc_ops (Wo_op (v := .int .i32 b.toNat) (h' := h'.set h.next (.siter s (j + 1))) (by simp only [iop, ev, upd, reduceIte, Nat.reduceEqDiff]; rfl) (Wo_run (fun _ => by simp only [go_sem, seval]; rfl) ?_)))
  show Wc T _ _ _
  refine Wc_seq (Wc_ops (Wo_run (fun _ => by simp only [go_sem, seval, e1]; rfl) ?_))
  show Wc T _ _ _
  cases hx : (((b.toNat : Nat) : Int) == c)
  ·refine Wc_cond false (by simp only [go_sem, seval, hx] <;> first | rfl | assumption | (symm; assumption)) nofun (fun _ => Wc_skip ⟨set_get' _ _ _, rfl, hk', fun i hi y hy => ?_⟩)
   rcases Nat.lt_or_eq_of_le (Nat.le_of_lt_succ hi) with h1 | h1
   ·exact hne i h1 y hy
   ·subst h1; rw [show (bs s)[i]? = some b from hb] at hy; cases hy; simpa using hx
  ·refine Wc_cond true (by simp only [go_sem, seval, hx] <;> first | rfl | assumption | (symm; assumption)) (fun _ => ?_) nofun
   refine Wc_seq (Wc_ops (Wo_run (fun _ => by simp only [go_sem, seval]; rfl) ?_))
   refine Wc_ret ⟨.inr rfl, rfl, [.bool true], by simp only [resAll, resV, upd, dstUpd, reduceIte, Nat.reduceEqDiff], hk', ?_⟩
   have : hasB s c = true := List.any_eq_true.2 ⟨b, List.mem_of_getElem? (show (bs s)[j]? = some b from hb), hx⟩
   rw [this]; rfl
 ·rintro e h' d ⟨rfl, hk, hne⟩ hfr
  show Wc T _ _ _
  refine Wc_seq (Wc_ops (Wo_run (fun _ => by simp only [go_sem, seval]; rfl) ?_))
  refine Wc_ret ⟨.inr rfl, rfl, [.bool false], by simp only [resAll, resV, upd, dstUpd, reduceIte, Nat.reduceEqDiff], hk, ?_⟩
  have : hasB s c = false := by
   cases hz : hasB s c with
   | false => rfl
   | true =>
    obtain ⟨b, hb, he⟩ := List.any_eq_true.1 hz
    obtain ⟨i, hi⟩ := List.getElem?_of_mem hb
    exact absurd (beq_iff_eq.1 he) (hne i (by rw [bs_size]; exact (List.getElem?_eq_some_iff.1 hi).1) b hi)
  rw [this]; rfl
def atB : List UInt8 → Int → Nat → Int
 | [], _, _ => -1
 | b :: l, c, i => if ((b.toNat : Nat) : Int) = c then (i : Int) else atB l c (i + 1)
theorem atB_no {c : Int} : ∀ {l : List UInt8} {i : Nat}, (∀ b ∈ l, ((b.toNat : Nat) : Int) ≠ c) → atB l c i = -1
 | [], _, _ => rfl
 | b :: l, i, h => by rw [atB, if_neg (h b (List.mem_cons_self ..))]; exact atB_no fun y hy => h y (List.mem_cons_of_mem _ hy)
theorem atB_at {c : Int} : ∀ {l : List UInt8} {i j : Nat} {b : UInt8}, (∀ m, m < j → ∀ b, l[m]? = some b → ((b.toNat : Nat) : Int) ≠ c) → l[j]? = some b → ((b.toNat : Nat) : Int) = c → atB l c i = ((i + j : Nat) : Int)
 | [], _, _, _, _, h, _ => by simp at h
 | x :: l, i, 0, b, _, h, hc => by simp at h; subst h; rw [atB, if_pos hc, Nat.add_zero]
 | x :: l, i, j + 1, b, h1, h2, hc => by
  rw [atB, if_neg (h1 0 (Nat.succ_pos _) x rfl), atB_at (j := j) (fun m hm y hy => h1 (m + 1) (Nat.succ_lt_succ hm) y hy) (by simpa using h2) hc]
  congr 1; omega
theorem runeAt_ok (hT : T.fn 41 = some C41) {s : ByteArray} {c : Int} {h : Heap} (ha : Asc s) : Wk T (.fn 41) [.string s, .int .i32 c] h (fun o h' => Kept h h' ∧ o = .ret (.int .i64 (atB (bs s) c 0))) := by
 refine Wk_fn hT (by simp [C41]) ?_
 simp only [C41]
 refine Wc_seq (Wc_ops (Wo_run (fun _ => by simp only [go_sem, seval]; rfl) ?_))
 show Wc T _ _ _
 refine Wc_seq (Wc_seq (Wc_ops (Wo_pre 1 (fun _ => by simp only [go_sem, seval]; rfl) ?_)))
 refine Wo_new (v := ptr h.next 0) (B := .siter s 0) (by simp only [iop, ev, upd, reduceIte]) fun h1 n1 => Wo_nil ?_
 show Wc T _ _ _
 refine Wc_rangeStr (s := s) (bi := h.next) (fun j e h' d => d = some [] ∧ Kept h h' ∧ ∀ i, i < j → ∀ b, (bs s)[i]? = some b → ((b.toNat : Nat) : Int) ≠ c) ha (by decide) (by decide) (by first | rfl | assumption) n1.get ⟨rfl, n1.kept, fun i hi => by omega⟩ ?_ ?_
 ·rintro j b e h' d hb ⟨rfl, hk, hne⟩ hfr hg
  have e1 : e 1 = .int .i32 c := ((hfr 1 (by decide)).trans (by first | rfl | assumption | (symm; assumption)))
  have hk' : Kept h (h'.set h.next (.siter s (j + 1))) := hk.set (Nat.le_refl _) _
  refine Wc_seq (Wc_ops (Wo_op (v := .int .i64 j) (h' := h'.set h.next (.siter s (j + 1))) (by simp only [iop, ev, upd, reduceIte, Nat.reduceEqDiff]; rfl) (Wo_op (v := .int .i32 b.toNat) (h' := h'.set h.next (.siter s (j + 1))) (by simp only [iop, ev, upd, dstUpd, reduceIte, Nat.reduceEqDiff]; rfl) (Wo_run (fun _ => by simp only [go_sem, seval]; rfl) ?_))))
  show Wc T _ _ _
  refine Wc_seq (Wc_ops (Wo_run (fun _ => by simp only [go_sem, seval, e1]; rfl) ?_))
  show Wc T _ _ _
  cases hx : (((b.toNat : Nat) : Int) == c)
  ·refine Wc_cond false (by simp only [go_sem, seval, hx] <;> first | rfl | assumption | (symm; assumption)) nofun (fun _ => Wc_skip ⟨set_get' _ _ _, rfl, hk', fun i hi y hy => ?_⟩)
   rcases Nat.lt_or_eq_of_le (Nat.le_of_lt_succ hi) with h1 | h1
   ·exact hne i h1 y hy
   ·subst h1; rw [show (bs s)[i]? = some b from hb] at hy; cases hy; simpa using hx
  ·refine Wc_cond true (by simp only [go_sem, seval, hx] <;> first | rfl | assumption | (symm; assumption)) (fun _ => ?_) nofun
   refine Wc_seq (Wc_ops (Wo_run (fun _ => by simp only [go_sem, seval]; rfl) ?_))
   refine Wc_ret ⟨.inr rfl, rfl, [.int .i64 j], by simp only [resAll, resV, upd, dstUpd, reduceIte, Nat.reduceEqDiff], hk', ?_⟩
   rw [atB_at hne (show (bs s)[j]? = some b from hb) (beq_iff_eq.1 hx), Nat.zero_add]; rfl
 ·rintro e h' d ⟨rfl, hk, hne⟩ hfr
  show Wc T _ _ _
  refine Wc_seq (Wc_ops (Wo_run (fun _ => by simp only [go_sem, seval]; rfl) ?_))
  refine Wc_ret ⟨.inr rfl, rfl, [.int .i64 (-1)], by simp only [resAll, resV, upd, dstUpd, reduceIte, Nat.reduceEqDiff], hk, ?_⟩
  rw [atB_no fun b hb => by
   obtain ⟨i, hi⟩ := List.getElem?_of_mem hb
   exact hne i (by rw [bs_size]; exact (List.getElem?_eq_some_iff.1 hi).1) b hi]
  rfl
end Go.Idl
end

section
namespace Go.Idl
variable {T : Tbl}
def okN (ks : List Int) (c : Int) (at' : Nat) : Nat → Bool
 | 0 => true
 | n + 1 => okN ks c at' n && (decide (at' + n < ks.length) && hasB (lettersOf (ks.getD (at' + n) 0)) c)
theorem okN_no {ks : List Int} {c : Int} {a : Nat} : ∀ {n m : Nat}, n ≤ m → okN ks c a n = false → okN ks c a m = false
 | n, 0, h, hn => by rw [show n = 0 by omega] at hn; exact hn
 | n, m + 1, h, hn => by
  by_cases hm : n = m + 1
  ·rw [← hm]; exact hn
  ·rw [okN, okN_no (by omega) hn, Bool.false_and]
def manyI (s : ByteArray) (ks : List Int) (c : Int) (at' : Nat) (many : Bool) : Int := if many then (ks.length : Int) - at' - ((s.size : Int) - atB (bs s) c 0 - 1) else 1
def fitF (s : ByteArray) (ks : List Int) : List UInt8 → Nat → Bool → Option Nat
 | [], a, _ => some a
 | c :: r, a, many => if ((c.toNat : Nat) : Int) = 42 then fitF s ks r a true else if okN ks c.toNat a (manyI s ks c.toNat a many).toNat then fitF s ks r (a + (manyI s ks c.toNat a many).toNat) false else none
def fitB (s : ByteArray) (ks : List Int) : Bool := match fitF s ks (bs s) 0 false with
 | some a => decide (a = ks.length)
 | none => false
theorem atB_range {c : Int} : ∀ {l : List UInt8} {i : Nat}, -1 ≤ atB l c i ∧ atB l c i < ((i + l.length : Nat) : Int) + 1
 | [], i => by simp [atB]; omega
 | b :: l, i => by
  rw [atB]
  split
  ·simp only [List.length_cons]; omega
  ·have := atB_range (c := c) (l := l) (i := i + 1)
   simp only [List.length_cons]; omega
theorem okN_le {ks : List Int} {c : Int} {a : Nat} : ∀ {n : Nat}, okN ks c a n = true → a ≤ ks.length → a + n ≤ ks.length
 | 0, _, h => h
 | n + 1, h, ha => by
  simp only [okN, Bool.and_eq_true, decide_eq_true_eq] at h
  omega
structure FitFns (T : Tbl) : Prop where
 fits : T.fn 24 = some C24
 letters : T.fn 43 = some C43
 hasRune : T.fn 42 = some C42
 runeAt : T.fn 41 = some C41
theorem fits_ok (F : FitFns T) {h : Heap} {v kv : Value} {l : List Nd} {kids : List Int} {s : ByteArray} (hn : nodesAt h v l) (hk : intsAt h kv kids) (hr : ∀ k ∈ kids, 0 ≤ k ∧ k < l.length) (hkl : kids.length ≤ 100000) (ha : Asc s) (hs : s.size ≤ 3000) :
 Wk T (.fn 24) [v, kv, .string s] h (fun o h' => Kept h h' ∧ o = .ret (.bool (fitB s (kids.map (kindAt l))))) := by
 obtain ⟨ka, kc, hkv⟩ := hk.len
 have hksl : (kids.map (kindAt l)).length = kids.length := List.length_map _
 generalize hks : kids.map (kindAt l) = ks at hksl ⊢
 refine Wk_fn F.fits (by simp [C24]) ?_
 simp only [C24]
 have fin : ∀ (e : Env) (h2 : Heap) (x' : Ex) (b : Bool), Kept h h2 → (x' = .normal ∨ x' = .ret) → e 6 = .bool b → fitB s ks = b → (x' = .normal ∨ x' = .ret) ∧ some ([] : List Dfr) = some [] ∧ ∃ vs, resAll e h2 [.tmp 6] = some vs ∧ Kept h h2 ∧ Out.ret (tup vs) = .ret (.bool (fitB s ks)) := fun e h2 x' b hk hx h4 hb =>
  ⟨hx, rfl, [.bool b], by simp only [resAll, resV, h4], hk, by rw [hb]; rfl⟩
 refine Wc_seq (Wc_ops (Wo_run (fun _ => by simp only [go_sem, seval]; rfl) ?_))
 show Wc T _ _ _
 refine Wc_seq (Wc_ops (Wo_run (fun _ => by simp only [go_sem, seval]; rfl) ?_))
 show Wc T _ _ _
 refine Wc_seq (Wc_seq (Wc_ops (Wo_pre 1 (fun _ => by simp only [go_sem, seval]; rfl) ?_)))
 refine Wo_new (v := ptr h.next 0) (B := .siter s 0) (by simp only [iop, ev, upd, reduceIte]) fun h1 n1 => Wo_nil ?_
 show Wc T _ _ _
 refine Wc_rangeStr (s := s) (bi := h.next) (fun j e h' d => d = some [] ∧ (Kept h h' ∧ h.next < h'.next) ∧ ∃ (a : Nat) (many : Bool), a ≤ ks.length ∧ e 7 = .int .i64 a ∧ e 8 = .bool many ∧ fitF s ks (bs s) 0 false = fitF s ks ((bs s).drop j) a many) ha (by decide) (by decide) (by first | rfl | assumption) n1.get ⟨rfl, ⟨n1.kept, by rw [n1.next]; exact Nat.lt_succ_self _⟩, 0, false, Nat.zero_le _, (by first | rfl | assumption), (by first | rfl | assumption), rfl⟩ ?_ ?_
 case refine_2 =>
  rintro e h' d ⟨rfl, ⟨hk', hx'⟩, a, many, hal, h7, h8, hfit⟩ hfr
  have e1 : e 1 = kv := ((hfr 1 (by decide)).trans (by first | rfl | assumption | (symm; assumption)))
  show Wc T _ _ _
  refine Wc_seq (Wc_ops (Wo_run (fun _ => by simp only [go_sem, seval, h7, e1, hkv]; rfl) ?_))
  refine Wc_ret (fin _ _ _ _ hk' (.inr rfl) (by first | rfl | assumption) ?_)
  rw [bs_size, List.drop_length] at hfit
  rw [fitB, hfit, fitF, ← hksl, len_eq]
 rintro j c e h' d hc ⟨rfl, ⟨hk', hx'⟩, a, many, hal, h7, h8, hfit⟩ hfr hg
 have hcs : (bs s)[j]? = some c := hc
 have hdrop : (bs s).drop j = c :: (bs s).drop (j + 1) := by
  have hlt := (List.getElem?_eq_some_iff.1 hcs).1
  have he := (List.getElem?_eq_some_iff.1 hcs).2
  rw [List.drop_eq_getElem_cons hlt, he]
 rw [hdrop, fitF] at hfit
 have e0 : e 0 = v := ((hfr 0 (by decide)).trans (by first | rfl | assumption | (symm; assumption)))
 have e1 : e 1 = kv := ((hfr 1 (by decide)).trans (by first | rfl | assumption | (symm; assumption)))
 have e2 : e 2 = .string s := ((hfr 2 (by decide)).trans (by first | rfl | assumption | (symm; assumption)))
 have hk2 : Kept h (h'.set h.next (.siter s (j + 1))) := hk'.set (Nat.le_refl _) _
 have hg2 : (h'.set h.next (.siter s (j + 1))).get h.next = some (.siter s (j + 1)) := set_get' _ _ _
 have hx2 : h.next < (h'.set h.next (.siter s (j + 1))).next := hx'
 generalize h'.set h.next (.siter s (j + 1)) = h2 at hk2 hg2 hx2 ⊢
 refine Wc_seq (Wc_ops (Wo_op (v := .int .i32 c.toNat) (h' := h2) (by simp only [iop, ev, upd, reduceIte, Nat.reduceEqDiff]; rfl) (Wo_run (fun _ => by simp only [go_sem, seval]; rfl) ?_)))
 show Wc T _ _ _
 cases hst : (((c.toNat : Nat) : Int) == 42)
 case true =>
  have hst' := beq_iff_eq.1 hst
  rw [if_pos hst'] at hfit
  refine Wc_seq (Wc_seq (Wc_ops (Wo_run (fun _ => by simp only [go_sem, seval, hst]; rfl) ?_)))
  show Wc T _ _ _
  refine Wc_cond true (by first | rfl | assumption) (fun _ => ?_) nofun
  refine Wc_seq (Wc_ops (Wo_run (fun _ => by simp only [go_sem, seval]; rfl) ?_))
  exact Wc_exit ⟨hg2, rfl, ⟨hk2, hx2⟩, a, true, hal, (by simp only [go_sem, seval, h7] <;> first | rfl | assumption | (symm; assumption)), (by first | rfl | assumption), hfit⟩
 have hst' : ¬ ((c.toNat : Nat) : Int) = 42 := by simpa using hst
 rw [if_neg hst'] at hfit
 refine Wc_seq (Wc_seq (Wc_ops (Wo_run (fun _ => by simp only [go_sem, seval, hst]; rfl) ?_)))
 show Wc T _ _ _
 refine Wc_cond false (by first | rfl | assumption) nofun (fun _ => Wc_skip ?_)
 show Wc T _ _ _
 refine Wc_seq (Wc_ops (Wo_run (fun _ => by simp only [go_sem, seval]; rfl) ?_))
 show Wc T _ _ _
 refine Wc_mid (fun s' => s'.d = some [] ∧ Kept h s'.h ∧ h.next < s'.h.next ∧ s'.h.get h.next = some (.siter s (j + 1)) ∧ s'.e 0 = v ∧ s'.e 1 = kv ∧ s'.e 7 = .int .i64 a ∧ s'.e 8 = .bool false ∧ s'.e 10 = .int .i32 c.toNat ∧ s'.e 11 = .int .i64 (manyI s ks c.toNat a many)) ?_ ?_
 ·refine Wc_seq (Wc_ops (Wo_run (fun _ => by simp only [go_sem, seval, h8]; rfl) ?_))
  show Wc T _ _ _
  cases many
  ·refine Wc_cond false (by first | rfl | assumption) nofun (fun _ => Wc_skip ?_)
   exact ⟨rfl, hk2, hx2, hg2, (by simp only [go_sem, seval, e0] <;> first | rfl | assumption | (symm; assumption)), (by simp only [go_sem, seval, e1] <;> first | rfl | assumption | (symm; assumption)), (by simp only [go_sem, seval, h7] <;> first | rfl | assumption | (symm; assumption)), (by simp only [go_sem, seval, h8] <;> first | rfl | assumption | (symm; assumption)), (by first | rfl | assumption), (by first | rfl | assumption)⟩
  refine Wc_cond true (by first | rfl | assumption) (fun _ => ?_) nofun
  have hrange := atB_range (c := c.toNat) (l := bs s) (i := 0)
  rw [← bs_size] at hrange
  have w1 : IntKind.i64.wrap (((kids.length : Nat) : Int) - ((a : Nat) : Int)) = ((kids.length : Nat) : Int) - ((a : Nat) : Int) := wrap64 (by omega) (by omega)
  have w2 : IntKind.i64.wrap (((s.size : Nat) : Int) - atB (bs s) c.toNat 0) = ((s.size : Nat) : Int) - atB (bs s) c.toNat 0 := wrap64 (by omega) (by omega)
  have w3 : IntKind.i64.wrap (((s.size : Nat) : Int) - atB (bs s) c.toNat 0 - 1) = ((s.size : Nat) : Int) - atB (bs s) c.toNat 0 - 1 := wrap64 (by omega) (by omega)
  have w4 : IntKind.i64.wrap (((kids.length : Nat) : Int) - ((a : Nat) : Int) - (((s.size : Nat) : Int) - atB (bs s) c.toNat 0 - 1)) = ((kids.length : Nat) : Int) - ((a : Nat) : Int) - (((s.size : Nat) : Int) - atB (bs s) c.toNat 0 - 1) := wrap64 (by omega) (by omega)
  refine Wc_seq (Wc_ops (Wo_pre 8 (fun _ => by simp only [go_sem, seval, e1, e2, hkv, h7, w1]; rfl) ?_))
  refine Wo_call (Wk_kept (runeAt_ok F.runeAt (c := c.toNat) ha) fun h3 k3 => ?_)
  refine (Wo_run (fun _ => by simp only [go_sem, seval, w2, w3, w4]; rfl) ?_)
  show Wc T _ _ _
  refine Wc_ops (Wo_run (fun _ => by simp only [go_sem, seval]; rfl) ?_)
  refine ⟨rfl, hk2.trans k3, Nat.lt_of_lt_of_le hx2 k3.next, ?_, (by simp only [go_sem, seval, e0] <;> first | rfl | assumption | (symm; assumption)), (by simp only [go_sem, seval, e1] <;> first | rfl | assumption | (symm; assumption)), (by simp only [go_sem, seval, h7] <;> first | rfl | assumption | (symm; assumption)), (by first | rfl | assumption), (by first | rfl | assumption), ?_⟩
  ·rw [k3.get _ hx2]; exact hg2
  ·simp only [upd, dstUpd, reduceIte, Nat.reduceEqDiff, manyI, hksl]
 rintro ⟨e3, h3, d3⟩ ⟨hd3, hk3, hx3, hg3, e0, e1, e7, e8, e10, e11⟩
 simp only at hd3 hk3 hx3 hg3 e0 e1 e7 e8 e10 e11
 rw [hd3]
 generalize hN : manyI s ks c.toNat a many = N at hfit e11
 refine Wc_block (Wc_loopF (fun e h' d => d = some [] ∧ Kept h h' ∧ h.next < h'.next ∧ h'.get h.next = some (.siter s (j + 1)) ∧ ∃ i : Nat, i ≤ N.toNat ∧ e 11 = .int .i64 (N - i) ∧ e 7 = .int .i64 ((a + i : Nat) : Int) ∧ okN ks c.toNat a i = true) (fun e _ => match e 11 with | .int _ k => k.toNat | _ => 0) ?_ ?_)
 ·exact ⟨rfl, hk3, hx3, hg3, 0, Nat.zero_le _, by show e3 11 = _; rw [e11]; congr 1; omega, e7, rfl⟩
 rintro e h4 d ⟨rfl, hk4, hnx, hg4, i, hi, h11, h7', hok⟩ hfr4
 have f0 : e 0 = v := by rw [hfr4 0 (by decide)]; exact e0
 have f1 : e 1 = kv := by rw [hfr4 1 (by decide)]; exact e1
 have f8 : e 8 = .bool false := by rw [hfr4 8 (by decide)]; exact e8
 have f10 : e 10 = .int .i32 c.toNat := by rw [hfr4 10 (by decide)]; exact e10
 rw [C24L0]
 have hal' := okN_le hok hal
 by_cases hmore : (0 : Int) < N - i
 case neg =>
  refine Wc_seq (Wc_seq (Wc_ops (Wo_run (fun _ => by simp only [go_sem, seval, h11, hmore]; rfl) ?_)))
  show Wc T _ _ _
  refine Wc_cond false (by first | rfl | assumption) nofun (fun _ => Wc_exit ?_)
  have hiN : i = N.toNat := by omega
  subst hiN
  rw [if_pos hok] at hfit
  exact ⟨hg4, rfl, ⟨hk4, hnx⟩, a + N.toNat, false, hal', (by simp only [go_sem, seval, h7'] <;> first | rfl | assumption | (symm; assumption)), (by simp only [go_sem, seval, f8] <;> first | rfl | assumption | (symm; assumption)), hfit⟩
 refine Wc_seq (Wc_seq (Wc_ops (Wo_run (fun _ => by simp only [go_sem, seval, h11, hmore]; rfl) ?_)))
 show Wc T _ _ _
 refine Wc_cond true (by first | rfl | assumption) (fun _ => Wc_skip ?_) nofun
 show Wc T _ _ _
 have hbad : (decide (a + i < ks.length) && hasB (lettersOf (ks.getD (a + i) 0)) c.toNat) = false → fitB s ks = false := fun hb => by
  have h1 : okN ks c.toNat a (i + 1) = false := by rw [okN, hb, Bool.and_false]
  have h2 := okN_no (show i + 1 ≤ N.toNat by omega) h1
  rw [if_neg (by rw [h2]; decide)] at hfit
  rw [fitB, hfit]
 by_cases hlt : a + i < kids.length
 case neg =>
  have z : ((kids.length : Nat) : Int) ≤ ((a + i : Nat) : Int) := by omega
  refine Wc_seq (Wc_block (Wc_seq (Wc_seq (Wc_ops (Wo_run (fun _ => by simp only [go_sem, seval, h7', f1, hkv, z]; rfl) ?_)))))
  show Wc T _ _ _
  refine Wc_cond true (by first | rfl | assumption) (fun _ => ?_) nofun
  refine Wc_seq (Wc_ops (Wo_run (fun _ => by simp only [go_sem, seval]; rfl) ?_))
  exact Wc_ret (fin _ _ _ false hk4 (.inr rfl) (by first | rfl | assumption) (hbad (by rw [decide_eq_false (by omega)]; rfl)))
 have z : ¬ ((kids.length : Nat) : Int) ≤ ((a + i : Nat) : Int) := by omega
 obtain ⟨k, hkk⟩ : ∃ k, kids[a + i]? = some k := ⟨_, List.getElem?_eq_getElem hlt⟩
 obtain ⟨bk, ck, hkvb, hbk, ⟨ok, zk, hgk⟩, hcell⟩ := (hk.keep hk4).load hkk
 rw [Nat.zero_add] at hcell
 have hkr := hr k (List.mem_of_getElem? hkk)
 obtain ⟨kk, rfl⟩ : ∃ kk : Nat, k = kk := ⟨k.toNat, by omega⟩
 have hkkl : kk < l.length := by omega
 obtain ⟨y, hy⟩ : ∃ y, l[kk]? = some y := ⟨_, List.getElem?_eq_getElem hkkl⟩
 obtain ⟨b5, c5, o5, z5, hvb5, hb5, hg5, _⟩ := (hn.keep hk4).load4 hy
 have hkind := (flatN_at hy).1
 have hka : kindAt l ((kk : Nat) : Int) = y.kind := by simp only [kindAt, Int.toNat_natCast, hy, Option.map_some, Option.getD_some]
 have hgd : ks.getD (a + i) 0 = y.kind := by rw [← hks, List.getD_eq_getElem?_getD, List.getElem?_map, hkk]; exact hka
 refine Wc_seq (Wc_block (Wc_seq (Wc_seq (Wc_ops (Wo_pre 13 (fun _ => by simp only [go_sem, seval, h7', f0, f1, hkvb, z, idx_ok hlt, hgk, hcell, hvb5, idx_ok hkkl, hg5, hkind]; rfl) ?_)))))
 refine Wo_take (by simp only [upd, dstUpd, reduceIte, Nat.reduceEqDiff, gval_bool]; rfl) (Wo_call (Wk_pure (letters_ok F.letters) ?_))
 refine (Wo_pre 1 (fun _ => by simp only [go_sem, seval, f10]; rfl) ?_)
 refine Wo_take (by simp only [upd, dstUpd, reduceIte, Nat.reduceEqDiff, gval_bool]; rfl) (Wo_call (Wk_kept (hasRune_ok F.hasRune (c := c.toNat) (letters_asc y.kind)) fun h5 k5 => ?_))
 refine (Wo_run (fun _ => by simp only [go_sem, seval]; rfl) ?_)
 show Wc T _ _ _
 cases hh : hasB (lettersOf y.kind) c.toNat
 ·refine Wc_cond true (by simp only [go_sem, seval, hh] <;> first | rfl | assumption | (symm; assumption)) (fun _ => ?_) nofun
  refine Wc_seq (Wc_ops (Wo_run (fun _ => by simp only [go_sem, seval]; rfl) ?_))
  exact Wc_ret (fin _ _ _ false (hk4.trans k5) (.inr rfl) (by first | rfl | assumption) (hbad (by rw [hgd, hh, Bool.and_false])))
 refine Wc_cond false (by simp only [go_sem, seval, hh] <;> first | rfl | assumption | (symm; assumption)) nofun (fun _ => Wc_skip ?_)
 show Wc T _ _ _
 have w1 : IntKind.i64.wrap (((a + i : Nat) : Int) + 1) = ((a + (i + 1) : Nat) : Int) := by rw [wrap64] <;> omega
 have hNb : N ≤ 400000 ∧ -400000 ≤ N := by
  have hrange := atB_range (c := c.toNat) (l := bs s) (i := 0)
  rw [← bs_size] at hrange
  rw [← hN, manyI]
  split <;> omega
 have w2 : IntKind.i64.wrap (N - i - 1) = N - ((i + 1 : Nat) : Int) := by rw [wrap64] <;> omega
 refine Wc_ops (Wo_run (fun _ => by simp only [go_sem, seval, h7', w1]; rfl) ?_)
 show Wc T _ _ _
 refine Wc_ops (Wo_run (fun _ => by simp only [go_sem, seval, h11, w2]; rfl) ?_)
 refine ⟨⟨rfl, hk4.trans k5, Nat.lt_of_lt_of_le hnx k5.next, by rw [k5.get _ hnx]; exact hg4, i + 1, by omega, (by first | rfl | assumption), (by first | rfl | assumption), ?_⟩, ?_⟩
 ·rw [okN, hok, hgd, hh, decide_eq_true (show a + i < ks.length by omega)]; rfl
 ·simp only [upd, dstUpd, reduceIte, Nat.reduceEqDiff, h11]
  exact (Int.toNat_lt_toNat (by omega)).2 (by omega)
end Go.Idl
end
