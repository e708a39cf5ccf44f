/- Texts of the proof. -/
import Derived.Test.YtbngfhkhdilfdaaGreatDoorO7
import Derived.KernelRfl
import Derived.Test.YtbngfhkhdilfdaaGreatDoorFlex
import Derived.Test.YtbngfhkhdilfdaaGreatDoorI3g
set_option linter.unusedVariables false
set_option linter.unusedSimpArgs false
set_option maxRecDepth 100000
section
namespace Go.Idl
def wantL : List (Int × ByteArray) := [(1, ⟨#[42, 100]⟩), (2, ⟨#[42, 110]⟩), (3, ⟨#[42, 110, 98]⟩), (4, ⟨#[42, 115]⟩), (5, ⟨#[101]⟩), (6, ⟨#[112, 101]⟩), (7, ⟨#[101, 98, 111]⟩), (8, ⟨#[101, 98]⟩), (9, ⟨#[101]⟩), (10, ⟨#[101]⟩), (11, ⟨#[101]⟩), (12, ⟨#[99]⟩), (13, ⟨#[42, 110]⟩), (14, ⟨#[]⟩), (15, ⟨#[]⟩), (16, ⟨#[]⟩), (17, ⟨#[]⟩), (18, ⟨#[101]⟩), (19, ⟨#[101, 101]⟩), (20, ⟨#[101]⟩), (21, ⟨#[101, 101]⟩), (22, ⟨#[42, 101]⟩), (23, ⟨#[]⟩), (24, ⟨#[101]⟩), (25, ⟨#[101]⟩), (26, ⟨#[]⟩), (27, ⟨#[101]⟩), (28, ⟨#[]⟩), (29, ⟨#[101]⟩), (30, ⟨#[]⟩)]
def wantOf (k : Int) : ByteArray := match wantL.find? fun p => p.1 == k with
 | some p => p.2
 | none => ⟨#[]⟩
theorem has_e {k : Int} (h : exprB k = true) : hasB (lettersOf k) 101 = true := by
 have h := of_decide_eq_true h
 rcases (by omega : k = 15 ∨ k = 16 ∨ k = 17 ∨ k = 18 ∨ k = 19 ∨ k = 20 ∨ k = 21 ∨ k = 22 ∨ k = 23 ∨ k = 24 ∨ k = 25 ∨ k = 26 ∨ k = 27 ∨ k = 28 ∨ k = 29 ∨ k = 30) with rfl | rfl | rfl | rfl | rfl | rfl | rfl | rfl | rfl | rfl | rfl | rfl | rfl | rfl | rfl | rfl <;> decide
theorem has_s {k : Int} (h : stmtB k = true) : hasB (lettersOf k) 115 = true := by
 have h := of_decide_eq_true h
 rcases (by omega : k = 5 ∨ k = 6 ∨ k = 7 ∨ k = 8 ∨ k = 9 ∨ k = 10 ∨ k = 11 ∨ k = 12 ∨ k = 13) with rfl | rfl | rfl | rfl | rfl | rfl | rfl | rfl | rfl <;> decide
theorem has_n {k : Int} (h : (k == 17) = true) : hasB (lettersOf k) 110 = true := by rw [beq_iff_eq.1 h]; decide
theorem has_d {k : Int} (h : (k == 2 || k == 3) = true) : hasB (lettersOf k) 100 = true := by
 rw [Bool.or_eq_true, beq_iff_eq, beq_iff_eq] at h
 rcases h with rfl | rfl <;> decide
theorem has_b {k : Int} (h : (k == 4) = true) : hasB (lettersOf k) 98 = true := by rw [beq_iff_eq.1 h]; decide
theorem has_o {k : Int} (h : (k == 4 || k == 14) = true) : hasB (lettersOf k) 111 = true := by
 rw [Bool.or_eq_true, beq_iff_eq, beq_iff_eq] at h
 rcases h with rfl | rfl <;> decide
theorem has_p {k : Int} (h : (k == 17 || k == 20 || k == 21 || k == 30) = true) : hasB (lettersOf k) 112 = true := by
 rw [Bool.or_eq_true, Bool.or_eq_true, Bool.or_eq_true, beq_iff_eq, beq_iff_eq, beq_iff_eq, beq_iff_eq] at h
 rcases h with ((rfl | rfl) | rfl) | rfl <;> decide
theorem has_c {k : Int} (h : (k == 22) = true) : hasB (lettersOf k) 99 = true := by rw [beq_iff_eq.1 h]; decide
theorem okN_all {ks : List Int} {c : Int} {a : Nat} : ∀ {n : Nat}, (∀ i, i < n → a + i < ks.length ∧ hasB (lettersOf (ks.getD (a + i) 0)) c = true) → okN ks c a n = true
 | 0, _ => rfl
 | n + 1, h => by
  rw [okN, okN_all (n := n) (fun i hi => h i (by omega)), decide_eq_true (h n (Nat.lt_succ_self _)).1, (h n (Nat.lt_succ_self _)).2]; rfl
theorem getD_mem {ks : List Int} {i : Nat} (h : i < ks.length) : ks.getD i 0 ∈ ks := by
 rw [List.getD_eq_getElem?_getD, List.getElem?_eq_getElem h]; exact List.getElem_mem h
theorem fit_star {ks : List Int} {x : UInt8} (hx : ((x.toNat : Nat) : Int) ≠ 42) (h : ∀ k ∈ ks, hasB (lettersOf k) x.toNat = true) : fitB ⟨#[42, x]⟩ ks = true := by
 have hm : manyI ⟨#[42, x]⟩ ks x.toNat 0 true = ks.length := by
  have : atB (bs ⟨#[42, x]⟩) ((x.toNat : Nat) : Int) 0 = 1 := by
   show atB [42, x] _ 0 = 1
   rw [atB, if_neg (fun e => hx e.symm), atB, if_pos rfl]; rfl
  rw [manyI, this]
  show (ks.length : Int) - ((0 : Nat) : Int) - ((2 : Int) - 1 - 1) = ks.length
  omega
 have hf : fitF ⟨#[42, x]⟩ ks [42, x] 0 false = some ks.length := by
  rw [fitF, if_pos (by decide), fitF, if_neg hx, hm, Int.toNat_natCast, okN_all (fun i hi => ⟨by omega, h _ (getD_mem (by omega))⟩), if_pos rfl, fitF, Nat.zero_add]
 rw [fitB, show bs ⟨#[42, x]⟩ = [42, x] from rfl, hf]
 exact decide_eq_true rfl
theorem fit_fn {ks : List Int} (h0 : 0 < ks.length) (h : ((ks.take (ks.length - 1)).all fun k => k == 17) = true) (hb : (ks.getD (ks.length - 1) 0 == 4) = true) : fitB ⟨#[42, 110, 98]⟩ ks = true := by
 have hm : manyI ⟨#[42, 110, 98]⟩ ks 110 0 true = ((ks.length - 1 : Nat) : Int) := by
  have : atB (bs ⟨#[42, 110, 98]⟩) 110 0 = 1 := by decide
  rw [manyI, this]
  show (ks.length : Int) - ((0 : Nat) : Int) - ((3 : Int) - 1 - 1) = ((ks.length - 1 : Nat) : Int)
  omega
 have h1 : okN ks 110 0 (ks.length - 1) = true := okN_all fun i hi => ⟨by omega, has_n (by
  have hi2 : (ks.take (ks.length - 1))[i]? = some (ks.getD i 0) := by rw [List.getElem?_take, if_pos hi, List.getD_eq_getElem?_getD, List.getElem?_eq_getElem (by omega)]; rfl
  rw [Nat.zero_add]
  exact List.all_eq_true.1 h _ (List.mem_of_getElem? hi2))⟩
 have h2 : okN ks 98 (ks.length - 1) 1 = true := okN_all fun i hi => by
  have : i = 0 := by omega
  subst this
  exact ⟨by omega, has_b hb⟩
 have hf : fitF ⟨#[42, 110, 98]⟩ ks [42, 110, 98] 0 false = some ks.length := by
  rw [fitF, if_pos (by decide), fitF, if_neg (by decide), show ((UInt8.toNat 110 : Nat) : Int) = 110 from rfl, hm, Int.toNat_natCast, h1, if_pos rfl, fitF, if_neg (by decide), show ((UInt8.toNat 98 : Nat) : Int) = 98 from rfl, Nat.zero_add]
  have : manyI ⟨#[42, 110, 98]⟩ ks 98 (ks.length - 1) false = 1 := rfl
  rw [this, show Int.toNat 1 = 1 from rfl, h2, if_pos rfl, fitF, show ks.length - 1 + 1 = ks.length by omega]
 rw [fitB, show bs ⟨#[42, 110, 98]⟩ = [42, 110, 98] from rfl, hf]
 exact decide_eq_true rfl
theorem fit_list (x : List UInt8) (ks : List Int) (hx : ∀ c ∈ x, ((c.toNat : Nat) : Int) ≠ 42) (h : ks.length = x.length) (hh : ∀ i c, x[i]? = some c → hasB (lettersOf (ks.getD i 0)) c.toNat = true) : fitB ⟨x.toArray⟩ ks = true := by
 have key : ∀ (y : List UInt8) (a : Nat), x.drop a = y → a ≤ ks.length → fitF ⟨x.toArray⟩ ks y a false = some ks.length := by
  intro y
  induction y with
  | nil =>
   intro a ha hle
   have : x.length ≤ a := by
    rcases Nat.lt_or_ge a x.length with h1 | h1
    ·have := congrArg List.length ha
     rw [List.length_drop] at this; simp at this; omega
    ·exact h1
   rw [fitF, show a = ks.length by omega]
  | cons c y ih =>
   intro a ha hle
   have hlt : a < x.length := by
    rcases Nat.lt_or_ge a x.length with h1 | h1
    ·exact h1
    ·rw [List.drop_of_length_le h1] at ha; cases ha
   have hc : x[a]? = some c := by
    have := congrArg (fun l => l[0]?) ha
    simpa [List.getElem?_drop] using this
   have hm : manyI ⟨x.toArray⟩ ks c.toNat a false = 1 := rfl
   have hok : okN ks c.toNat a 1 = true := okN_all fun i hi => by
    have : i = 0 := by omega
    subst this
    exact ⟨by omega, hh a c hc⟩
   rw [fitF, if_neg (hx c (List.mem_of_getElem? hc)), hm, show Int.toNat 1 = 1 from rfl, hok, if_pos rfl]
   refine ih (a + 1) ?_ (by omega)
   rw [List.drop_add_one_eq_tail_drop, ha]; rfl
 rw [fitB, show bs ⟨x.toArray⟩ = x from rfl, key x 0 rfl (Nat.zero_le _)]
 exact decide_eq_true rfl
theorem exprs_facts {ks : List Int} {n : Nat} (h : exprsB ks n = true) : ks.length = n ∧ ∀ k ∈ ks, exprB k = true := by
 simp only [exprsB, Bool.and_eq_true, beq_iff_eq, List.all_eq_true] at h
 exact ⟨by omega, h.1⟩
theorem fitE1 {ks : List Int} (h : exprsB ks ((1 : Nat) : Int) = true) : fitB ⟨#[101]⟩ ks = true := by
 obtain ⟨h1, h2⟩ := exprs_facts h
 refine fit_list [101] ks (by decide) h1 fun i c hc => ?_
 match i with
 | 0 => simp at hc; subst hc; exact has_e (h2 _ (getD_mem (by omega)))
 | i + 1 => simp at hc
theorem fitE2 {ks : List Int} (h : exprsB ks ((2 : Nat) : Int) = true) : fitB ⟨#[101, 101]⟩ ks = true := by
 obtain ⟨h1, h2⟩ := exprs_facts h
 refine fit_list [101, 101] ks (by decide) h1 fun i c hc => ?_
 match i with
 | 0 => simp at hc; subst hc; exact has_e (h2 _ (getD_mem (by omega)))
 | 1 => simp at hc; subst hc; exact has_e (h2 _ (getD_mem (by omega)))
 | i + 2 => simp at hc
theorem fitE0 {ks : List Int} (h : decide (ks.length = 0) = true) : fitB ⟨#[]⟩ ks = true :=
 fit_list [] ks (by decide) (of_decide_eq_true h) fun i c hc => by simp at hc
theorem fit_of_shape {k : Int} {ks : List Int} (h1 : 1 ≤ k) (h2 : k ≤ 30) (h : shapeB k ks = true) : fitB (wantOf k) ks = true := by
 rcases (by omega : k = 1 ∨ k = 2 ∨ k = 3 ∨ k = 4 ∨ k = 5 ∨ k = 6 ∨ k = 7 ∨ k = 8 ∨ k = 9 ∨ k = 10 ∨ k = 11 ∨ k = 12 ∨ k = 13 ∨ k = 14 ∨ k = 15 ∨ k = 16 ∨ k = 17 ∨ k = 18 ∨ k = 19 ∨ k = 20 ∨ k = 21 ∨ k = 22 ∨ k = 23 ∨ k = 24 ∨ k = 25 ∨ k = 26 ∨ k = 27 ∨ k = 28 ∨ k = 29 ∨ k = 30) with rfl | rfl | rfl | rfl | rfl | rfl | rfl | rfl | rfl | rfl | rfl | rfl | rfl | rfl | rfl | rfl | rfl | rfl | rfl | rfl | rfl | rfl | rfl | rfl | rfl | rfl | rfl | rfl | rfl | rfl
 ·show fitB ⟨#[42, 100]⟩ ks = true
  exact fit_star (x := 100) (by decide) fun k hk => has_d (List.all_eq_true.1 (show (ks.all fun k => k == 2 || k == 3) = true from h) k hk)
 ·show fitB ⟨#[42, 110]⟩ ks = true
  exact fit_star (x := 110) (by decide) fun k hk => has_n (List.all_eq_true.1 (show (ks.all fun k => k == 17) = true from h) k hk)
 ·show fitB ⟨#[42, 110, 98]⟩ ks = true
  have h : (decide (0 < ks.length) && ((ks.take (ks.length - 1)).all fun k => k == 17) && (ks.getD (ks.length - 1) 0 == 4)) = true := h
  simp only [Bool.and_eq_true, decide_eq_true_eq] at h
  exact fit_fn h.1.1 h.1.2 h.2
 ·show fitB ⟨#[42, 115]⟩ ks = true
  exact fit_star (x := 115) (by decide) fun k hk => has_s (List.all_eq_true.1 (show ks.all stmtB = true from h) k hk)
 ·show fitB ⟨#[101]⟩ ks = true
  exact fitE1 h
 ·show fitB ⟨#[112, 101]⟩ ks = true
  have h : (exprsB ks ((2 : Nat) : Int) && (ks.getD 0 0 == 17 || ks.getD 0 0 == 20 || ks.getD 0 0 == 21 || ks.getD 0 0 == 30)) = true := h
  rw [Bool.and_eq_true] at h
  obtain ⟨h3, h4⟩ := exprs_facts h.1
  refine fit_list [112, 101] ks (by decide) h3 fun i c hc => ?_
  match i with
  | 0 => simp at hc; subst hc; exact has_p h.2
  | 1 => simp at hc; subst hc; exact has_e (h4 _ (getD_mem (by omega)))
  | i + 2 => simp at hc
 ·show fitB ⟨#[101, 98, 111]⟩ ks = true
  have h : (decide (ks.length = 3) && exprB (ks.getD 0 0) && (ks.getD 1 0 == 4) && (ks.getD 2 0 == 4 || ks.getD 2 0 == 14)) = true := h
  rw [Bool.and_eq_true, Bool.and_eq_true, Bool.and_eq_true, decide_eq_true_iff] at h
  refine fit_list [101, 98, 111] ks (by decide) h.1.1.1 fun i c hc => ?_
  match i with
  | 0 => simp at hc; subst hc; exact has_e h.1.1.2
  | 1 => simp at hc; subst hc; exact has_b h.1.2
  | 2 => simp at hc; subst hc; exact has_o h.2
  | i + 3 => simp at hc
 ·show fitB ⟨#[101, 98]⟩ ks = true
  have h : (decide (ks.length = 2) && exprB (ks.getD 0 0) && (ks.getD 1 0 == 4)) = true := h
  rw [Bool.and_eq_true, Bool.and_eq_true, decide_eq_true_iff] at h
  refine fit_list [101, 98] ks (by decide) h.1.1 fun i c hc => ?_
  match i with
  | 0 => simp at hc; subst hc; exact has_e h.1.2
  | 1 => simp at hc; subst hc; exact has_b h.2
  | i + 2 => simp at hc
 ·show fitB ⟨#[101]⟩ ks = true
  exact fitE1 h
 ·show fitB ⟨#[101]⟩ ks = true
  exact fitE1 h
 ·show fitB ⟨#[101]⟩ ks = true
  exact fitE1 h
 ·show fitB ⟨#[99]⟩ ks = true
  have h : (decide (ks.length = 1) && (ks.getD 0 0 == 22)) = true := h
  rw [Bool.and_eq_true, decide_eq_true_iff] at h
  refine fit_list [99] ks (by decide) h.1 fun i c hc => ?_
  match i with
  | 0 => simp at hc; subst hc; exact has_c h.2
  | i + 1 => simp at hc
 ·show fitB ⟨#[42, 110]⟩ ks = true
  exact fit_star (x := 110) (by decide) fun k hk => has_n (List.all_eq_true.1 (show (ks.all fun k => k == 17) = true from h) k hk)
 ·show fitB ⟨#[]⟩ ks = true
  exact fitE0 h
 ·show fitB ⟨#[]⟩ ks = true
  exact fitE0 h
 ·show fitB ⟨#[]⟩ ks = true
  exact fitE0 h
 ·show fitB ⟨#[]⟩ ks = true
  exact fitE0 h
 ·show fitB ⟨#[101]⟩ ks = true
  exact fitE1 h
 ·show fitB ⟨#[101, 101]⟩ ks = true
  exact fitE2 h
 ·show fitB ⟨#[101]⟩ ks = true
  exact fitE1 h
 ·show fitB ⟨#[101, 101]⟩ ks = true
  exact fitE2 h
 ·show fitB ⟨#[42, 101]⟩ ks = true
  exact fit_star (x := 101) (by decide) fun k hk => has_e ((exprs_facts (show exprsB ks ks.length = true from h)).2 k hk)
 ·show fitB ⟨#[]⟩ ks = true
  exact fitE0 h
 ·show fitB ⟨#[101]⟩ ks = true
  exact fitE1 h
 ·show fitB ⟨#[101]⟩ ks = true
  exact fitE1 h
 ·show fitB ⟨#[]⟩ ks = true
  exact fitE0 h
 ·show fitB ⟨#[101]⟩ ks = true
  exact fitE1 h
 ·show fitB ⟨#[]⟩ ks = true
  exact fitE0 h
 ·show fitB ⟨#[101]⟩ ks = true
  exact fitE1 h
 ·show fitB ⟨#[]⟩ ks = true
  exact fitE0 h
end Go.Idl
end

section
namespace Go.Idl
variable {T : Tbl}
def sgnS : ByteArray := ⟨#[45, 33, 126]⟩
def opsS : ByteArray := ⟨#[32, 43, 32, 45, 32, 42, 32, 47, 32, 37, 32, 60, 60, 32, 62, 62, 32, 38, 32, 94, 32, 124, 32, 61, 61, 32, 33, 61, 32, 60, 32, 60, 61, 32]⟩
def conP (s t : ByteArray) : Bool := (decide (s = sgnS) && sgnB t) || (decide (s = opsS) && opsL.any fun w => decide (t = ⟨#[32]⟩ ++ w ++ ⟨#[32]⟩))
structure SaysFns (T : Tbl) : Prop where
 says : T.fn 23 = some C23
 Name : T.fn 38 = some C38
 classes : ∀ (h : Heap) (K : Out → Heap → Prop), K (.ret clsV) h → Wk T (.fn 30) [] h K
 peek : T.fn 51 = some C51
 goes : T.fn 52 = some C52
 word : T.fn 53 = some C53
 reserved : T.fn 62 = some C62
 Number : T.fn 39 = some C39
 worth : T.fn 58 = some C58
 con : ∀ (s t : ByteArray) (h : Heap) (K : Out → Heap → Prop), conP s t = true → K (.ret (.bool true)) h → Wk T (.fn 40) [.string s, .string t] h K
theorem sgn_size {s : ByteArray} (h : sgnB s = true) : s.size = 1 := by
 simp only [sgnB, Bool.or_eq_true, decide_eq_true_eq] at h
 rcases h with (h | h) | h <;> subst h <;> rfl
theorem op_facts {s : ByteArray} (h : opB s = true) : decide (s = ⟨#[]⟩) = false ∧ s.size ≤ 2 ∧ (opsL.any fun w => decide (⟨#[32]⟩ ++ s ++ ⟨#[32]⟩ = (⟨#[32]⟩ ++ w ++ ⟨#[32]⟩ : ByteArray))) = true := by
 obtain ⟨w, hw, h1⟩ := List.any_eq_true.1 h
 have h1 := of_decide_eq_true h1
 subst h1
 refine ⟨?_, ?_, List.any_eq_true.2 ⟨s, hw, decide_eq_true rfl⟩⟩
 ·exact decide_eq_false fun e => by
   have : ∀ w ∈ opsL, w.size ≠ 0 := by decide
   exact this s hw (by rw [e]; rfl)
 ·have : ∀ w ∈ opsL, w.size ≤ 2 := by decide
  exact this s hw
theorem dig_facts {s : ByteArray} {c : UInt8} (hc : (bs s)[0]? = some c) (h : digB s = true) : (numR (bs s)).2 = true ∧ (decide (s = ⟨#[48]⟩) = true ∨ ((49 : Int) ≤ ((c.toNat : Nat) : Int) ∧ ((c.toNat : Nat) : Int) ≤ 57)) := by
 rw [digB, bt_at hc] at h
 simp only [Bool.and_eq_true, Bool.or_eq_true, decide_eq_true_eq, Bool.not_eq_true', beq_eq_false_iff_ne] at h
 obtain ⟨⟨⟨h1, h2⟩, h3⟩, h4⟩ := h
 refine ⟨h1, ?_⟩
 by_cases h48 : ((c.toNat : Nat) : Int) = 48
 ·left
  rcases h4 with h4 | h4
  ·refine decide_eq_true (bs_inj ?_)
   have hl : (bs s).length = 1 := by rw [← bs_size]; exact h4
   match hb : bs s, hl, hc with
   | [x], _, hx =>
    simp at hx
    subst hx
    have : x = 48 := UInt8.toNat_inj.1 (by simp; omega)
    rw [this]; rfl
  ·exact absurd h48 h4
 ·right; omega
theorem says_ok (F : SaysFns T) {x : Nd} {h : Heap} (hs : x.text.size < 4611686018427387904) (ht : textB x.kind x.text = true) : Wk T (.fn 23) [.agg x.cells.toArray] h (fun o h' => Kept h h' ∧ o = .ret (.bool true)) := by
 refine Wk_fn F.says (by simp [C23]) ?_
 simp only [C23]
 refine Wc_seq (Wc_ops (Wo_box (cs := x.cells) rfl fun h1 n1 => (Wo_run (fun _ => by simp only [go_sem, seval]; rfl) ?_)))
 show Wc T _ _ _
 have fin : ∀ (e : Env) (h2 : Heap) (x' : Ex), Kept h1 h2 → (x' = .normal ∨ x' = .ret) → e 2 = .bool true → (x' = .normal ∨ x' = .ret) ∧ some ([] : List Dfr) = some [] ∧ ∃ vs, resAll e h2 [.tmp 2] = some vs ∧ Kept h h2 ∧ Out.ret (tup vs) = .ret (.bool true) := fun e h2 x' hk hx h4 =>
  ⟨hx, rfl, [.bool true], by simp only [resAll, resV, h4], n1.kept.trans hk, rfl⟩
 have hg := n1.get
 refine Wc_seq (Wc_seq (Wc_ops (Wo_run (fun _ => by simp only [go_sem, seval, hg, Nd.cells]; rfl) ?_)))
 show Wc T _ _ _
 refine Wc_block ?_
 refine Wc_mid (fun s' => s'.d = some [] ∧ s'.h = h1 ∧ s'.e 1 = ptr h.next 0 ∧ s'.e 6 = .int .i64 x.kind ∧ s'.e 7 = .bool (mem7 x.kind)) ?_ ?_
 ·clear fin
  refine Wc_case (by first | rfl | assumption) (fun y => Wc_skip ⟨rfl, rfl, (by first | rfl | assumption), (by first | rfl | assumption), by simp only [upd, dstUpd, reduceIte, Nat.reduceEqDiff, mem7, y, true_or, or_true, decide_true]; try rfl⟩) (fun m0 => ?_)
  refine Wc_case (by first | rfl | assumption) (fun y => Wc_skip ⟨rfl, rfl, (by first | rfl | assumption), (by first | rfl | assumption), by simp only [upd, dstUpd, reduceIte, Nat.reduceEqDiff, mem7, y, true_or, or_true, decide_true]; try rfl⟩) (fun m1 => ?_)
  refine Wc_case (by first | rfl | assumption) (fun y => Wc_skip ⟨rfl, rfl, (by first | rfl | assumption), (by first | rfl | assumption), by simp only [upd, dstUpd, reduceIte, Nat.reduceEqDiff, mem7, y, true_or, or_true, decide_true]; try rfl⟩) (fun m2 => ?_)
  refine Wc_case (by first | rfl | assumption) (fun y => Wc_skip ⟨rfl, rfl, (by first | rfl | assumption), (by first | rfl | assumption), by simp only [upd, dstUpd, reduceIte, Nat.reduceEqDiff, mem7, y, true_or, or_true, decide_true]; try rfl⟩) (fun m3 => ?_)
  refine Wc_case (by first | rfl | assumption) (fun y => Wc_skip ⟨rfl, rfl, (by first | rfl | assumption), (by first | rfl | assumption), by simp only [upd, dstUpd, reduceIte, Nat.reduceEqDiff, mem7, y, true_or, or_true, decide_true]; try rfl⟩) (fun m4 => ?_)
  refine Wc_case (by first | rfl | assumption) (fun y => Wc_skip ⟨rfl, rfl, (by first | rfl | assumption), (by first | rfl | assumption), by simp only [upd, dstUpd, reduceIte, Nat.reduceEqDiff, mem7, y, true_or, or_true, decide_true]; try rfl⟩) (fun m5 => ?_)
  refine Wc_ops (Wo_run (fun _ => by simp only [go_sem, seval]; rfl) ?_)
  exact ⟨rfl, rfl, (by first | rfl | assumption), (by first | rfl | assumption), by simp only [upd, dstUpd, reduceIte, Nat.reduceEqDiff, Bool.beq_eq_decide_eq, mem7, m0, m1, m2, m3, m4, m5, false_or]⟩
 rintro ⟨e, h', d⟩ ⟨hd', hh, g1, g6, g7⟩
 simp only at hd' hh g1 g6 g7
 rw [hd', hh]
 have pg : ptr h.next 0 = .pointer (some ⟨h.next, 0, none⟩) := rfl
 rw [pg] at g1
 refine Wc_cond _ g7 (fun y => ?_) (fun n7 => ?_)
 ·rw [textB, if_pos y] at ht
  refine Wc_seq (Wc_ops (Wo_pre 2 (fun _ => by simp only [go_sem, seval, g1, hg, Nd.cells]; rfl) ?_))
  refine Wo_call (Wk_kept (nameS_ok F.Name F.classes F.peek F.goes F.word F.reserved (s := x.text) hs) fun h2 k2 => ?_)
  refine (Wo_run (fun _ => by simp only [go_sem, seval, ht]; rfl) ?_)
  exact Wc_ret (fin _ _ _ k2 (.inr rfl) (by first | rfl | assumption))
 have n7' : ¬ mem7 x.kind = true := by rw [n7]; decide
 rw [textB, if_neg n7'] at ht
 refine Wc_case g6 (fun y15 => ?_) (fun n15 => ?_)
 ·rw [if_pos y15] at ht
  refine Wc_seq (Wc_ops (Wo_pre 2 (fun _ => by simp only [go_sem, seval, g1, hg, Nd.cells]; rfl) ?_))
  refine Wo_call (Wk_pure (numberS_ok F.Number F.worth (s := x.text) (by omega)) ?_)
  refine (Wo_run (fun _ => by simp only [go_sem, seval, numV]; rfl) ?_)
  show Wc T _ _ _
  have hnum : (numR (bs x.text)).2 = true := by
   rw [digB] at ht
   simp only [Bool.and_eq_true] at ht
   exact ht.1.1.1
  have h0 := num_ne hnum
  obtain ⟨c, hc⟩ := bs_at h0
  have s0 : x.text.data.toList[0]? = some c := hc
  have i0 := idx0 (k := .i64) h0
  obtain ⟨_, hz | ⟨x0, x1⟩⟩ := dig_facts hc ht
  ·refine Wc_seq (Wc_ops (Wo_run (fun _ => by simp only [go_sem, seval, hnum, g1, hg, Nd.cells, hz]; rfl) ?_))
   exact Wc_ret (fin _ _ _ (.refl _) (.inr rfl) (by first | rfl | assumption))
  ·cases hz : decide (x.text = ⟨#[48]⟩)
   ·refine Wc_seq (Wc_ops (Wo_run (fun _ => by simp only [go_sem, seval, hnum, g1, hg, Nd.cells, hz, i0, s0, x0, x1]; rfl) ?_))
    exact Wc_ret (fin _ _ _ (.refl _) (.inr rfl) (by first | rfl | assumption))
   ·refine Wc_seq (Wc_ops (Wo_run (fun _ => by simp only [go_sem, seval, hnum, g1, hg, Nd.cells, hz]; rfl) ?_))
    exact Wc_ret (fin _ _ _ (.refl _) (.inr rfl) (by first | rfl | assumption))
 rw [if_neg n15] at ht
 refine Wc_case (by simp only [go_sem, seval, g6] <;> first | rfl | assumption | (symm; assumption)) (fun y18 => ?_) (fun n18 => ?_)
 ·rw [if_pos y18] at ht
  have hsz := sgn_size ht
  refine Wc_seq (Wc_ops (Wo_pre 7 (fun _ => by simp only [go_sem, seval, g1, hg, Nd.cells, hsz, show ((1 : Nat) : Int) = 1 from rfl]; rfl) ?_))
  refine Wo_take (by simp only [upd, dstUpd, reduceIte, Nat.reduceEqDiff, gval_bool]; rfl) (Wo_call (F.con _ _ _ _ ?_ ?_))
  ·simp only [conP, ht, sgnS, decide_true, Bool.and_self, Bool.true_or]
  refine (Wo_run (fun _ => by simp only [go_sem, seval]; rfl) ?_)
  exact Wc_ret (fin _ _ _ (.refl _) (.inr rfl) (by first | rfl | assumption))
 rw [if_neg n18] at ht
 refine Wc_case (by simp only [go_sem, seval, g6] <;> first | rfl | assumption | (symm; assumption)) (fun y19 => ?_) (fun n19 => Wc_skip ?_)
 ·rw [if_pos y19] at ht
  obtain ⟨o1, o2, o3⟩ := op_facts ht
  have z1 : (⟨#[32]⟩ : ByteArray).size + x.text.size ≤ 9223372036854775807 := by
   have : (⟨#[32]⟩ : ByteArray).size = 1 := rfl
   omega
  have z2 : ((⟨#[32]⟩ : ByteArray) ++ x.text).size + (⟨#[32]⟩ : ByteArray).size ≤ 9223372036854775807 := by
   have : (⟨#[32]⟩ : ByteArray).size = 1 := rfl
   rw [ByteArray.size_append]
   omega
  refine Wc_seq (Wc_ops (Wo_pre 8 (fun _ => by simp only [go_sem, seval, g1, hg, Nd.cells, o1, z1, z2]; rfl) ?_))
  refine Wo_take (by simp only [upd, dstUpd, reduceIte, Nat.reduceEqDiff, gval_bool]; rfl) (Wo_call (F.con _ _ _ _ ?_ ?_))
  ·simp only [conP, o3, opsS, decide_true, Bool.and_self, Bool.or_true]
  refine (Wo_run (fun _ => by simp only [go_sem, seval]; rfl) ?_)
  exact Wc_ret (fin _ _ _ (.refl _) (.inr rfl) (by first | rfl | assumption))
 rw [if_neg n19] at ht
 show Wc T _ _ _
 refine Wc_seq (Wc_ops (Wo_run (fun _ => by simp only [go_sem, seval, g1, hg, Nd.cells, ht]; rfl) ?_))
 exact Wc_ret (fin _ _ _ (.refl _) (.inr rfl) (by first | rfl | assumption))
end Go.Idl
end

section
namespace Go.Idl
variable {T : Tbl}
def mapStep (p : Int × ByteArray) : Step := ⟨none, .op (.mapset (.one (.int .i64)) (.t 1) (.c (.int .i64 p.1)) (.c (.string p.2))), none⟩
def mapIn (es : List (Value × Value)) (p : Int × ByteArray) : List (Value × Value) := setK [.int .i64 p.1] (.int .i64 p.1) (.string p.2) es
def wantM : List (Value × Value) := wantL.foldl mapIn []
theorem Wo_maps {rest : List Step} {e : Env} {d : Option (List Dfr)} {Q : Option Value → St → Prop} {m : Nat} (he : e 1 = .map (some m)) : ∀ (ps : List (Int × ByteArray)) {h : Heap} {es : List (Value × Value)}, h.get m = some (.map (.one (.int .i64)) es) →
 (∀ h', KeptBut m h h' → h'.next = h.next → h'.get m = some (.map (.one (.int .i64)) (ps.foldl mapIn es)) → Wo T rest ⟨e, h', d⟩ Q) → Wo T (ps.map mapStep ++ rest) ⟨e, h, d⟩ Q
 | [], h, es, hm, k => k h (.refl _ _) rfl hm
 | p :: ps, h, es, hm, k => by
  rw [List.map_cons, List.cons_append]
  refine Wo_op (v := undef) (h' := h.set m (.map (.one (.int .i64)) (mapIn es p))) ?_ ?_
  ·simp only [iop, ev, he, hm, keyOf, fit1, beq_self_eq_true, if_true]; rfl
  ·refine Wo_maps he ps (set_get' _ _ _) fun h' k1 k2 k3 => k h' (((KeptBut.refl m h).set _ (.inl rfl)).trans k1) k2 k3
theorem wants_ok (hT : T.fn 22 = some C22) {h : Heap} : Wk T (.fn 22) [] h (fun o h' => Kept h h' ∧ ∃ m, h.next ≤ m ∧ m < h'.next ∧ o = .ret (.map (some m)) ∧ h'.get m = some (.map (.one (.int .i64)) wantM)) := by
 refine Wk_fn hT (by simp [C22]) ?_
 simp only [C22]
 refine Wc_seq (Wc_ops (Wo_run (fun _ => by simp only [go_sem, seval]; rfl) ?_))
 show Wc T _ _ _
 refine Wc_seq (Wc_ops (Wo_new (v := .map (some h.next)) (B := .map (.one (.int .i64)) []) rfl fun h1 n1 => ?_))
 refine Wo_maps (m := h.next) (by simp only [upd, dstUpd, reduceIte, Nat.reduceEqDiff]) wantL n1.get (rest := [⟨(some 2), .op (.mov (.t 1)), none⟩, ⟨(some 0), .op (.mov (.t 2)), none⟩]) fun h' k1 k2 k3 => ?_
 refine (Wo_run (fun _ => by simp only [go_sem, seval]; rfl) ?_)
 refine Wc_ret ⟨.inr rfl, rfl, [.map (some h.next)], by simp only [resAll, resV, upd, dstUpd, reduceIte, Nat.reduceEqDiff], n1.kept.of_but k1 (Nat.le_refl _), h.next, Nat.le_refl _, ?_, rfl, k3⟩
 show h.next < h'.next
 rw [k2, n1.next]; exact Nat.lt_succ_self _
theorem want_all : ((List.range 30).all fun n => match findK [.int .i64 ((n : Int) + 1)] wantM with | some (.string s) => decide (s = wantOf ((n : Int) + 1)) && s.size ≤ 3000 && s.data.toList.all fun b => b.toNat < 128 | _ => false) = true := by kernel_rfl
theorem want_at {k : Int} (h1 : 1 ≤ k) (h2 : k ≤ 30) : findK [.int .i64 k] wantM = some (.string (wantOf k)) ∧ (wantOf k).size ≤ 3000 ∧ Asc (wantOf k) := by
 obtain ⟨n, rfl⟩ : ∃ n : Nat, k = (n : Int) + 1 := ⟨(k - 1).toNat, by omega⟩
 have := List.all_eq_true.1 want_all n (List.mem_range.2 (by omega))
 split at this
 ·rename_i s hs
  simp only [Bool.and_eq_true, decide_eq_true_eq] at this
  obtain ⟨⟨rfl, h4⟩, h5⟩ := this
  refine ⟨hs, h4, fun b hb => ?_⟩
  have := List.all_eq_true.1 h5 b hb
  exact of_decide_eq_true this
 ·cases this
def momL (n : Nat) (S : List Int) (ms : List Int) : Prop := ms.length = n ∧ ∀ k, k < n → ∃ m : Int, ms[k]? = some m ∧ 0 ≤ m ∧ (m = 0 ↔ (k : Int) ∉ S)
theorem momL_nil (n : Nat) : momL n [] (List.replicate n 0) := ⟨List.length_replicate .., fun k hk => ⟨0, by rw [List.getElem?_replicate, if_pos hk], Int.le_refl _, by simp⟩⟩
theorem momL_set {n : Nat} {S ms : List Int} (h : momL n S ms) {k : Nat} (hk : k < n) {v : Int} (hv : 0 < v) : momL n (S ++ [(k : Int)]) (ms.set k v) := by
 refine ⟨by rw [List.length_set]; exact h.1, fun i hi => ?_⟩
 rw [List.getElem?_set, h.1]
 by_cases e : k = i
 ·subst e
  rw [if_pos rfl, if_pos hk]
  exact ⟨v, rfl, by omega, by simp; omega⟩
 ·rw [if_neg e]
  obtain ⟨m, h1, h2, h3⟩ := h.2 i hi
  refine ⟨m, h1, h2, ?_⟩
  rw [h3, List.mem_append, List.mem_singleton]
  constructor
  ·rintro h (h' | h')
   ·exact h h'
   ·exact e (by omega)
  ·exact fun h h' => h (.inl h')
theorem ints64_set (ms : List Int) (k : Nat) (v : Int) : (ints64 ms).set k (.int .i64 v) = ints64 (ms.set k v) := by simp [ints64, List.map_set]
theorem repI (n : Nat) : (List.replicate n [Value.int .i64 0]).flatten = ints64 (List.replicate n 0) := by
 have : (List.replicate n [Value.int .i64 0]).flatten = List.replicate n (.int .i64 0) := by induction n with | zero => rfl | succ n ih => rw [List.replicate_succ, List.flatten_cons, ih, List.replicate_succ]; rfl
 rw [this, ints64, List.map_replicate]
structure ChkFns (T : Tbl) : Prop where
 check : T.fn 13 = some C13
 wants : T.fn 22 = some C22
 deep : T.fn 21 = some C21
 says : SaysFns T
 fits : FitFns T
theorem check_ok (F : ChkFns T) {h : Heap} {v : Value} {l : List Nd} (hn : nodesAt h v l) (hN : l.length ≤ 50000) (hK : ∀ x ∈ l, x.kids.length ≤ 100000) (hS : ∀ x ∈ l, x.text.size < 4611686018427387904) (g : GoodT l) :
 Wk T (.fn 13) [v] h (fun o h' => Kept h h' ∧ o = .ret (.tuple #[.int .i64 0, .int .i64 0])) := by
 obtain ⟨va, vc, hvl⟩ := hn.len
 refine Wk_fn F.check (by simp [C13]) ?_
 simp only [C13]
 refine Wc_seq (Wc_ops (Wo_run (fun _ => by simp only [go_sem, seval]; rfl) ?_))
 show Wc T _ _ _
 have z1 : ¬ ((50000 : Int) < ((l.length : Nat) : Int)) := by omega
 refine Wc_seq (Wc_seq (Wc_ops (Wo_run (fun _ => by simp only [go_sem, seval, hvl, z1]; rfl) ?_)))
 show Wc T _ _ _
 refine Wc_cond false (by first | rfl | assumption) nofun (fun _ => Wc_skip ?_)
 show Wc T _ _ _
 refine Wc_seq (Wc_ops (Wo_call ((wants_ok F.wants).mono ?_)))
 rintro o h1 ⟨k1, M, hM0, hM, rfl, hMg⟩
 show Wo T _ _ _
 refine (Wo_run (fun _ => by simp only [go_sem, seval]; rfl) ?_)
 show Wc T _ _ _
 refine Wc_seq (Wc_ops (Wo_pre 2 (fun _ => by simp only [go_sem, seval, hvl]; rfl) ?_))
 refine Wo_new (v := .slice (some ⟨h1.next, 0, none⟩) l.length l.length) (B := .cells (ints64 (List.replicate l.length 0)) true 1) ?_ fun h2 n2 => ?_
 ·simp only [iop, ev, upd, dstUpd, reduceIte, Nat.reduceEqDiff, Int.toNat_natCast]
  rw [if_pos (by omega), repI]
 refine (Wo_run (fun _ => by simp only [go_sem, seval]; rfl) ?_)
 show Wc T _ _ _
 have hMg2 : h2.get M = some (.map (.one (.int .i64)) wantM) := by rw [n2.kept.get _ hM]; exact hMg
 have hM2 : M < h1.next := hM
 have hkept : ∀ h', KeptBut h1.next h2 h' → Kept h h' := fun h' kb => (k1.trans n2.kept).of_but kb k1.next
 have hmap : ∀ h', KeptBut h1.next h2 h' → h'.get M = some (.map (.one (.int .i64)) wantM) := fun h' kb => by rw [kb.get _ (by have := n2.next; omega) (by omega)]; exact hMg2
 have hB : h1.next < h2.next := by rw [n2.next]; exact Nat.lt_succ_self _
 refine Wc_mid (fun s' => s'.d = some [] ∧ KeptBut h1.next h2 s'.h ∧ (∃ ms, s'.h.get h1.next = some (.cells (ints64 ms) true 1) ∧ momL l.length (kidsUp l l.length) ms) ∧ s'.e 0 = v ∧ s'.e 5 = .slice (some ⟨h1.next, 0, none⟩) l.length l.length) ?_ ?_
 ·refine Wc_seq (Wc_ops (Wo_run (fun _ => by simp only [go_sem, seval, hvl]; rfl) ?_))
  show Wc T _ _ _
  refine Wc_range l.length (fun j e h' d => d = some [] ∧ KeptBut h1.next h2 h' ∧ (∃ ms, h'.get h1.next = some (.cells (ints64 ms) true 1) ∧ momL l.length (kidsUp l j) ms)) (by decide) (by first | rfl | assumption) (by first | rfl | assumption) (by omega) (by decide) ?_ ?_ ?_
  ·exact ⟨rfl, .refl _ _, _, n2.get, momL_nil _⟩
  ·rintro j e h' d hj ⟨rfl, hkb, ms, hu, hms⟩ hfr h24 h23
   obtain ⟨x, hx⟩ : ∃ x, l[j]? = some x := ⟨_, List.getElem?_eq_getElem hj⟩
   have hxm := List.mem_of_getElem? hx
   have hk : Kept h h' := hkept _ hkb
   have ok := g.ok j x hx
   obtain ⟨b, c, o, z, hvb, hb, hg, hcs⟩ := (hn.keep hk).load4 hx
   have e22 : e 22 = v := ((hfr 22 (by decide)).trans (by first | rfl | assumption | (symm; assumption)))
   have e0 : e 0 = v := ((hfr 0 (by decide)).trans (by first | rfl | assumption | (symm; assumption)))
   have e4 : e 4 = .map (some M) := ((hfr 4 (by decide)).trans (by first | rfl | assumption | (symm; assumption)))
   have e5 : e 5 = .slice (some ⟨h1.next, 0, none⟩) l.length l.length := ((hfr 5 (by decide)).trans (by first | rfl | assumption | (symm; assumption)))
   refine Wc_seq (Wc_ops (Wo_pre 5 (fun _ => by simp only [go_sem, seval, h24, e22, hvb, idx_ok hj, hcs]; rfl) ?_))
   refine Wo_store_new (cs := x.cells) (h := h') (by first | rfl | assumption) (by first | rfl | assumption) rfl rfl fun h3 n3 => Wo_nil ?_
   show Wc T _ _ _
   have hk3 : KeptBut h1.next h2 h3 := hkb.kept n3.kept
   have hu3 : h3.get h1.next = some (.cells (ints64 ms) true 1) := by rw [n3.kept.get _ (by have := hkb.next; omega)]; exact hu
   have hm3 := hmap _ hk3
   have hki : intsAt h x.kv x.kids := hn.2 x hxm
   have hkl := hK x hxm
   obtain ⟨ka, kc, hkv⟩ := hki.len
   obtain ⟨w1, w2, w3⟩ := want_at ok.kind.1 ok.kind.2
   have hB3 : h1.next < h3.next := by have := hkb.next; have := n3.kept.next; omega
   have h7lt : h'.next < h3.next := by rw [n3.next]; exact Nat.lt_succ_self _
   have h7ne : h'.next ≠ h1.next := by have := hkb.next; omega
   refine Wc_seq (Wc_ops (Wo_pre 3 (fun _ => by simp only [go_sem, seval, n3.get, Nd.cells, e4]; rfl) ?_))
   refine Wo_op (v := .tuple #[.string (wantOf x.kind), .bool true]) (h' := h3) (by simp only [iop, ev, upd, dstUpd, reduceIte, Nat.reduceEqDiff, hm3, keyOf, fit1, beq_self_eq_true, if_true, w1]) ?_
   refine (Wo_run (fun _ => by simp only [go_sem, seval]; rfl) ?_)
   show Wc T _ _ _
   have p0 : ¬ x.pos < 0 := by have := ok.pos; omega
   refine Wc_seq (Wc_seq (Wc_ops (Wo_run (fun _ => by simp only [go_sem, seval, n3.get, Nd.cells, p0]; rfl) ?_)))
   show Wc T _ _ _
   refine Wc_cond false (by first | rfl | assumption) nofun (fun _ => Wc_skip ?_)
   show Wc T _ _ _
   refine Wc_mid (fun s' => s'.d = some [] ∧ KeptBut h1.next h3 s'.h ∧ (∃ ms, s'.h.get h1.next = some (.cells (ints64 ms) true 1) ∧ momL l.length (kidsUp l (j + 1)) ms) ∧ s'.e 0 = v ∧ s'.e 7 = ptr h'.next 0 ∧ s'.e 8 = .string (wantOf x.kind)) ?_ ?_
   ·rw [kidsUp_succ hx]
    refine Wc_seq (Wc_ops (Wo_run (fun _ => by simp only [go_sem, seval, n3.get, Nd.cells, hkv]; rfl) ?_))
    show Wc T _ _ _
    refine Wc_range x.kids.length (fun m e h4 d => d = some [] ∧ KeptBut h1.next h3 h4 ∧ (∃ ms, h4.get h1.next = some (.cells (ints64 ms) true 1) ∧ momL l.length (kidsUp l j ++ x.kids.take m) ms)) (by decide) (by first | rfl | assumption) (by first | rfl | assumption) (by omega) (by decide) ?_ ?_ ?_
    ·exact ⟨rfl, .refl _ _, ms, hu3, by rw [List.take_zero, List.append_nil]; exact hms⟩
    ·rintro m e3 h4 d hm ⟨rfl, hkb4, ms4, hu4, hms4⟩ hfr h47 h46
     obtain ⟨k, hkm⟩ : ∃ k, x.kids[m]? = some k := ⟨_, List.getElem?_eq_getElem hm⟩
     have hkmem := List.mem_of_getElem? hkm
     have htake : x.kids.take (m + 1) = x.kids.take m ++ [k] := by rw [List.take_add_one, hkm]; rfl
     obtain ⟨k0, kj⟩ := ok.kids k hkmem
     have hk4 : Kept h h4 := hkept _ (hk3.trans hkb4)
     obtain ⟨bk, ck, hkvb, hbk, ⟨ok', zk, hgk⟩, hcell⟩ := (hki.keep hk4).load hkm
     rw [Nat.zero_add] at hcell
     have e45 : e3 45 = x.kv := ((hfr 45 (by decide)).trans (by first | rfl | assumption | (symm; assumption)))
     have e6 : e3 6 = .int .i64 j := ((hfr 6 (by decide)).trans (by first | rfl | assumption | (symm; assumption)))
     have e5' : e3 5 = .slice (some ⟨h1.next, 0, none⟩) l.length l.length := ((hfr 5 (by decide)).trans (by first | rfl | assumption | (symm; assumption)))
     refine Wc_seq (Wc_ops (Wo_run (fun _ => by simp only [go_sem, seval, h47, e45, hkvb, idx_ok hm, hgk, hcell]; rfl) ?_))
     show Wc T _ _ _
     obtain ⟨kk, rfl⟩ : ∃ kk : Nat, k = kk := ⟨k.toNat, by omega⟩
     have hkk : kk < l.length := by omega
     have hnew : (kk : Int) ∉ kidsUp l j ++ x.kids.take m := by
      have hnd : (kidsUp l (j + 1)).Nodup := g.nodup.sublist (kidsUp_sub (by omega))
      rw [kidsUp_succ hx] at hnd
      have hsub : (kidsUp l j ++ x.kids.take (m + 1)).Nodup := hnd.sublist (List.Sublist.append (List.Sublist.refl _) (List.take_sublist _ _))
      rw [htake, ← List.append_assoc] at hsub
      exact fun hm => (List.nodup_append.1 hsub).2.2 _ hm _ (List.mem_singleton.2 rfl) rfl
     obtain ⟨m0, hm0, _, hm1⟩ := hms4.2 kk hkk
     have hm00 : m0 = 0 := hm1.2 hnew
     subst hm00
     have hcm : (ints64 ms4)[kk * 1]? = some (.int .i64 0) := by rw [Nat.mul_one]; exact ints64_get hm0
     have k0' : ¬ ((kk : Nat) : Int) < 0 := by omega
     have kj' : ¬ ((j : Nat) : Int) ≤ ((kk : Nat) : Int) := by omega
     refine Wc_seq (Wc_seq (Wc_ops (Wo_run (fun _ => by simp only [go_sem, seval, e6, e5', k0', kj', idx_ok hkk, hu4, hcm]; rfl) ?_)))
     show Wc T _ _ _
     refine Wc_cond false (by first | rfl | assumption) nofun (fun _ => Wc_skip ?_)
     show Wc T _ _ _
     have ew : IntKind.i64.wrap (((j : Nat) : Int) + 1) = ((j : Nat) : Int) + 1 := wrap64 (by omega) (by omega)
     refine Wc_ops (Wo_pre 5 (fun _ => by simp only [go_sem, seval, e6, e5', idx_ok hkk, ew]; rfl) ?_)
     refine Wo_op (iop_store_at (k := kk * 1) (v := .int .i64 (((j : Nat) : Int) + 1)) (by first | rfl | assumption) (by simp only [ev, upd, dstUpd, reduceIte, Nat.reduceEqDiff]; rfl) hu4 (by rw [ints64_length, hms4.1]; omega)) (Wo_nil ?_)
     rw [Nat.mul_one, ints64_set]
     refine ⟨rfl, hkb4.set _ (.inl rfl), _, set_get' _ _ _, ?_⟩
     rw [htake, ← List.append_assoc]
     rw [Nat.mul_one]
     exact momL_set (v := ((j : Nat) : Int) + 1) hms4 hkk (by omega)
    ·rintro e3 h4 d ⟨rfl, hkb4, hex⟩ hfr h47
     rw [List.take_length] at hex
     have e0' : e3 0 = v := ((hfr 0 (by decide)).trans (by first | rfl | assumption | (symm; assumption)))
     have e7 : e3 7 = ptr h'.next 0 := ((hfr 7 (by decide)).trans (by first | rfl | assumption | (symm; assumption)))
     have e8 : e3 8 = .string (wantOf x.kind) := ((hfr 8 (by decide)).trans (by first | rfl | assumption | (symm; assumption)))
     exact ⟨rfl, hkb4, hex, (by simp only [go_sem, seval, e0'] <;> first | rfl | assumption | (symm; assumption)), by simp only [upd, dstUpd, reduceIte, Nat.reduceEqDiff]; exact e7, (by simp only [go_sem, seval, e8] <;> first | rfl | assumption | (symm; assumption))⟩
   rintro ⟨e3, h4, d3⟩ ⟨hd3, hkb4, hex, e0', e7, e8⟩
   simp only at hd3 hkb4 hex e0' e7 e8
   rw [hd3]
   have hk4 : KeptBut h1.next h2 h4 := hk3.trans hkb4
   have hgx : h4.get h'.next = some (.cells x.cells true 0) := by rw [hkb4.get _ h7lt h7ne]; exact n3.get
   have pg : ptr h'.next 0 = .pointer (some ⟨h'.next, 0, none⟩) := rfl
   rw [pg] at e7
   have hcx : h4.cells h'.next 0 4 = some x.cells := cells_all hgx rfl
   refine Wc_block (Wc_seq (Wc_ops (Wo_pre 1 (fun _ => by simp only [go_sem, seval, e7, hcx]; rfl) ?_)))
   refine Wo_call (Wk_kept (says_ok F.says (x := x) (hS x hxm) ok.text) fun h5 k5 => ?_)
   refine (Wo_run (fun _ => by simp only [go_sem, seval]; rfl) ?_)
   show Wc T _ _ _
   refine Wc_cond false (by first | rfl | assumption) nofun (fun _ => ?_)
   have hk5 : KeptBut h1.next h2 h5 := hk4.kept k5
   have hgx5 : h5.get h'.next = some (.cells x.cells true 0) := by rw [k5.get _ (by have := hkb4.next; omega)]; exact hgx
   refine Wc_seq (Wc_ops (Wo_pre 4 (fun _ => by simp only [go_sem, seval, e0', e7, hgx5, Nd.cells, e8]; rfl) ?_))
   refine Wo_call (Wk_kept (fits_ok F.fits (hn.keep (hkept _ hk5)) (hki.keep (hkept _ hk5)) (fun k hk => ⟨(ok.kids k hk).1, by have := (ok.kids k hk).2; omega⟩) hkl w3 w2) fun h6 k6 => ?_)
   rw [fit_of_shape ok.kind.1 ok.kind.2 ok.shape]
   refine (Wo_run (fun _ => by simp only [go_sem, seval]; rfl) ?_)
   show Wc T _ _ _
   refine Wc_cond false (by first | rfl | assumption) nofun (fun _ => Wc_skip ?_)
   obtain ⟨ms', hu', hms'⟩ := hex
   refine ⟨rfl, hk5.kept k6, ms', ?_, hms'⟩
   show h6.get h1.next = _
   rw [k6.get _ (by have := hk5.next; omega), k5.get _ (by have := hk4.next; omega)]; exact hu'
  ·rintro e h' d ⟨rfl, hkb, hex⟩ hfr h24
   have e0 : e 0 = v := ((hfr 0 (by decide)).trans (by first | rfl | assumption | (symm; assumption)))
   have e5 : e 5 = .slice (some ⟨h1.next, 0, none⟩) l.length l.length := ((hfr 5 (by decide)).trans (by first | rfl | assumption | (symm; assumption)))
   exact ⟨rfl, hkb, hex, (by simp only [go_sem, seval, e0] <;> first | rfl | assumption | (symm; assumption)), (by simp only [go_sem, seval, e5] <;> first | rfl | assumption | (symm; assumption))⟩
 rintro ⟨e, h3, d⟩ ⟨hd, hkb, ⟨ms, hu, hms⟩, e0, e5⟩
 simp only at hd hkb hu e0 e5
 rw [hd]
 have hne := g.ne
 have ew : IntKind.i64.wrap (((l.length : Nat) : Int) - 1) = ((l.length : Nat) : Int) - 1 := wrap64 (by omega) (by omega)
 refine Wc_seq (Wc_ops (Wo_run (fun _ => by simp only [go_sem, seval, e0, hvl, ew]; rfl) ?_))
 show Wc T _ _ _
 refine Wc_mid (fun s' => s'.d = some [] ∧ KeptBut h1.next h2 s'.h ∧ s'.e 0 = v ∧ s'.e 12 = .int .i64 (((l.length : Nat) : Int) - 1)) ?_ ?_
 ·refine Wc_seq (Wc_ops (Wo_run (fun _ => by simp only [go_sem, seval, e0, hvl]; rfl) ?_))
  show Wc T _ _ _
  refine Wc_range l.length (fun j e h' d => d = some [] ∧ KeptBut h1.next h2 h' ∧ h'.get h1.next = some (.cells (ints64 ms) true 1)) (by decide) (by first | rfl | assumption) (by first | rfl | assumption) (by omega) (by decide) ⟨rfl, hkb, hu⟩ ?_ ?_
  ·rintro j e' h' d hj ⟨rfl, hkb2, hu2⟩ hfr h91 h90
   obtain ⟨x, hx⟩ : ∃ x, l[j]? = some x := ⟨_, List.getElem?_eq_getElem hj⟩
   obtain ⟨b, c, o, z', hvb, hb, hg, hcs⟩ := (hn.keep (hkept _ hkb2)).load4 hx
   have e89 : e' 89 = v := ((hfr 89 (by decide)).trans (by first | rfl | assumption | (symm; assumption)))
   have e5' : e' 5 = .slice (some ⟨h1.next, 0, none⟩) l.length l.length := ((hfr 5 (by decide)).trans (by first | rfl | assumption | (symm; assumption)))
   have e12 : e' 12 = .int .i64 (((l.length : Nat) : Int) - 1) := ((hfr 12 (by decide)).trans (by first | rfl | assumption | (symm; assumption)))
   refine Wc_seq (Wc_ops (Wo_pre 5 (fun _ => by simp only [go_sem, seval, h91, e89, hvb, idx_ok hj, hcs]; rfl) ?_))
   refine Wo_store_new (cs := x.cells) (h := h') (by first | rfl | assumption) (by first | rfl | assumption) rfl rfl fun h4 n4 => Wo_nil ?_
   show Wc T _ _ _
   have hu4 : h4.get h1.next = some (.cells (ints64 ms) true 1) := by
    rw [n4.kept.get _ (by have := hkb2.next; omega)]; exact hu2
   have hk4 : KeptBut h1.next h2 h4 := hkb2.kept n4.kept
   obtain ⟨m0, hm0, hm1, hm2⟩ := hms.2 j hj
   have hcm : (ints64 ms)[j * 1]? = some (.int .i64 m0) := by rw [Nat.mul_one]; exact ints64_get hm0
   have hq : (((j : Nat) : Int) == ((l.length : Nat) : Int) - 1) = decide (j + 1 = l.length) := by rw [Bool.beq_eq_decide_eq, decide_eq_decide]; omega
   have hp : (x.kind == 1) = decide (x.kind = 1) := Bool.beq_eq_decide_eq _ _
   have hlast := g.last j x hx
   have hroot : j + 1 = l.length → (j : Int) ∉ kidsUp l l.length := fun hj1 hm => by
    simp only [kidsUp, List.take_length, List.mem_flatMap] at hm
    obtain ⟨y, hy, hky⟩ := hm
    obtain ⟨i, hi⟩ := List.getElem?_of_mem hy
    have := ((g.ok i y hi).kids _ hky).2
    have := (List.getElem?_eq_some_iff.1 hi).1
    omega
   cases q : decide (j + 1 = l.length)
   ·have q' := of_decide_eq_false q
    have p : decide (x.kind = 1) = false := decide_eq_false fun e => q' (hlast.1 e)
    have hm : (m0 == 0) = false := beq_eq_false_iff_ne.2 fun e => hm2.1 e (g.used j (by omega))
    refine Wc_seq (Wc_ops (Wo_run (fun _ => by simp only [go_sem, seval, n4.get, Nd.cells, e5', e12, hp, hq, p, q, bne, idx_ok hj, hu4, hcm, hm]; rfl) ?_))
    show Wc T _ _ _
    refine Wc_cond false (by first | rfl | assumption) nofun (fun _ => Wc_skip ?_)
    exact ⟨rfl, hk4, hu4⟩
   ·have q' := of_decide_eq_true q
    have p : decide (x.kind = 1) = true := decide_eq_true (hlast.2 q')
    have hm : (m0 == 0) = true := beq_iff_eq.2 (hm2.2 (hroot q'))
    refine Wc_seq (Wc_ops (Wo_run (fun _ => by simp only [go_sem, seval, n4.get, Nd.cells, e5', e12, hp, hq, p, q, bne, idx_ok hj, hu4, hcm, hm]; rfl) ?_))
    show Wc T _ _ _
    refine Wc_cond false (by first | rfl | assumption) nofun (fun _ => Wc_skip ?_)
    exact ⟨rfl, hk4, hu4⟩
  ·rintro e' h' d ⟨rfl, hkb2, hu2⟩ hfr h91
   have e0' : e' 0 = v := ((hfr 0 (by decide)).trans (by first | rfl | assumption | (symm; assumption)))
   have e12 : e' 12 = .int .i64 (((l.length : Nat) : Int) - 1) := ((hfr 12 (by decide)).trans (by first | rfl | assumption | (symm; assumption)))
   exact ⟨rfl, hkb2, (by simp only [go_sem, seval, e0'] <;> first | rfl | assumption | (symm; assumption)), (by simp only [go_sem, seval, e12] <;> first | rfl | assumption | (symm; assumption))⟩
 rintro ⟨e', h4, d⟩ ⟨hd4, hkb4, e0', e12⟩
 simp only at hd4 hkb4 e0' e12
 rw [hd4]
 have z : ¬ ((l.length : Nat) : Int) - 1 < 0 := by omega
 refine Wc_seq (Wc_block (Wc_seq (Wc_ops (Wo_run (fun _ => by simp only [go_sem, seval, e12, z]; rfl) ?_))))
 show Wc T _ _ _
 refine Wc_cond false (by first | rfl | assumption) nofun (fun _ => ?_)
 refine Wc_seq (Wc_ops (Wo_pre 1 (fun _ => by simp only [go_sem, seval, e0']; rfl) ?_))
 refine Wo_call (Wk_kept (deep13 F.deep (hn.keep (hkept _ hkb4)) (by omega) hK) fun h5 k5 => ?_)
 refine (Wo_run (fun _ => by simp only [go_sem, seval]; rfl) ?_)
 show Wc T _ _ _
 have hdp := g.deep
 refine Wc_cond false (by simp only [go_sem, seval, decide_eq_false (show ¬ (200 : Int) < ((deepOf l : Nat) : Int) by omega)] <;> first | rfl | assumption | (symm; assumption)) nofun (fun _ => Wc_skip ?_)
 show Wc T _ _ _
 refine Wc_seq (Wc_ops (Wo_run (fun _ => by simp only [go_sem, seval]; rfl) ?_))
 exact Wc_ret ⟨.inr rfl, rfl, [.int .i64 0, .int .i64 0], by simp only [resAll, resV, upd, dstUpd, reduceIte, Nat.reduceEqDiff], (hkept _ hkb4).trans k5, rfl⟩
end Go.Idl
end

section
namespace Go.Idl
def kidsAtN (l : List Nd) (p : Nat) : List Int := (l[p]?.map (·.kids)).getD []
def restK (l : List Nd) (told : List Int) (n : Nat) : List Int := (List.range n).flatMap fun p : Nat => if (p : Int) ∈ told then [] else kidsAtN l p
def Bal (l : List Nd) (told todo : List Int) : Prop := ∀ k : Nat, k < l.length → told.count (k : Int) + todo.count (k : Int) + (restK l told l.length).count (k : Int) = 1
theorem restK_nil (l : List Nd) : ∀ n, n ≤ l.length → restK l [] n = kidsUp l n
 | 0, _ => rfl
 | n + 1, h => by
  obtain ⟨x, hx⟩ : ∃ x, l[n]? = some x := ⟨_, List.getElem?_eq_getElem h⟩
  rw [kidsUp_succ hx, ← restK_nil l n (by omega)]
  simp [restK, List.range_succ, kidsAtN, hx]
theorem bal_start {l : List Nd} (g : GoodT l) : Bal l [] [((l.length : Nat) : Int) - 1] := by
 intro k hk
 rw [restK_nil l _ (Nat.le_refl _)]
 have hne := g.ne
 have hroot : ((l.length : Nat) : Int) - 1 ∉ kidsUp l l.length := fun hm => by
  simp only [kidsUp, List.take_length, List.mem_flatMap] at hm
  obtain ⟨y, hy, hky⟩ := hm
  obtain ⟨i, hi⟩ := List.getElem?_of_mem hy
  have := ((g.ok i y hi).kids _ hky).2
  have := (List.getElem?_eq_some_iff.1 hi).1
  omega
 by_cases h : k + 1 = l.length
 ·have : (k : Int) = ((l.length : Nat) : Int) - 1 := by omega
  rw [this, List.count_eq_zero.2 hroot]
  simp
 ·have h1 : (k : Int) ≠ ((l.length : Nat) : Int) - 1 := by omega
  have h2 := g.used k (by omega)
  have h3 : (kidsUp l l.length).count (k : Int) = 1 := by
   have a := List.nodup_iff_count.1 g.nodup (k : Int)
   have b := List.count_pos_iff.2 h2
   omega
  rw [h3, List.count_nil, List.count_cons, List.count_nil]
  rw [if_neg (by simpa using Ne.symm h1)]
theorem restK_step {l : List Nd} {told : List Int} {n : Nat} (hn : (n : Int) ∉ told) (k : Int) : ∀ m, n < m → (restK l told m).count k = (restK l (told ++ [(n : Int)]) m).count k + (kidsAtN l n).count k
 | m + 1, h => by
  have e : ∀ t : List Int, restK l t (m + 1) = restK l t m ++ (if (m : Int) ∈ t then [] else kidsAtN l m) := fun t => by simp [restK, List.range_succ]
  rw [e, e, List.count_append, List.count_append]
  by_cases hm : n = m
  ·subst hm
   rw [if_neg hn, if_pos (List.mem_append_right _ (List.mem_singleton.2 rfl))]
   have same : restK l told n = restK l (told ++ [(n : Int)]) n := by
    simp only [restK]
    refine congrArg List.flatten (List.map_congr_left fun p hp => ?_)
    have hlt := List.mem_range.1 hp
    have : ((p : Int) ∈ told) = ((p : Int) ∈ told ++ [(n : Int)]) := propext (by
     rw [List.mem_append, List.mem_singleton]
     exact ⟨.inl, fun h => h.resolve_right (by omega)⟩)
    simp only [this]
   rw [same]; simp
  ·have ih := restK_step (l := l) hn k m (by omega)
   have : ((m : Int) ∈ told) = ((m : Int) ∈ told ++ [(n : Int)]) := propext (by
    rw [List.mem_append, List.mem_singleton]
    exact ⟨.inl, fun h => h.resolve_right (by omega)⟩)
   rw [ih]
   simp only [this]
   omega
theorem bal_new {l : List Nd} {told todo : List Int} {n : Nat} (h : Bal l told (todo ++ [(n : Int)])) (hn : n < l.length) : (n : Int) ∉ told := fun hm => by
 have h1 := h n hn
 have h2 := List.count_pos_iff.2 hm
 rw [List.count_append, List.count_cons, List.count_nil] at h1
 simp at h1
 omega
theorem bal_step {l : List Nd} {told todo : List Int} {n : Nat} (h : Bal l told (todo ++ [(n : Int)])) (hn : n < l.length) : Bal l (told ++ [(n : Int)]) (todo ++ (kidsAtN l n).reverse) := by
 intro k hk
 have h1 := h k hk
 rw [restK_step (bal_new h hn) (k : Int) l.length hn] at h1
 rw [List.count_append] at h1 ⊢
 rw [List.count_append, List.count_reverse]
 omega
def untold (l : List Nd) (told : List Int) : Nat := (List.range l.length).countP fun p : Nat => !decide ((p : Int) ∈ told)
theorem countP_lt {α : Type} {p q : α → Bool} : ∀ {L : List α} {y : α}, (∀ x, q x = true → p x = true) → y ∈ L → p y = true → q y = false → L.countP q < L.countP p
 | x :: L, y, hpq, hm, hp, hq => by
  rw [List.countP_cons, List.countP_cons]
  have mono : L.countP q ≤ L.countP p := List.countP_mono_left fun x _ => hpq x
  rcases List.mem_cons.1 hm with rfl | hm
  ·rw [hp, hq]; simp; omega
  ·have ih := countP_lt hpq hm hp hq
   have : (if q x = true then 1 else 0) ≤ (if p x = true then 1 else 0) := by
    by_cases h : q x = true
    ·rw [if_pos h, if_pos (hpq x h)]; exact Nat.le_refl _
    ·rw [if_neg h]; exact Nat.zero_le _
   omega
theorem untold_lt {l : List Nd} {told : List Int} {n : Nat} (hn : n < l.length) (h : (n : Int) ∉ told) : untold l (told ++ [(n : Int)]) < untold l told := by
 refine countP_lt (y := n) ?_ (List.mem_range.2 hn) ?_ ?_
 ·intro x hx
  simp only [Bool.not_eq_true', decide_eq_false_iff_not, List.mem_append, not_or] at hx ⊢
  exact hx.1
 ·simp [h]
 ·simp
theorem bal_end {l : List Nd} (g : GoodT l) {told : List Int} (h : Bal l told []) : ∀ k : Nat, k < l.length → told.count (k : Int) = 1 := by
 have all : ∀ m k : Nat, k < l.length → l.length - k ≤ m → (k : Int) ∈ told := by
  intro m
  induction m with
  | zero => intro k hk h; omega
  | succ m ih =>
   intro k hk hm
   refine Decidable.byContradiction fun hn => ?_
   have h1 := h k hk
   rw [List.count_eq_zero.2 hn, List.count_nil] at h1
   have h2 : (k : Int) ∈ restK l told l.length := List.count_pos_iff.1 (by omega)
   simp only [restK, List.mem_flatMap] at h2
   obtain ⟨p, hp, h3⟩ := h2
   have hpl := List.mem_range.1 hp
   split at h3
   ·cases h3
   ·rename_i hpn
    obtain ⟨x, hx⟩ : ∃ x, l[p]? = some x := ⟨_, List.getElem?_eq_getElem hpl⟩
    simp only [kidsAtN, hx, Option.map_some, Option.getD_some] at h3
    have := ((g.ok p x hx).kids _ h3).2
    exact hpn (ih p hpl (by omega))
 intro k hk
 have h1 := h k hk
 have h2 := List.count_pos_iff.2 (all _ k hk (Nat.le_refl _))
 omega
end Go.Idl
end

section
namespace Go.Idl
variable {T : Tbl}
structure Low (n : Nat) (h h' : Heap) : Prop where
 next : h.next ≤ h'.next
 get : ∀ b, b < n → h'.get b = h.get b
 one : ∀ b cs, b < h.next → h.get b = some (.cells cs true 1) → h'.get b = some (.cells cs true 1)
theorem Low.refl (n : Nat) (h : Heap) : Low n h h := ⟨Nat.le_refl _, fun _ _ => rfl, fun _ _ _ hg => hg⟩
theorem Low.trans {n : Nat} {a b c : Heap} (x : Low n a b) (y : Low n b c) : Low n a c := ⟨Nat.le_trans x.next y.next, fun k hk => (y.get k hk).trans (x.get k hk), fun k cs hk hg => y.one k cs (Nat.lt_of_lt_of_le hk x.next) (x.one k cs hk hg)⟩
theorem Low.kept {n : Nat} {h h' : Heap} (x : Kept h h') (hn : n ≤ h.next) : Low n h h' := ⟨x.next, fun b hb => x.get b (Nat.lt_of_lt_of_le hb hn), fun b cs hb hg => by rw [x.get b hb]; exact hg⟩
def prC (p : Int × Int) : List Value := [.int .i64 p.1, .int .i64 p.2]
theorem prC_len : ∀ l : List (Int × Int), (l.flatMap prC).length = l.length * 2
 | [] => rfl
 | p :: l => by rw [List.flatMap_cons, List.length_append, prC_len l]; simp [prC]; omega
def todoAt (nb xb : Nat) (h : Heap) (v : Value) (l : List (Int × Int)) : Prop :=
 ∃ b c cs, nb ≤ b ∧ b < h.next ∧ b ≠ xb ∧ v = .slice (some ⟨b, 0, none⟩) l.length c ∧ h.get b = some (.cells cs true 2) ∧ cs.take (l.length * 2) = l.flatMap prC ∧ l.length * 2 ≤ cs.length
theorem todoAt.keep {nb xb xb' : Nat} {h h' : Heap} {v : Value} {l : List (Int × Int)} (ht : todoAt nb xb h v l) (hn : h.next ≤ h'.next) (hg : ∀ b, nb ≤ b → b < h.next → (∀ cs, h.get b ≠ some (.cells cs true 1)) → h'.get b = h.get b) (hx : xb' = xb ∨ h.next ≤ xb') : todoAt nb xb' h' v l := by
 obtain ⟨b, c, cs, h1, h2, h3, h4, h5, h6, h7⟩ := ht
 exact ⟨b, c, cs, h1, Nat.lt_of_lt_of_le h2 hn, by omega, h4, by rw [hg b h1 h2 (fun cs e => by rw [h5] at e; simp at e)]; exact h5, h6, h7⟩
theorem todoAt.append {nb xb : Nat} {h : Heap} {v x : Value} {l : List (Int × Int)} {p : Int × Int} (ht : todoAt nb xb h v l) (hx : elemsOf h 2 x = some (1, prC p)) (hs : l.length ≤ 100000000000) (hnb : nb ≤ h.next) (hxb : xb < h.next) :
 ∃ v' h', appendV 2 16 v x h = some (v', h') ∧ todoAt nb xb h' v' (l ++ [p]) ∧ Low nb h h' ∧ h'.get xb = h.get xb := by
 obtain ⟨b, c, cs, h1, h2, h3, rfl, h5, h6, h7⟩ := ht
 have hlen : (l ++ [p]).length = l.length + 1 := by simp
 have hfl : (l ++ [p]).flatMap prC = l.flatMap prC ++ prC p := by simp
 have hcl : (l.flatMap prC ++ prC p).take ((l ++ [p]).length * 2) = (l ++ [p]).flatMap prC := by
  rw [hfl, List.take_of_length_le]
  rw [List.length_append, prC_len, hlen]; simp [prC]; omega
 have hlc : (l ++ [p]).length * 2 ≤ (l.flatMap prC ++ prC p).length := by
  rw [hlen, List.length_append, prC_len]; simp [prC]; omega
 by_cases hc : l.length = c
 ·refine ⟨.slice (some ⟨h.next, 0, none⟩) (l.length + 1) (l.length + 1 + 1), h.new (.cells (l.flatMap prC ++ prC p) true 2), ?_, ⟨h.next, l.length + 1 + 1, _, hnb, Nat.lt_succ_self _, by omega, by rw [hlen], new_get' _ _, hcl, hlc⟩, ⟨Nat.le_succ _, fun k hk => new_get_ne' _ _ (by omega), fun k cs hk hg => by rw [new_get_ne' _ _ (by omega)]; exact hg⟩, new_get_ne' _ _ (by omega)⟩
  have hold : (if l.length = 0 then some [] else h.cells b 0 (l.length * 2)) = some (l.flatMap prC) := by
   by_cases h0 : l.length = 0
   ·rw [if_pos h0, List.length_eq_zero_iff.1 h0]; rfl
   ·rw [if_neg h0]
    simp only [Heap.cells, h5, Nat.zero_add]
    rw [if_pos h7, List.drop_zero, h6]
  simp only [appendV, hx, Nat.one_ne_zero, if_false]
  rw [if_pos (by omega), if_pos hc, hold]
 ·refine ⟨.slice (some ⟨h.next, 0, none⟩) (l.length + 1) (l.length + 1 + 1), (h.set b .dead).new (.cells (l.flatMap prC ++ prC p) true 2), ?_, ⟨h.next, l.length + 1 + 1, _, hnb, Nat.lt_succ_self _, by omega, by rw [hlen], new_get' _ _, hcl, hlc⟩, ⟨Nat.le_succ _, fun k hk => ?_, fun k cs' hk hg => ?_⟩, ?_⟩
  ·simp only [appendV, hx, Nat.one_ne_zero, if_false, h5]
   rw [if_pos (by omega), if_neg hc, if_pos ⟨trivial, by omega⟩, List.drop_zero, h6]
  ·rw [new_get_ne' _ _ (by rw [set_next]; omega), set_get_ne' _ _ (by omega)]
  ·have hkb : k ≠ b := fun e => by subst e; rw [h5] at hg; simp at hg
   rw [new_get_ne' _ _ (by rw [set_next]; omega), set_get_ne' _ _ hkb]; exact hg
  ·rw [new_get_ne' _ _ (by rw [set_next]; omega), set_get_ne' _ _ (by omega)]
theorem todoAt.top {nb xb : Nat} {h : Heap} {v : Value} {l : List (Int × Int)} {p : Int × Int} (ht : todoAt nb xb h v (l ++ [p])) : ∃ b c cs, v = .slice (some ⟨b, 0, none⟩) (l.length + 1) c ∧ b < h.next ∧ b ≠ xb ∧ h.get b = some (.cells cs true 2) ∧ h.cells b (l.length * 2) 2 = some (prC p) ∧ todoAt nb xb h (subSl 2 (l.length + 1) c 0 l.length none (some ⟨b, 0, none⟩)) l := by
 obtain ⟨b, c, cs, h1, h2, h3, rfl, h5, h6, h7⟩ := ht
 rw [List.length_append, List.length_singleton] at h6 h7
 have hfl : (l ++ [p]).flatMap prC = l.flatMap prC ++ prC p := by simp
 rw [hfl] at h6
 refine ⟨b, c, cs, by simp, h2, h3, h5, ?_, b, _, cs, h1, h2, h3, rfl, h5, ?_, by omega⟩
 ·simp only [Heap.cells, h5]
  rw [if_pos (by omega)]
  have : (cs.drop (l.length * 2)).take 2 = (cs.take ((l.length + 1) * 2)).drop (l.length * 2) := by
   rw [List.drop_take]; congr 1; omega
  rw [this, h6, List.drop_append_of_le_length (by rw [prC_len]; exact Nat.le_refl _), ← prC_len l, List.drop_length, List.nil_append]
 ·have : cs.take (l.length * 2) = (cs.take ((l.length + 1) * 2)).take (l.length * 2) := by
   rw [List.take_take]; congr 1; omega
  rw [this, h6, List.take_append_of_le_length (by rw [prC_len]; exact Nat.le_refl _), List.take_of_length_le (by rw [prC_len]; exact Nat.le_refl _)]
end Go.Idl
end

section
namespace Go.Idl
variable {T : Tbl}
theorem walk_ok (F : ChkFns T) (hT : T.fn 48 = some C48) {v : Value} {l : List Nd} {lp cb : Nat} {I : List Int → Heap → Prop} {h : Heap} (g : GoodT l) (hN : l.length ≤ 50000) (hK : ∀ x ∈ l, x.kids.length ≤ 100000) (hS : ∀ x ∈ l, x.text.size < 4611686018427387904)
 (hmem : ∀ told h1, I told h1 → nodesAt h1 v l ∧ h1.get cb = some (.cells [v] true 0))
 (hlow : ∀ told h1 h2, I told h1 → Low h.next h1 h2 → I told h2)
 (hyld : ∀ (told : List Int) (n : Nat) (d : Int) h1, I told h1 → h.next ≤ h1.next → n < l.length → (n : Int) ∉ told → Wk T (.yld lp) [.int .i64 n, .int .i64 d] h1 (fun o h2 => o = .ret (.bool true) ∧ I (told ++ [(n : Int)]) h2 ∧ h1.next ≤ h2.next ∧ ∀ b, h.next ≤ b → b < h1.next → (∀ cs, h1.get b ≠ some (.cells cs true 1)) → h2.get b = h1.get b))
 (h0 : I [] h) : Wk T (.fn 48) [.func (.yield lp) #[] #[], ptr cb 0] h (fun o h' => (∃ r, o = .ret r) ∧ ∃ told, I told h' ∧ ∀ k : Nat, k < l.length → told.count (k : Int) = 1) := by
 refine Wk_fn hT (by simp [C48]) ?_
 simp only [C48]
 obtain ⟨hn, hcb⟩ := hmem _ _ h0
 obtain ⟨va, vc, hvl⟩ := hn.len
 have hcell : h.cell cb 0 = some v := by simp only [Heap.cell, hcb]; rfl
 have pcb : ptr cb 0 = .pointer (some ⟨cb, 0, none⟩) := rfl
 have hne := g.ne
 refine Wc_seq (Wc_seq (Wc_ops (Wo_pre 1 (fun _ => by simp only [go_sem, seval, hcb]; rfl) ?_)))
 refine Wo_call (Wk_kept (check_ok F hn hN hK hS g) fun h1 k1 => ?_)
 refine (Wo_run (fun _ => by simp only [go_sem, seval]; rfl) ?_)
 show Wc T _ _ _
 refine Wc_seq (Wc_ops (Wo_run (fun _ => by simp only [go_sem, seval, bne]; rfl) ?_))
 show Wc T _ _ _
 refine Wc_cond false (by first | rfl | assumption) nofun (fun _ => Wc_skip ?_)
 show Wc T _ _ _
 have l1 : Low h.next h h1 := .kept k1 (Nat.le_refl _)
 have I1 : I [] h1 := hlow _ _ _ h0 l1
 have hcb1 := (hmem _ _ I1).2
 have ew : IntKind.i64.wrap (((l.length : Nat) : Int) - 1) = ((l.length : Nat) : Int) - 1 := wrap64 (by omega) (by omega)
 refine Wc_seq (Wc_ops (Wo_pre 3 (fun _ => by simp only [go_sem, seval, hcb1, hvl, ew]; rfl) ?_))
 refine Wo_op (v := .agg (prC (((l.length : Nat) : Int) - 1, 0)).toArray) (h' := h1) (by rfl) ?_
 refine Wo_new (v := .slice (some ⟨h1.next, 0, none⟩) 1 1) (B := .cells (prC (((l.length : Nat) : Int) - 1, 0)) true 2) (by rfl) fun h2 n2 => ?_
 refine (Wo_run (fun _ => by simp only [go_sem, seval]; rfl) ?_)
 show Wc T _ _ _
 have I2 : I [] h2 := hlow _ _ _ I1 (.kept n2.kept l1.next)
 have loop : ∀ (m : Nat) (e : Env) (h3 : Heap) (tv : Value) (todo : List (Int × Int)) (told : List Int) (xb : Nat), untold l told ≤ m → e 0 = .func (.yield lp) #[] #[] → e 1 = ptr cb 0 → e 5 = tv → I told h3 → h.next ≤ h3.next → todoAt h.next xb h3 tv todo → (∀ p ∈ todo, ∃ n : Nat, p.1 = n ∧ n < l.length) → Bal l told (todo.map (·.1)) → todo.length + 100000 * untold l told ≤ 5000000001 →
  Wc T (.loop C48L1) ⟨e, h3, some []⟩ (Tb 0 fun x s => (x = .normal ∨ x = .ret) ∧ s.d = some [] ∧ ∃ vs, resAll s.e s.h [] = some vs ∧ (∃ r, Out.ret (tup vs) = .ret r) ∧ ∃ told, I told s.h ∧ ∀ k : Nat, k < l.length → told.count (k : Int) = 1) := by
  intro m
  induction m with
  | zero =>
   intro e h3 tv todo told xb hm e0 e1 e5 I3 hb3 ht hr hB hlen
   rcases List.eq_nil_or_concat todo with rfl | ⟨L, p, rfl⟩
   ·obtain ⟨b, c, cs, _, _, _, rfl, _⟩ := ht
    refine Wc_unroll (Wc_seq (Wc_seq (Wc_ops (Wo_run (fun _ => by simp only [go_sem, seval, e5]; rfl) ?_))))
    show Wc T _ _ _
    refine Wc_cond false (by first | rfl | assumption) nofun (fun _ => Wc_exit ?_)
    exact ⟨.inl rfl, rfl, [], rfl, ⟨_, rfl⟩, told, I3, bal_end g hB⟩
   ·rw [List.concat_eq_append] at hr hB
    obtain ⟨n, hpn, hnl⟩ := hr p (by simp)
    rw [List.map_append, List.map_cons, List.map_nil, hpn] at hB
    have := untold_lt hnl (bal_new hB hnl)
    omega
  | succ m ih =>
   intro e h3 tv todo told xb hm e0 e1 e5 I3 hb3 ht hr hB hlen
   rcases List.eq_nil_or_concat todo with rfl | ⟨L, p, rfl⟩
   ·obtain ⟨b, c, cs, _, _, _, rfl, _⟩ := ht
    refine Wc_unroll (Wc_seq (Wc_seq (Wc_ops (Wo_run (fun _ => by simp only [go_sem, seval, e5]; rfl) ?_))))
    show Wc T _ _ _
    refine Wc_cond false (by first | rfl | assumption) nofun (fun _ => Wc_exit ?_)
    exact ⟨.inl rfl, rfl, [], rfl, ⟨_, rfl⟩, told, I3, bal_end g hB⟩
   rw [List.concat_eq_append] at hr hB hlen ht
   obtain ⟨pn, pd⟩ := p
   obtain ⟨n, hpn, hnl⟩ := hr (pn, pd) (by simp)
   simp only at hpn
   subst hpn
   rw [List.map_append, List.map_cons, List.map_nil] at hB
   have hnew := bal_new hB hnl
   have hlt := untold_lt hnl hnew
   have hB' := bal_step hB hnl
   rw [List.length_append, List.length_singleton] at hlen
   obtain ⟨b, c, cs, rfl, hb, hbx, hgb, hcell, ht'⟩ := ht.top
   obtain ⟨x, hx⟩ : ∃ x, l[n]? = some x := ⟨_, List.getElem?_eq_getElem hnl⟩
   have hkids : kidsAtN l n = x.kids := by simp only [kidsAtN, hx, Option.map_some, Option.getD_some]
   rw [hkids] at hB'
   have hxm := List.mem_of_getElem? hx
   have hkl := hK x hxm
   have z1 : (0 : Int) < ((L.length + 1 : Nat) : Int) := by omega
   have e26 : IntKind.i64.wrap (((L.length + 1 : Nat) : Int) - 1) = ((L.length : Nat) : Int) := by rw [wrap64] <;> omega
   refine Wc_unroll (Wc_seq (Wc_seq (Wc_ops (Wo_run (fun _ => by simp only [go_sem, seval, e5, z1]; rfl) ?_))))
   show Wc T _ _ _
   refine Wc_cond true (by first | rfl | assumption) (fun _ => Wc_skip ?_) nofun
   show Wc T _ _ _
   refine Wc_block (Wc_seq (Wc_ops (Wo_pre 6 (fun _ => by simp only [go_sem, seval, e5, e26, idx_ok (show L.length < L.length + 1 by omega), hcell]; rfl) ?_)))
   refine Wo_store_new (cs := prC ((n : Nat), pd)) (h := h3) (by first | rfl | assumption) (by first | rfl | assumption) rfl rfl fun h4 n4 => Wo_nil ?_
   show Wc T _ _ _
   have hgb4 : h4.get b = some (.cells cs true 2) := by rw [n4.kept.get _ hb]; exact hgb
   have I4 : I told h4 := hlow _ _ _ I3 (.kept n4.kept hb3)
   have hb4 : h.next ≤ h4.next := Nat.le_trans hb3 n4.kept.next
   have ht4 : todoAt h.next h3.next h4 (subSl 2 (L.length + 1) c 0 L.length none (some ⟨b, 0, none⟩)) L := ht'.keep n4.kept.next (fun b _ hb _ => n4.kept.get b hb) (.inr (Nat.le_refl _))
   have hx4 : h3.next < h4.next := by rw [n4.next]; exact Nat.lt_succ_self _
   refine Wc_seq (Wc_ops (Wo_pre 4 (fun _ => by simp only [go_sem, seval, e5, e26]; rfl) ?_))
   refine Wo_op (v := subSl 2 (L.length + 1) c 0 L.length none (some ⟨b, 0, none⟩)) (h' := h4) ?_ ?_
   ·simp only [iop, ev, upd, dstUpd, reduceIte, Nat.reduceEqDiff, bndO, bnd_ok (Nat.zero_le L.length) (Nat.le_succ L.length), Option.isSome_none, Bool.false_and, Bool.false_or, okSzO, okSz, hgb4, beq_self_eq_true, Bool.or_true, Bool.not_true, Option.getD_none, Bool.false_eq_true]
   refine (Wo_run (fun _ => by simp only [go_sem, seval]; rfl) ?_)
   show Wc T _ _ _
   refine Wc_seq (Wc_seq (Wc_ops (Wo_pre 5 (fun _ => by simp only [go_sem, seval, e0, n4.get, prC]; rfl) ?_)))
   refine Wo_callv (c := .yld lp) (vs := [.int .i64 n, .int .i64 pd]) (by simp only [go_sem, seval, target, e0] <;> first | rfl | assumption | (symm; assumption)) ((hyld told n pd h4 I4 hb4 hnl hnew).mono ?_)
   rintro o h5 ⟨rfl, I5, k5, g5⟩
   show Wo T _ _ _
   refine (Wo_run (fun _ => by simp only [go_sem, seval]; rfl) ?_)
   show Wc T _ _ _
   refine Wc_cond false (by first | rfl | assumption) nofun (fun _ => Wc_skip ?_)
   show Wc T _ _ _
   have ht5 := ht4.keep (xb' := h3.next) k5 g5 (.inl rfl)
   have hx5 : h5.get h3.next = some (.cells (prC ((n : Nat), pd)) true 0) := by rw [g5 _ hb3 hx4 (fun cs e => by rw [n4.get] at e; simp at e)]; exact n4.get
   have hb5 : h.next ≤ h5.next := Nat.le_trans hb4 k5
   obtain ⟨hn5, hcb5⟩ := hmem _ _ I5
   obtain ⟨b6, c6, o6, z6, hvb, hb6, hg6, _⟩ := hn5.load4 hx
   have hkv := (flatN_at hx).2.2.1
   have hki : intsAt h5 x.kv x.kids := hn5.2 x hxm
   obtain ⟨ka, kc, hkvl⟩ := hki.len
   rw [pcb] at e1
   refine Wc_seq (Wc_ops (Wo_run (fun _ => by simp only [go_sem, seval, e1, hcb5, hx5, prC, hvb, idx_ok hnl, hg6, hkv]; rfl) ?_))
   show Wc T _ _ _
   refine Wc_seq (Wc_ops (Wo_run (fun _ => by simp only [go_sem, seval, hkvl]; rfl) ?_))
   show Wc T _ _ _
   refine Wc_range x.kids.length (fun j e h' d => d = some [] ∧ I (told ++ [(n : Int)]) h' ∧ h5.next ≤ h'.next ∧ h'.get h3.next = some (.cells (prC ((n : Nat), pd)) true 0) ∧ ∃ t, todoAt h.next h3.next h' (e 5) t ∧ t.map (·.1) = L.map (·.1) ++ x.kids.reverse.take j) (by decide) (by first | rfl | assumption) (by first | rfl | assumption) (by omega) (by decide) ?_ ?_ ?_
   ·exact ⟨rfl, I5, Nat.le_refl _, hx5, L, by simpa only [upd, dstUpd, reduceIte, Nat.reduceEqDiff] using ht5, by simp⟩
   ·rintro j e' h' d hj ⟨rfl, I', hb', hx', t, ht', hmap⟩ hfr h50 h49
    obtain ⟨hn', _⟩ := hmem _ _ I'
    have hki' : intsAt h' x.kv x.kids := hn'.2 x hxm
    have hjr : x.kids.length - 1 - j < x.kids.length := by omega
    obtain ⟨k, hkm⟩ : ∃ k, x.kids[x.kids.length - 1 - j]? = some k := ⟨_, List.getElem?_eq_getElem hjr⟩
    have hkr : x.kids.reverse[j]? = some k := by rw [List.getElem?_reverse hj]; exact hkm
    obtain ⟨bk, ck, hkvb, hbk, ⟨ok', zk, hgk⟩, hcell'⟩ := hki'.load hkm
    rw [Nat.zero_add] at hcell'
    have htl : t.length = L.length + j := by
     have := congrArg List.length hmap
     simp only [List.length_map, List.length_append, List.length_take, List.length_reverse] at this
     omega
    have e7 : e' 7 = x.kv := ((hfr 7 (by decide)).trans (by first | rfl | assumption | (symm; assumption)))
    have e6 : e' 6 = .pointer (some ⟨h3.next, 0, none⟩) := ((hfr 6 (by decide)).trans (by first | rfl | assumption | (symm; assumption)))
    have w1 : IntKind.i64.wrap (((x.kids.length : Nat) : Int) - 1) = ((x.kids.length : Nat) : Int) - 1 := wrap64 (by omega) (by omega)
    have w2 : IntKind.i64.wrap (((x.kids.length : Nat) : Int) - 1 - ((j : Nat) : Int)) = ((x.kids.length - 1 - j : Nat) : Int) := by rw [wrap64] <;> omega
    refine Wc_seq (Wc_ops (Wo_run (fun _ => by simp only [go_sem, seval, h50]; rfl) ?_))
    show Wc T _ _ _
    refine Wc_draw_still (by decide) ?_
    refine (Wo_pre 12 (fun _ => by simp only [go_sem, seval, e7, e6, hkvb, w1, w2, idx_ok hjr, hgk, hcell', hx', prC]; rfl) ?_)
    refine Wo_op (v := .agg (prC (k, IntKind.i64.wrap (pd + 1))).toArray) (h' := h') (by rfl) ?_
    refine Wo_new (v := .slice (some ⟨h'.next, 0, none⟩) 1 1) (B := .cells (prC (k, IntKind.i64.wrap (pd + 1))) true 2) (by rfl) fun h6 n6 => ?_
    have hel : elemsOf h6 2 (.slice (some ⟨h'.next, 0, none⟩) 1 1) = some (1, prC (k, IntKind.i64.wrap (pd + 1))) := by
     simp only [elemsOf, Nat.one_ne_zero, if_false, Heap.cells, n6.get]; rfl
    have ht6 : todoAt h.next h3.next h6 (e' 5) t := ht'.keep n6.kept.next (fun b _ hb _ => n6.kept.get b hb) (.inl rfl)
    have hx3 : h3.next < h'.next := by omega
    obtain ⟨v', h7, ha, ht7, hl7, hx7⟩ := ht6.append hel (by omega) (by have := n6.kept.next; omega) (by have := n6.kept.next; omega)
    refine Wo_op (v := v') (h' := h7) (by simp only [iop, ev, upd, dstUpd, reduceIte, Nat.reduceEqDiff]; exact ha) ?_
    refine (Wo_run (fun _ => by simp only [go_sem, seval]; rfl) ?_)
    have hl67 : Low h.next h' h7 := (Low.kept n6.kept (by omega)).trans hl7
    refine ⟨rfl, rfl, hlow _ _ _ I' hl67, Nat.le_trans hb' hl67.next, ?_, t ++ [(k, IntKind.i64.wrap (pd + 1))], ?_, ?_⟩
    ·show h7.get h3.next = _
     rw [hx7, n6.kept.get _ hx3]; exact hx'
    ·simpa only [upd, dstUpd, reduceIte, Nat.reduceEqDiff] using ht7
    ·rw [List.map_append, hmap, List.take_add_one, hkr, List.append_assoc]; rfl
   ·rintro e' h' d ⟨rfl, I', hb', hx', t, ht', hmap⟩ hfr h50
    rw [← List.length_reverse, List.take_length] at hmap
    have e0' : e' 0 = .func (.yield lp) #[] #[] := ((hfr 0 (by decide)).trans (by first | rfl | assumption | (symm; assumption)))
    have e1' : e' 1 = .pointer (some ⟨cb, 0, none⟩) := ((hfr 1 (by decide)).trans (by first | rfl | assumption | (symm; assumption)))
    have htl : t.length = L.length + x.kids.length := by
     have := congrArg List.length hmap
     simp only [List.length_map, List.length_append, List.length_reverse] at this
     omega
    refine ih _ h' _ t (told ++ [(n : Int)]) h3.next (by omega) (by simp only [go_sem, seval, e0'] <;> first | rfl | assumption | (symm; assumption)) (by simp only [go_sem, seval, e1'] <;> first | rfl | assumption | (symm; assumption)) (by first | rfl | assumption) I' (Nat.le_trans hb5 hb') ht' ?_ (by rw [hmap]; exact hB') (by omega)
    intro p hp
    have hm1 : p.1 ∈ t.map (·.1) := List.mem_map_of_mem hp
    rw [hmap, List.mem_append] at hm1
    rcases hm1 with hm1 | hm1
    ·obtain ⟨q, hq, hqe⟩ := List.mem_map.1 hm1
     obtain ⟨i, hi1, hi2⟩ := hr q (List.mem_append_left _ hq)
     exact ⟨i, by rw [← hqe]; exact hi1, hi2⟩
    ·have := (g.ok n x hx).kids _ (List.mem_reverse.1 hm1)
     exact ⟨p.1.toNat, by omega, by omega⟩
 refine Wc_block (loop _ _ h2 _ [(((l.length : Nat) : Int) - 1, 0)] [] h2.next (Nat.le_refl _) (by first | rfl | assumption) (by first | rfl | assumption) rfl I2 (Nat.le_trans l1.next n2.kept.next) ?_ ?_ (bal_start g) ?_)
 ·exact ⟨h1.next, 1, _, l1.next, by rw [n2.next]; exact Nat.lt_succ_self _, by rw [n2.next]; omega, (by first | rfl | assumption), n2.get, rfl, Nat.le_refl _⟩
 ·intro p hp
  rw [List.mem_singleton] at hp
  subst hp
  exact ⟨l.length - 1, by simp only; omega, by omega⟩
 ·have : untold l [] ≤ l.length := by
   have := List.countP_le_length (p := fun p : Nat => !decide ((p : Int) ∈ ([] : List Int))) (l := List.range l.length)
   rw [List.length_range] at this
   exact this
  simp only [List.length_singleton]
  omega
end Go.Idl
end

section
namespace Go.Idl
def C18 : IFn := ⟨13, (.seq (.ops [Sx 2 (.alloc [.int .i64 0, .string ⟨#[]⟩, .int .i64 0, .int .i64 0, .int .i64 0])]) (.seq (.draw [Sm 3 0, Sn 4 3, Sf 5 0 4, Sl 6 5, Sm 7 0, Sn 8 7, Sf 9 1 8, Sl 10 9, Si 11 5 6 10, Sx 12 (.load (some 5) (.t 11)), Su (.store 5 (.t 2) (.t 12))] [[], [0], [1, 0], [2, 1, 0], [], [4], [5, 4], [6, 5, 4], [7, 6, 5, 4, 3, 2, 1, 0], [8, 7, 6, 5, 4, 3, 2, 1, 0], [9, 8, 7, 6, 5, 4, 3, 2, 1, 0]]) .ret)), [.cell 2 (some 5)]⟩
def C56 : IFn := ⟨7, (.ops [Sm 2 0, Sc 3 18 [.t 2], Sx 4 (.field 2 none (.t 3)), Sx 5 (.build [.int .i64 0, .int .i64 0] [(0, 1, .t 4), (1, 1, (Ci 60))]), Sx 6 (.iface 44 (.t 5)), ⟨none, .panic (.t 6), none⟩]), []⟩
def C55 : IFn := ⟨22, (.seq (.ops [Sx 4 (.mov (.c (.bool false)))]) (.seq (.ops [Sm 6 0, Sc 7 18 [.t 6], Sx 5 (.alloc [.int .i64 0, .string ⟨#[]⟩, .int .i64 0, .int .i64 0, .int .i64 0]), Su (.store 5 (.t 5) (.t 7))]) (.seq (.ops [Sf 8 0 5, Sl 9 8, Sb 10 .eql (.t 9) (Ci 3), Sm 11 10, Sg 12 (.faddr 0 (.t 5)) 11 false, Sg 13 (.load none (.t 12)) 11 false, Sg 14 (.bin .eql (.t 13) (Ci 2)) 11 false, Sx 15 (.pick (.t 11) (.c (.bool true)) (.t 14)), Sm 16 15, Sg 17 (.mov (.t 1)) 16 true, Sg 18 (.faddr 1 (.t 5)) 16 true, Sg 19 (.load none (.t 18)) 16 true, ⟨some 20, .call 63 [.t 17, .t 19], (some (16, true))⟩, Sx 21 (.pick (.t 16) (.t 20) (.c (.bool false))), Sm 4 21]) .ret))), [.tmp 4]⟩
def C32 : IFn := ⟨19, (.seq (.ops [Sx 4 (.mov (.c (.bool false)))]) (.seq (.ops [Sm 6 0, Sm 7 1, Sx 8 (.lit 1 1 [.string ⟨#[]⟩] [(0, 1, .t 7)]), Sc 9 55 [.t 6, .t 8], Sm 5 9]) (.seq (.seq (.ops [Sm 10 5]) (.cond (.t 10) (.ops [Sm 11 0, Sn 12 11, Sf 13 1 12, Sl 14 13, Sb 15 .add (.t 14) (Ci 1), Sn 16 11, Sf 17 1 16, Su (.store 1 (.t 17) (.t 15))]) .skip)) (.seq (.ops [Sm 18 5, Sm 4 18]) .ret)))), [.tmp 4]⟩
def C34 : IFn := ⟨10, (.seq (.ops [Sm 4 0, Sm 5 1, Sc 6 32 [.t 4, .t 5], Sx 7 (.un .not (.t 6))]) (.cond (.t 7) (.ops [Sm 8 0, Sc 9 56 [.t 8]]) .skip)), []⟩
def C33 : IFn := ⟨19, (.seq (.ops [Sx 2 (.alloc [.int .i64 0, .string ⟨#[]⟩, .int .i64 0, .int .i64 0, .int .i64 0])]) (.seq (.ops [Sm 4 0, Sc 5 18 [.t 4], Sx 3 (.alloc [.int .i64 0, .string ⟨#[]⟩, .int .i64 0, .int .i64 0, .int .i64 0]), Su (.store 5 (.t 3) (.t 5))]) (.seq (.seq (.ops [Sf 6 0 3, Sl 7 6, Sb 8 .neq (.t 7) (Ci 1)]) (.cond (.t 8) (.ops [Sm 9 0, Sc 10 56 [.t 9]]) .skip)) (.seq (.ops [Sm 11 0, Sn 12 11, Sf 13 1 12, Sl 14 13, Sb 15 .add (.t 14) (Ci 1), Sn 16 11, Sf 17 1 16, Su (.store 1 (.t 17) (.t 15))]) (.seq (.ops [Sx 18 (.load (some 5) (.t 3)), Su (.store 5 (.t 2) (.t 18))]) .ret))))), [.cell 2 (some 5)]⟩
def C20 : IFn := ⟨31, (.seq (.ops [Sx 10 (.mov (Ci 0))]) (.seq (.ops [Sm 11 0, Sm 12 0, Sn 13 12, Sf 14 2 13, Sl 15 14, Sm 16 1, Sm 17 2, Sm 18 4, Sm 19 3, Sx 20 (.build [.int .i64 0, .string ⟨#[]⟩, (.slice none 0 0), .int .i64 0] [(0, 1, .t 16), (1, 1, .t 17), (2, 1, .t 18), (3, 1, .t 19)]), Sx 21 (.lit 4 1 [.int .i64 0, .string ⟨#[]⟩, (.slice none 0 0), .int .i64 0] [(0, 4, .t 20)]), Sx 22 (.append 4 56 (.t 15) (.t 21)), Sn 23 11, Sf 24 2 23, Su (.store 1 (.t 24) (.t 22))]) (.seq (.ops [Sm 25 0, Sn 26 25, Sf 27 2 26, Sl 28 27, Sx 29 (.len .sl (.t 28)), Sb 30 .sub (.t 29) (Ci 1), Sm 10 30]) .ret))), [.tmp 10]⟩
def C35L0 : IC := (.seq (.seq (.ops [Sm 19 0, ⟨some 20, .call 32 [.t 19, .c (.string ⟨#[44]⟩)], none⟩]) (.cond (.t 20) .skip (.exit 0))) (.block 1 (.ops [Sm 21 7, Sm 22 2, Sm 23 0, ⟨some 24, .callv (.t 22) [.t 23], none⟩, Sx 25 (.lit 1 1 [.int .i64 0] [(0, 1, .t 24)]), Sx 26 (.append 1 8 (.t 21) (.t 25)), Sm 7 26]))) def C35 : IFn := ⟨31, (.seq (.ops [Sx 6 (.mov (.c (.slice none 0 0)))]) (.seq (.ops [Sx 7 (.mov (.c (.slice none 0 0)))]) (.seq (.seq (.ops [Sm 8 0, Sm 9 1, Sx 10 (.lit 1 1 [.string ⟨#[]⟩] [(0, 1, .t 9)]), Sc 11 55 [.t 8, .t 10], Sx 12 (.un .not (.t 11))]) (.cond (.t 12) (.seq (.ops [Sm 13 7, Sm 14 2, Sm 15 0, ⟨some 16, .callv (.t 14) [.t 15], none⟩, Sx 17 (.lit 1 1 [.int .i64 0] [(0, 1, .t 16)]), Sx 18 (.append 1 8 (.t 13) (.t 17)), Sm 7 18]) (.block 0 (.loop C35L0))) .skip)) (.seq (.ops [Sm 27 0, Sm 28 1, Sc 29 34 [.t 27, .t 28]]) (.seq (.ops [Sm 30 7, Sm 6 30]) .ret))))), [.tmp 6]⟩
def C19 : IFn := ⟨42, (.seq (.ops [Sx 2 (.mov (Ci 0))]) (.seq (.seq (.ops [Sm 7 0, ⟨some 8, .call 32 [.t 7, .c (.string ⟨#[114, 101, 99]⟩)], none⟩]) (.cond (.t 8) (.seq (.ops [Sm 9 0, Sc 10 33 [.t 9], Sx 3 (.alloc [.int .i64 0, .string ⟨#[]⟩, .int .i64 0, .int .i64 0, .int .i64 0]), Su (.store 5 (.t 3) (.t 10))]) (.seq (.ops [Sm 11 0, ⟨some 12, .call 34 [.t 11, .c (.string ⟨#[123]⟩)], none⟩]) (.seq (.ops [Sm 13 0, ⟨some 14, .call 35 [.t 13, .c (.string ⟨#[125]⟩), (.c (.func (.func 36) #[] #[]))], none⟩, Sm 4 14]) (.seq (.ops [Sm 15 0, Sf 16 1 3, Sl 17 16, Sf 18 2 3, Sl 19 18, Sm 20 4, Sc 21 20 [.t 15, (Ci 2), .t 17, .t 19, .t 20], Sm 2 21]) .ret)))) .skip)) (.seq (.ops [Sm 22 0, ⟨some 23, .call 34 [.t 22, .c (.string ⟨#[102, 110]⟩)], none⟩]) (.seq (.ops [Sm 24 0, Sc 25 33 [.t 24], Sx 5 (.alloc [.int .i64 0, .string ⟨#[]⟩, .int .i64 0, .int .i64 0, .int .i64 0]), Su (.store 5 (.t 5) (.t 25))]) (.seq (.ops [Sm 26 0, ⟨some 27, .call 34 [.t 26, .c (.string ⟨#[40]⟩)], none⟩]) (.seq (.ops [Sm 28 0, ⟨some 29, .call 35 [.t 28, .c (.string ⟨#[41]⟩), (.c (.func (.func 36) #[] #[]))], none⟩, Sm 6 29]) (.seq (.ops [Sm 30 6, Sm 31 0, Sc 32 37 [.t 31], Sx 33 (.lit 1 1 [.int .i64 0] [(0, 1, .t 32)]), Sx 34 (.append 1 8 (.t 30) (.t 33)), Sm 6 34]) (.seq (.ops [Sm 35 0, Sf 36 1 5, Sl 37 36, Sf 38 2 5, Sl 39 38, Sm 40 6, Sc 41 20 [.t 35, (Ci 3), .t 37, .t 39, .t 40], Sm 2 41]) .ret)))))))), [.tmp 2]⟩
def C36 : IFn := ⟨12, (.seq (.ops [Sx 2 (.mov (Ci 0))]) (.seq (.ops [Sm 4 0, Sc 5 33 [.t 4], Sx 3 (.alloc [.int .i64 0, .string ⟨#[]⟩, .int .i64 0, .int .i64 0, .int .i64 0]), Su (.store 5 (.t 3) (.t 5))]) (.seq (.ops [Sm 6 0, Sf 7 1 3, Sl 8 7, Sf 9 2 3, Sl 10 9, Sc 11 20 [.t 6, (Ci 17), .t 8, .t 10, .c (.slice none 0 0)], Sm 2 11]) .ret))), [.tmp 2]⟩
def C37L0 : IC := (.seq (.seq (.ops [Sm 10 0, Sx 11 (.lit 1 1 [.string ⟨#[]⟩] [(0, 1, .c (.string ⟨#[125]⟩))]), Sc 12 55 [.t 10, .t 11], Sx 13 (.un .not (.t 12))]) (.cond (.t 13) .skip (.exit 0))) (.block 1 (.ops [Sm 14 4, Sm 15 0, Sc 16 57 [.t 15], Sx 17 (.lit 1 1 [.int .i64 0] [(0, 1, .t 16)]), Sx 18 (.append 1 8 (.t 14) (.t 17)), Sm 4 18]))) def C37 : IFn := ⟨25, (.seq (.ops [Sx 2 (.mov (Ci 0))]) (.seq (.ops [Sm 5 0, Sc 6 18 [.t 5], Sx 7 (.field 2 none (.t 6)), Sm 3 7]) (.seq (.ops [Sm 8 0, ⟨some 9, .call 34 [.t 8, .c (.string ⟨#[123]⟩)], none⟩]) (.seq (.ops [Sx 4 (.mov (.c (.slice none 0 0)))]) (.seq (.block 0 (.loop C37L0)) (.seq (.ops [Sm 19 0, ⟨some 20, .call 34 [.t 19, .c (.string ⟨#[125]⟩)], none⟩]) (.seq (.ops [Sm 21 0, Sm 22 3, Sm 23 4, ⟨some 24, .call 20 [.t 21, (Ci 4), .c (.string ⟨#[]⟩), .t 22, .t 23], none⟩, Sm 2 24]) .ret))))))), [.tmp 2]⟩
def C57 : IFn := ⟨95, (.seq (.ops [Sx 2 (.mov (Ci 0))]) (.seq (.ops [Sm 9 0, Sc 10 18 [.t 9], Sx 3 (.alloc [.int .i64 0, .string ⟨#[]⟩, .int .i64 0, .int .i64 0, .int .i64 0]), Su (.store 5 (.t 3) (.t 10))]) (.seq (.seq (.draw [Sc 11 64 [], Sf 12 1 3, Sl 13 12, Sx 14 (.lookup (.one .str) .nilFunc false (.t 11) (.t 13)), Sm 4 14] [[], [], [1], [2, 1, 0], [3, 2, 1, 0]]) (.seq (.ops [Sf 15 0 3, Sl 16 15, Sb 17 .eql (.t 16) (Ci 2), Sm 18 17, Sg 19 (.mov (.t 4)) 18 true, Sg 20 (.isnil .fn true (.t 19)) 18 true, Sx 21 (.pick (.t 18) (.t 20) (.c (.bool false)))]) (.cond (.t 21) (.seq (.ops [Sm 22 0, Sn 23 22, Sf 24 1 23, Sl 25 24, Sb 26 .add (.t 25) (Ci 1), Sn 27 22, Sf 28 1 27, Su (.store 1 (.t 28) (.t 26))]) (.seq (.ops [Sm 29 4, Sm 30 0, Sf 31 2 3, Sl 32 31, ⟨some 33, .callv (.t 29) [.t 30, .t 32], none⟩, Sm 2 33]) .ret)) .skip))) (.seq (.ops [Sm 34 0, Sc 35 65 [.t 34], Sm 5 35]) (.seq (.ops [Sm 36 0, Sc 37 18 [.t 36], Sx 38 (.field 2 none (.t 37)), Sm 6 38]) (.seq (.seq (.ops [Sm 39 0, Sn 40 39, Sf 41 2 40, Sl 42 41, Sm 43 5, Si 44 4 42 43, Sf 45 0 44, Sl 46 45, Sm 7 46]) (.block 0 (.seq (.ops [Sm 48 7, Sb 49 .eql (.t 48) (Ci 22), Sm 50 49, Sg 51 (.mov (.t 0)) 50 true, ⟨some 52, .call 32 [.t 51, .c (.string ⟨#[59]⟩)], (some (50, true))⟩, Sx 53 (.pick (.t 50) (.t 52) (.c (.bool false))), Sm 47 53]) (.cond (.t 47) (.seq (.ops [Sm 54 0, Sm 55 0, Sn 56 55, Sf 57 2 56, Sl 58 57, Sm 59 5, Si 60 4 58 59, Sf 61 3 60, Sl 62 61, Sm 63 5, Sx 64 (.lit 1 1 [.int .i64 0] [(0, 1, .t 63)]), ⟨some 65, .call 20 [.t 54, (Ci 12), .c (.string ⟨#[]⟩), .t 62, .t 64], none⟩, Sm 2 65]) .ret) (.seq (.ops [Sm 67 7, Sb 68 .neq (.t 67) (Ci 17), Sm 69 68, Sg 70 (.mov (.t 7)) 69 true, Sg 71 (.bin .neq (.t 70) (Ci 20)) 69 true, Sx 72 (.pick (.t 69) (.t 71) (.c (.bool false))), Sm 73 72, Sg 74 (.mov (.t 7)) 73 true, Sg 75 (.bin .neq (.t 74) (Ci 21)) 73 true, Sx 76 (.pick (.t 73) (.t 75) (.c (.bool false))), Sm 77 76, Sg 78 (.mov (.t 7)) 77 true, Sg 79 (.bin .neq (.t 78) (Ci 30)) 77 true, Sx 80 (.pick (.t 77) (.t 79) (.c (.bool false))), Sm 66 80]) (.cond (.t 66) (.ops [Sm 81 0, Sc 82 56 [.t 81]]) .skip)))))) (.seq (.ops [Sm 83 0, ⟨some 84, .call 34 [.t 83, .c (.string ⟨#[61]⟩)], none⟩]) (.seq (.ops [Sm 85 0, Sc 86 66 [.t 85], Sm 8 86]) (.seq (.ops [Sm 87 0, ⟨some 88, .call 34 [.t 87, .c (.string ⟨#[59]⟩)], none⟩]) (.seq (.ops [Sm 89 0, Sm 90 6, Sm 91 5, Sm 92 8, Sx 93 (.lit 1 2 [.int .i64 0, .int .i64 0] [(0, 1, .t 91), (1, 1, .t 92)]), ⟨some 94, .call 20 [.t 89, (Ci 6), .c (.string ⟨#[]⟩), .t 90, .t 93], none⟩, Sm 2 94]) .ret)))))))))), [.tmp 2]⟩
def C65L0 : IC := (.block 1 (.seq (.ops [Sm 9 0, Sc 10 18 [.t 9], Sx 11 (.field 2 none (.t 10)), Sm 4 11]) (.block 2 (.seq (.ops [Sm 14 0, ⟨some 15, .call 32 [.t 14, .c (.string ⟨#[46]⟩)], none⟩, Sm 13 15]) (.cond (.t 13) (.seq (.ops [Sm 16 0, Sc 17 33 [.t 16], Sx 5 (.alloc [.int .i64 0, .string ⟨#[]⟩, .int .i64 0, .int .i64 0, .int .i64 0]), Su (.store 5 (.t 5) (.t 17))]) (.ops [Sm 18 0, Sf 19 1 5, Sl 20 19, Sm 21 4, Sm 22 3, Sx 23 (.lit 1 1 [.int .i64 0] [(0, 1, .t 22)]), Sc 24 20 [.t 18, (Ci 20), .t 20, .t 21, .t 23], Sm 3 24])) (.seq (.ops [Sm 26 0, ⟨some 27, .call 32 [.t 26, .c (.string ⟨#[91]⟩)], none⟩, Sm 25 27]) (.cond (.t 25) (.seq (.ops [Sm 28 0, Sc 29 66 [.t 28], Sm 6 29]) (.seq (.ops [Sm 30 0, ⟨some 31, .call 34 [.t 30, .c (.string ⟨#[93]⟩)], none⟩]) (.ops [Sm 32 0, Sm 33 4, Sm 34 3, Sm 35 6, Sx 36 (.lit 1 2 [.int .i64 0, .int .i64 0] [(0, 1, .t 34), (1, 1, .t 35)]), ⟨some 37, .call 20 [.t 32, (Ci 21), .c (.string ⟨#[]⟩), .t 33, .t 36], none⟩, Sm 3 37]))) (.seq (.ops [Sm 12 3, Sm 2 12]) .ret)))))))) def C65 : IFn := ⟨38, (.seq (.ops [Sx 2 (.mov (Ci 0))]) (.seq (.ops [Sm 7 0, Sc 8 75 [.t 7], Sm 3 8]) (.block 0 (.loop C65L0)))), [.tmp 2]⟩
def C66 : IFn := ⟨33, (.seq (.ops [Sx 2 (.mov (Ci 0))]) (.seq (.ops [Sm 6 0, Sc 7 76 [.t 6, (Ci 0)], Sm 3 7]) (.seq (.seq (.ops [Sm 8 0, Sx 9 (.lit 1 4 [.string ⟨#[]⟩, .string ⟨#[]⟩, .string ⟨#[]⟩, .string ⟨#[]⟩] [(0, 1, .c (.string ⟨#[61, 61]⟩)), (1, 1, .c (.string ⟨#[33, 61]⟩)), (2, 1, .c (.string ⟨#[60]⟩)), (3, 1, .c (.string ⟨#[60, 61]⟩))]), Sc 10 55 [.t 8, .t 9], Sx 11 (.un .not (.t 10))]) (.cond (.t 11) (.seq (.ops [Sm 12 3, Sm 2 12]) .ret) .skip)) (.seq (.ops [Sm 13 0, Sc 14 18 [.t 13], Sx 4 (.alloc [.int .i64 0, .string ⟨#[]⟩, .int .i64 0, .int .i64 0, .int .i64 0]), Su (.store 5 (.t 4) (.t 14))]) (.seq (.ops [Sm 15 0, Sn 16 15, Sf 17 1 16, Sl 18 17, Sb 19 .add (.t 18) (Ci 1), Sn 20 15, Sf 21 1 20, Su (.store 1 (.t 21) (.t 19))]) (.seq (.ops [Sm 22 0, Sc 23 76 [.t 22, (Ci 0)], Sm 5 23]) (.seq (.ops [Sm 24 0, Sf 25 1 4, Sl 26 25, Sf 27 2 4, Sl 28 27, Sm 29 3, Sm 30 5, Sx 31 (.lit 1 2 [.int .i64 0, .int .i64 0] [(0, 1, .t 29), (1, 1, .t 30)]), Sc 32 20 [.t 24, (Ci 19), .t 26, .t 28, .t 31], Sm 2 32]) .ret))))))), [.tmp 2]⟩
def C68 : IFn := ⟨23, (.seq (.ops [Sx 4 (.mov (Ci 0))]) (.seq (.ops [Sm 7 0, Sc 8 33 [.t 7], Sx 5 (.alloc [.int .i64 0, .string ⟨#[]⟩, .int .i64 0, .int .i64 0, .int .i64 0]), Su (.store 5 (.t 5) (.t 8))]) (.seq (.ops [Sm 9 0, ⟨some 10, .call 34 [.t 9, .c (.string ⟨#[61]⟩)], none⟩]) (.seq (.ops [Sm 11 0, Sc 12 66 [.t 11], Sm 6 12]) (.seq (.ops [Sm 13 0, ⟨some 14, .call 34 [.t 13, .c (.string ⟨#[59]⟩)], none⟩]) (.seq (.ops [Sm 15 0, Sf 16 1 5, Sl 17 16, Sf 18 2 5, Sl 19 18, Sm 20 6, Sx 21 (.lit 1 1 [.int .i64 0] [(0, 1, .t 20)]), Sc 22 20 [.t 15, (Ci 5), .t 17, .t 19, .t 21], Sm 4 22]) .ret)))))), [.tmp 4]⟩
def C69 : IFn := ⟨29, (.seq (.ops [Sx 4 (.mov (Ci 0))]) (.seq (.ops [Sm 7 0, Sc 8 66 [.t 7], Sm 5 8]) (.seq (.ops [Sm 9 0, Sc 10 37 [.t 9], Sm 6 10]) (.seq (.seq (.ops [Sm 11 0, ⟨some 12, .call 32 [.t 11, .c (.string ⟨#[101, 108, 115, 101]⟩)], none⟩]) (.cond (.t 12) (.seq (.ops [Sm 13 0, Sm 14 1, Sm 15 5, Sm 16 6, Sm 17 0, Sc 18 37 [.t 17], Sx 19 (.lit 1 3 [.int .i64 0, .int .i64 0, .int .i64 0] [(0, 1, .t 15), (1, 1, .t 16), (2, 1, .t 18)]), ⟨some 20, .call 20 [.t 13, (Ci 7), .c (.string ⟨#[]⟩), .t 14, .t 19], none⟩, Sm 4 20]) .ret) .skip)) (.seq (.ops [Sm 21 0, Sm 22 1, Sm 23 5, Sm 24 6, Sm 25 0, ⟨some 26, .call 20 [.t 25, (Ci 14), .c (.string ⟨#[]⟩), (Ci 0), .c (.slice none 0 0)], none⟩, Sx 27 (.lit 1 3 [.int .i64 0, .int .i64 0, .int .i64 0] [(0, 1, .t 23), (1, 1, .t 24), (2, 1, .t 26)]), ⟨some 28, .call 20 [.t 21, (Ci 7), .c (.string ⟨#[]⟩), .t 22, .t 27], none⟩, Sm 4 28]) .ret))))), [.tmp 4]⟩
def C70 : IFn := ⟨15, (.seq (.ops [Sx 4 (.mov (Ci 0))]) (.seq (.ops [Sm 6 0, Sc 7 66 [.t 6], Sm 5 7]) (.seq (.ops [Sm 8 0, Sm 9 1, Sm 10 5, Sm 11 0, Sc 12 37 [.t 11], Sx 13 (.lit 1 2 [.int .i64 0, .int .i64 0] [(0, 1, .t 10), (1, 1, .t 12)]), ⟨some 14, .call 20 [.t 8, (Ci 8), .c (.string ⟨#[]⟩), .t 9, .t 13], none⟩, Sm 4 14]) .ret))), [.tmp 4]⟩
def C71 : IFn := ⟨8, (.seq (.ops [Sx 4 (.mov (Ci 0))]) (.seq (.ops [Sm 5 0, Sm 6 1, Sc 7 81 [.t 5, (Ci 9), .t 6], Sm 4 7]) .ret)), [.tmp 4]⟩
def C72 : IFn := ⟨8, (.seq (.ops [Sx 4 (.mov (Ci 0))]) (.seq (.ops [Sm 5 0, Sm 6 1, Sc 7 81 [.t 5, (Ci 10), .t 6], Sm 4 7]) .ret)), [.tmp 4]⟩
def C73 : IFn := ⟨8, (.seq (.ops [Sx 4 (.mov (Ci 0))]) (.seq (.ops [Sm 5 0, Sm 6 1, Sc 7 81 [.t 5, (Ci 11), .t 6], Sm 4 7]) .ret)), [.tmp 4]⟩
def C74 : IFn := ⟨16, (.seq (.ops [Sx 4 (.mov (Ci 0))]) (.seq (.ops [Sm 6 0, ⟨some 7, .call 34 [.t 6, .c (.string ⟨#[40]⟩)], none⟩]) (.seq (.ops [Sm 8 0, ⟨some 9, .call 35 [.t 8, .c (.string ⟨#[41]⟩), (.c (.func (.func 36) #[] #[]))], none⟩, Sm 5 9]) (.seq (.ops [Sm 10 0, ⟨some 11, .call 34 [.t 10, .c (.string ⟨#[59]⟩)], none⟩]) (.seq (.ops [Sm 12 0, Sm 13 1, Sm 14 5, ⟨some 15, .call 20 [.t 12, (Ci 13), .c (.string ⟨#[]⟩), .t 13, .t 14], none⟩, Sm 4 15]) .ret))))), [.tmp 4]⟩
def C75 : IFn := ⟨81, (.seq (.ops [Sx 2 (.mov (Ci 0))]) (.seq (.ops [Sm 7 0, Sc 8 18 [.t 7], Sx 3 (.alloc [.int .i64 0, .string ⟨#[]⟩, .int .i64 0, .int .i64 0, .int .i64 0]), Su (.store 5 (.t 3) (.t 8))]) (.seq (.seq (.ops [Sf 9 0 3, Sl 10 9]) (.block 0 (.seq (.ops [Sb 12 .eql (.t 10) (Ci 4), Sm 11 12]) (.cond (.t 11) (.seq (.ops [Sm 13 0, Sn 14 13, Sf 15 1 14, Sl 16 15, Sb 17 .add (.t 16) (Ci 1), Sn 18 13, Sf 19 1 18, Su (.store 1 (.t 19) (.t 17))]) (.seq (.draw [Sm 20 0, Sf 21 4 3, Sl 22 21, Sc 23 82 [.t 22, (Ci 10)], Sf 24 2 3, Sl 25 24, Sc 26 20 [.t 20, (Ci 15), .t 23, .t 25, .c (.slice none 0 0)], Sm 2 26] [[], [], [1], [2, 1], [], [4], [3, 2, 1, 5, 4, 0], [6, 3, 2, 1, 5, 4, 0]]) .ret)) (.seq (.ops [Sb 28 .eql (.t 10) (Ci 1), Sm 27 28]) (.cond (.t 27) (.seq (.ops [Sm 29 0, Sn 30 29, Sf 31 1 30, Sl 32 31, Sb 33 .add (.t 32) (Ci 1), Sn 34 29, Sf 35 1 34, Su (.store 1 (.t 35) (.t 33))]) (.seq (.seq (.ops [Sm 36 0, ⟨some 37, .call 32 [.t 36, .c (.string ⟨#[40]⟩)], none⟩, Sx 38 (.un .not (.t 37))]) (.cond (.t 38) (.seq (.ops [Sm 39 0, Sf 40 1 3, Sl 41 40, Sf 42 2 3, Sl 43 42, Sc 44 20 [.t 39, (Ci 17), .t 41, .t 43, .c (.slice none 0 0)], Sm 2 44]) .ret) .skip)) (.seq (.ops [Sm 45 0, ⟨some 46, .call 35 [.t 45, .c (.string ⟨#[41]⟩), (.c (.func (.func 66) #[] #[]))], none⟩, Sm 4 46]) (.seq (.ops [Sm 47 0, Sf 48 1 3, Sl 49 48, Sf 50 2 3, Sl 51 50, Sm 52 4, Sc 53 20 [.t 47, (Ci 22), .t 49, .t 51, .t 52], Sm 2 53]) .ret)))) (.seq (.ops [Sb 55 .eql (.t 10) (Ci 2), Sm 54 55]) (.cond (.t 54) (.seq (.draw [Sc 56 83 [], Sf 57 1 3, Sl 58 57, Sx 59 (.lookup (.one .str) .nilFunc false (.t 56) (.t 58)), Sm 5 59] [[], [], [1], [2, 1, 0], [3, 2, 1, 0]]) (.seq (.ops [Sm 60 5, Sx 61 (.isnil .fn true (.t 60))]) (.cond (.t 61) (.seq (.ops [Sm 62 0, Sn 63 62, Sf 64 1 63, Sl 65 64, Sb 66 .add (.t 65) (Ci 1), Sn 67 62, Sf 68 1 67, Su (.store 1 (.t 68) (.t 66))]) (.seq (.ops [Sm 69 5, Sm 70 0, Sf 71 2 3, Sl 72 71, ⟨some 73, .callv (.t 69) [.t 70, .t 72], none⟩, Sm 2 73]) .ret)) .skip))) .skip)))))))) (.seq (.ops [Sm 74 0, ⟨some 75, .call 34 [.t 74, .c (.string ⟨#[40]⟩)], none⟩]) (.seq (.ops [Sm 76 0, Sc 77 66 [.t 76], Sm 6 77]) (.seq (.ops [Sm 78 0, ⟨some 79, .call 34 [.t 78, .c (.string ⟨#[41]⟩)], none⟩]) (.seq (.ops [Sm 80 6, Sm 2 80]) .ret))))))), [.tmp 2]⟩
def C76L0 : IC := (.seq (.seq (.ops [Sm 20 0, Sm 21 5, Sm 22 1, Si 23 1 21 22, Sl 24 23, Sc 25 55 [.t 20, .t 24]]) (.cond (.t 25) .skip (.exit 0))) (.block 1 (.seq (.ops [Sm 26 0, Sc 27 18 [.t 26], Sx 7 (.alloc [.int .i64 0, .string ⟨#[]⟩, .int .i64 0, .int .i64 0, .int .i64 0]), Su (.store 5 (.t 7) (.t 27))]) (.seq (.ops [Sm 28 0, Sn 29 28, Sf 30 1 29, Sl 31 30, Sb 32 .add (.t 31) (Ci 1), Sn 33 28, Sf 34 1 33, Su (.store 1 (.t 34) (.t 32))]) (.seq (.ops [Sm 35 0, Sm 36 1, Sb 37 .add (.t 36) (Ci 1), Sc 38 76 [.t 35, .t 37], Sm 8 38]) (.ops [Sm 39 0, Sf 40 1 7, Sl 41 40, Sf 42 2 7, Sl 43 42, Sm 44 6, Sm 45 8, Sx 46 (.lit 1 2 [.int .i64 0, .int .i64 0] [(0, 1, .t 44), (1, 1, .t 45)]), Sc 47 20 [.t 39, (Ci 19), .t 41, .t 43, .t 46], Sm 6 47])))))) def C76 : IFn := ⟨49, (.seq (.ops [Sx 4 (.mov (Ci 0))]) (.seq (.ops [Sc 9 84 [], Sm 5 9]) (.seq (.seq (.ops [Sm 10 1, Sm 11 5, Sx 12 (.len .sl (.t 11)), Sb 13 .eql (.t 10) (.t 12)]) (.cond (.t 13) (.seq (.ops [Sm 14 0, Sc 15 85 [.t 14], Sm 4 15]) .ret) .skip)) (.seq (.ops [Sm 16 0, Sm 17 1, Sb 18 .add (.t 17) (Ci 1), Sc 19 76 [.t 16, .t 18], Sm 6 19]) (.seq (.block 0 (.loop C76L0)) (.seq (.ops [Sm 48 6, Sm 4 48]) .ret)))))), [.tmp 4]⟩
def C81 : IFn := ⟨18, (.seq (.ops [Sx 6 (.mov (Ci 0))]) (.seq (.ops [Sm 8 0, Sc 9 66 [.t 8], Sm 7 9]) (.seq (.ops [Sm 10 0, ⟨some 11, .call 34 [.t 10, .c (.string ⟨#[59]⟩)], none⟩]) (.seq (.ops [Sm 12 0, Sm 13 1, Sm 14 2, Sm 15 7, Sx 16 (.lit 1 1 [.int .i64 0] [(0, 1, .t 15)]), ⟨some 17, .call 20 [.t 12, .t 13, .c (.string ⟨#[]⟩), .t 14, .t 16], none⟩, Sm 6 17]) .ret)))), [.tmp 6]⟩
def C85 : IFn := ⟨30, (.seq (.ops [Sx 2 (.mov (Ci 0))]) (.seq (.ops [Sm 5 0, Sc 6 18 [.t 5], Sx 3 (.alloc [.int .i64 0, .string ⟨#[]⟩, .int .i64 0, .int .i64 0, .int .i64 0]), Su (.store 5 (.t 3) (.t 6))]) (.seq (.seq (.ops [Sm 7 0, Sx 8 (.lit 1 3 [.string ⟨#[]⟩, .string ⟨#[]⟩, .string ⟨#[]⟩] [(0, 1, .c (.string ⟨#[45]⟩)), (1, 1, .c (.string ⟨#[33]⟩)), (2, 1, .c (.string ⟨#[126]⟩))]), Sc 9 55 [.t 7, .t 8], Sx 10 (.un .not (.t 9))]) (.cond (.t 10) (.seq (.ops [Sm 11 0, Sc 12 65 [.t 11], Sm 2 12]) .ret) .skip)) (.seq (.ops [Sm 13 0, Sn 14 13, Sf 15 1 14, Sl 16 15, Sb 17 .add (.t 16) (Ci 1), Sn 18 13, Sf 19 1 18, Su (.store 1 (.t 19) (.t 17))]) (.seq (.ops [Sm 20 0, Sc 21 85 [.t 20], Sm 4 21]) (.seq (.ops [Sm 22 0, Sf 23 1 3, Sl 24 23, Sf 25 2 3, Sl 26 25, Sm 27 4, Sx 28 (.lit 1 1 [.int .i64 0] [(0, 1, .t 27)]), Sc 29 20 [.t 22, (Ci 18), .t 24, .t 26, .t 28], Sm 2 29]) .ret)))))), [.tmp 2]⟩
def C89 : IFn := ⟨8, (.seq (.ops [Sx 4 (.mov (Ci 0))]) (.seq (.ops [Sm 5 0, Sm 6 1, ⟨some 7, .call 20 [.t 5, (Ci 16), .c (.string ⟨#[]⟩), .t 6, .c (.slice none 0 0)], none⟩, Sm 4 7]) .ret)), [.tmp 4]⟩
def C90 : IFn := ⟨8, (.seq (.ops [Sx 4 (.mov (Ci 0))]) (.seq (.ops [Sm 5 0, Sm 6 1, ⟨some 7, .call 20 [.t 5, (Ci 30), .c (.string ⟨#[]⟩), .t 6, .c (.slice none 0 0)], none⟩, Sm 4 7]) .ret)), [.tmp 4]⟩
def C91 : IFn := ⟨14, (.seq (.ops [Sx 4 (.mov (Ci 0))]) (.seq (.ops [Sm 6 0, Sc 7 33 [.t 6], Sx 5 (.alloc [.int .i64 0, .string ⟨#[]⟩, .int .i64 0, .int .i64 0, .int .i64 0]), Su (.store 5 (.t 5) (.t 7))]) (.seq (.ops [Sm 8 0, Sf 9 1 5, Sl 10 9, Sf 11 2 5, Sl 12 11, Sc 13 20 [.t 8, (Ci 23), .t 10, .t 12, .c (.slice none 0 0)], Sm 4 13]) .ret))), [.tmp 4]⟩
def C92 : IFn := ⟨8, (.seq (.ops [Sx 4 (.mov (Ci 0))]) (.seq (.ops [Sm 5 0, Sm 6 1, Sc 7 102 [.t 5, (Ci 24), .t 6], Sm 4 7]) .ret)), [.tmp 4]⟩
def C93 : IFn := ⟨8, (.seq (.ops [Sx 4 (.mov (Ci 0))]) (.seq (.ops [Sm 5 0, Sm 6 1, Sc 7 102 [.t 5, (Ci 25), .t 6], Sm 4 7]) .ret)), [.tmp 4]⟩
def C94 : IFn := ⟨8, (.seq (.ops [Sx 4 (.mov (Ci 0))]) (.seq (.ops [Sm 5 0, Sm 6 1, Sc 7 103 [.t 5, (Ci 26), .t 6], Sm 4 7]) .ret)), [.tmp 4]⟩
def C95 : IFn := ⟨8, (.seq (.ops [Sx 4 (.mov (Ci 0))]) (.seq (.ops [Sm 5 0, Sm 6 1, Sc 7 102 [.t 5, (Ci 27), .t 6], Sm 4 7]) .ret)), [.tmp 4]⟩
def C96 : IFn := ⟨8, (.seq (.ops [Sx 4 (.mov (Ci 0))]) (.seq (.ops [Sm 5 0, Sm 6 1, Sc 7 103 [.t 5, (Ci 28), .t 6], Sm 4 7]) .ret)), [.tmp 4]⟩
def C97 : IFn := ⟨8, (.seq (.ops [Sx 4 (.mov (Ci 0))]) (.seq (.ops [Sm 5 0, Sm 6 1, Sc 7 102 [.t 5, (Ci 29), .t 6], Sm 4 7]) .ret)), [.tmp 4]⟩
def C102 : IFn := ⟨20, (.seq (.ops [Sx 6 (.mov (Ci 0))]) (.seq (.ops [Sm 8 0, ⟨some 9, .call 34 [.t 8, .c (.string ⟨#[40]⟩)], none⟩]) (.seq (.ops [Sm 10 0, Sc 11 66 [.t 10], Sm 7 11]) (.seq (.ops [Sm 12 0, ⟨some 13, .call 34 [.t 12, .c (.string ⟨#[41]⟩)], none⟩]) (.seq (.ops [Sm 14 0, Sm 15 1, Sm 16 2, Sm 17 7, Sx 18 (.lit 1 1 [.int .i64 0] [(0, 1, .t 17)]), ⟨some 19, .call 20 [.t 14, .t 15, .c (.string ⟨#[]⟩), .t 16, .t 18], none⟩, Sm 6 19]) .ret))))), [.tmp 6]⟩
def C103 : IFn := ⟨15, (.seq (.ops [Sx 6 (.mov (Ci 0))]) (.seq (.ops [Sm 7 0, ⟨some 8, .call 34 [.t 7, .c (.string ⟨#[40]⟩)], none⟩]) (.seq (.ops [Sm 9 0, ⟨some 10, .call 34 [.t 9, .c (.string ⟨#[41]⟩)], none⟩]) (.seq (.ops [Sm 11 0, Sm 12 1, Sm 13 2, ⟨some 14, .call 20 [.t 11, .t 12, .c (.string ⟨#[]⟩), .t 13, .c (.slice none 0 0)], none⟩, Sm 6 14]) .ret)))), [.tmp 6]⟩
def C83 : IFn := ⟨3, (.seq (.ops [Sx 0 (.mov (.c (.map none)))]) (.seq (.ops [Sx 1 (.mkmap (.one .str)), Su (.mapset (.one .str) (.t 1) (.c (.string ⟨#[110, 117, 108, 108]⟩)) (.c (.func (.func 89) #[] #[]))), Su (.mapset (.one .str) (.t 1) (.c (.string ⟨#[114, 111, 111, 116]⟩)) (.c (.func (.func 90) #[] #[]))), Su (.mapset (.one .str) (.t 1) (.c (.string ⟨#[110, 101, 119]⟩)) (.c (.func (.func 91) #[] #[]))), Su (.mapset (.one .str) (.t 1) (.c (.string ⟨#[97, 114, 114]⟩)) (.c (.func (.func 92) #[] #[]))), Su (.mapset (.one .str) (.t 1) (.c (.string ⟨#[108, 101, 110]⟩)) (.c (.func (.func 93) #[] #[]))), Su (.mapset (.one .str) (.t 1) (.c (.string ⟨#[105, 110]⟩)) (.c (.func (.func 94) #[] #[]))), Su (.mapset (.one .str) (.t 1) (.c (.string ⟨#[105, 109, 103]⟩)) (.c (.func (.func 95) #[] #[]))), Su (.mapset (.one .str) (.t 1) (.c (.string ⟨#[115, 105, 122, 101]⟩)) (.c (.func (.func 96) #[] #[]))), Su (.mapset (.one .str) (.t 1) (.c (.string ⟨#[112, 114, 111, 109, 111, 116, 101]⟩)) (.c (.func (.func 97) #[] #[]))), Sm 2 1, Sm 0 2]) .ret)), [.tmp 0]⟩
def C64 : IFn := ⟨3, (.seq (.ops [Sx 0 (.mov (.c (.map none)))]) (.seq (.ops [Sx 1 (.mkmap (.one .str)), Su (.mapset (.one .str) (.t 1) (.c (.string ⟨#[108, 101, 116]⟩)) (.c (.func (.func 68) #[] #[]))), Su (.mapset (.one .str) (.t 1) (.c (.string ⟨#[105, 102]⟩)) (.c (.func (.func 69) #[] #[]))), Su (.mapset (.one .str) (.t 1) (.c (.string ⟨#[119, 104, 105, 108, 101]⟩)) (.c (.func (.func 70) #[] #[]))), Su (.mapset (.one .str) (.t 1) (.c (.string ⟨#[114, 101, 116, 117, 114, 110]⟩)) (.c (.func (.func 71) #[] #[]))), Su (.mapset (.one .str) (.t 1) (.c (.string ⟨#[111, 117, 116]⟩)) (.c (.func (.func 72) #[] #[]))), Su (.mapset (.one .str) (.t 1) (.c (.string ⟨#[115, 116, 111, 112]⟩)) (.c (.func (.func 73) #[] #[]))), Su (.mapset (.one .str) (.t 1) (.c (.string ⟨#[109, 101, 114, 103, 101]⟩)) (.c (.func (.func 74) #[] #[]))), Sm 2 1, Sm 0 2]) .ret)), [.tmp 0]⟩
def C84 : IFn := ⟨7, (.seq (.ops [Sx 0 (.mov (.c (.slice none 0 0)))]) (.seq (.ops [Sx 1 (.lit 1 2 [.string ⟨#[]⟩, .string ⟨#[]⟩] [(0, 1, .c (.string ⟨#[124]⟩)), (1, 1, .c (.string ⟨#[94]⟩))]), Sx 2 (.lit 1 1 [.string ⟨#[]⟩] [(0, 1, .c (.string ⟨#[38]⟩))]), Sx 3 (.lit 1 2 [.string ⟨#[]⟩, .string ⟨#[]⟩] [(0, 1, .c (.string ⟨#[60, 60]⟩)), (1, 1, .c (.string ⟨#[62, 62]⟩))]), Sx 4 (.lit 1 2 [.string ⟨#[]⟩, .string ⟨#[]⟩] [(0, 1, .c (.string ⟨#[43]⟩)), (1, 1, .c (.string ⟨#[45]⟩))]), Sx 5 (.lit 1 3 [.string ⟨#[]⟩, .string ⟨#[]⟩, .string ⟨#[]⟩] [(0, 1, .c (.string ⟨#[42]⟩)), (1, 1, .c (.string ⟨#[47]⟩)), (2, 1, .c (.string ⟨#[37]⟩))]), Sx 6 (.lit 1 5 [(.slice none 0 0), (.slice none 0 0), (.slice none 0 0), (.slice none 0 0), (.slice none 0 0)] [(0, 1, .t 1), (1, 1, .t 2), (2, 1, .t 3), (3, 1, .t 4), (4, 1, .t 5)]), Sm 0 6]) .ret)), [.tmp 0]⟩
def C17L0 : IC := (.seq (.ops [Sb 8 .lss (.t 7) (.t 6)]) (.seq (.cond (.t 8) .skip (.exit 0)) (.seq (.block 1 (.seq (.ops [Si 9 5 5 7, Sx 10 (.load (some 5) (.t 9)), Sx 4 (.alloc [.int .i64 0, .string ⟨#[]⟩, .int .i64 0, .int .i64 0, .int .i64 0]), Su (.store 5 (.t 4) (.t 10))]) (.seq (.seq (.ops [Sf 11 0 4, Sl 12 11, Sb 13 .neq (.t 12) (Ci 3)]) (.cond (.t 13) (.exit 1) .skip)) (.seq (.ops [Sf 14 1 4, Sl 15 14]) (.block 2 (.seq (.seq (.ops [Sb 17 .eql (.t 15) (.c (.string ⟨#[40]⟩)), Sm 16 17]) (.cond (.t 16) .skip (.seq (.ops [Sb 18 .eql (.t 15) (.c (.string ⟨#[91]⟩)), Sm 16 18]) (.cond (.t 16) .skip (.ops [Sb 19 .eql (.t 15) (.c (.string ⟨#[123]⟩)), Sm 16 19]))))) (.cond (.t 16) (.seq (.ops [Sm 20 2, Sb 21 .add (.t 20) (Ci 1), Sm 2 21]) (.seq (.ops [Sm 22 2, Sb 23 .gtr (.t 22) (Ci 150)]) (.cond (.t 23) (.ops [Sf 24 2 4, Sl 25 24, Sx 26 (.build [.int .i64 0, .int .i64 0] [(0, 1, .t 25), (1, 1, (Ci 51))]), Sx 27 (.iface 44 (.t 26)), ⟨none, .panic (.t 27), none⟩]) .skip))) (.seq (.seq (.ops [Sb 29 .eql (.t 15) (.c (.string ⟨#[41]⟩)), Sm 28 29]) (.cond (.t 28) .skip (.seq (.ops [Sb 30 .eql (.t 15) (.c (.string ⟨#[93]⟩)), Sm 28 30]) (.cond (.t 28) .skip (.ops [Sb 31 .eql (.t 15) (.c (.string ⟨#[125]⟩)), Sm 28 31]))))) (.cond (.t 28) (.ops [Sm 32 2, Sb 33 .sub (.t 32) (Ci 1), Sx 34 (.minmax true (.t 33) (Ci 0)), Sm 2 34]) .skip))))))))) (.ops [Sb 35 .add (.t 7) (Ci 1), Sm 7 35])))) def C17 : IFn := ⟨36, (.seq (.ops [Sx 2 (.mov (Ci 0))]) (.seq (.ops [Sm 5 0, Sx 6 (.len .sl (.t 5)), Sx 7 (.mov (Ci 0))]) (.block 0 (.loop C17L0)))), []⟩
def C12L0 : IC := (.seq (.seq (.ops [Sm 25 6, Sc 26 18 [.t 25], Sx 27 (.field 0 none (.t 26)), Sb 28 .neq (.t 27) (Ci 0)]) (.cond (.t 28) .skip (.exit 0))) (.block 1 (.ops [Sm 29 7, Sm 30 6, Sc 31 19 [.t 30], Sx 32 (.lit 1 1 [.int .i64 0] [(0, 1, .t 31)]), Sx 33 (.append 1 8 (.t 29) (.t 32)), Sm 7 33]))) def C12 : IFn := ⟨59, (.seq (.ops [Sx 2 (.mov (.c (.slice none 0 0)))]) (.seq (.ops [Sm 9 0, Sc 10 16 [.t 9], Sm 8 10, Se 11 8 0, Se 12 8 1, Se 13 8 2, Sm 3 11, Sm 4 12, Sm 5 13]) (.seq (.seq (.ops [Sm 14 5, Sb 15 .neq (.t 14) (Ci 0)]) (.cond (.t 15) (.ops [Sm 16 4, Sm 17 5, Sx 18 (.build [.int .i64 0, .int .i64 0] [(0, 1, .t 16), (1, 1, .t 17)]), Sx 19 (.iface 44 (.t 18)), ⟨none, .panic (.t 19), none⟩]) .skip)) (.seq (.ops [Sm 20 3, Sc 21 17 [.t 20]]) (.seq (.ops [Sm 22 3, Sx 23 (.build [(.slice none 0 0), .int .i64 0, (.slice none 0 0)] [(0, 1, .t 22)]), Sx 24 (.box (.t 23)), Sm 6 24]) (.seq (.ops [Sx 7 (.mov (.c (.slice none 0 0)))]) (.seq (.block 0 (.loop C12L0)) (.seq (.ops [Sm 34 6, Sm 35 7, ⟨some 36, .call 20 [.t 34, (Ci 1), .c (.string ⟨#[]⟩), (Ci 0), .t 35], none⟩]) (.seq (.block 2 (.seq (.ops [Sm 38 6, Sn 39 38, Sf 40 2 39, Sl 41 40, Sx 42 (.len .sl (.t 41)), Sb 43 .gtr (.t 42) (Ci 50000), Sm 37 43]) (.cond (.t 37) (.ops [Sx 44 (.build [.int .i64 0, .int .i64 0] [(0, 1, (Ci 0)), (1, 1, (Ci 2))]), Sx 45 (.iface 44 (.t 44)), ⟨none, .panic (.t 45), none⟩]) (.seq (.ops [Sm 47 6, Sn 48 47, Sf 49 2 48, Sl 50 49, Sc 51 21 [.t 50], Sb 52 .gtr (.t 51) (Ci 200), Sm 46 52]) (.cond (.t 46) (.ops [Sx 53 (.build [.int .i64 0, .int .i64 0] [(0, 1, (Ci 0)), (1, 1, (Ci 51))]), Sx 54 (.iface 44 (.t 53)), ⟨none, .panic (.t 54), none⟩]) .skip))))) (.seq (.ops [Sm 55 6, Sn 56 55, Sf 57 2 56, Sl 58 57, Sm 2 58]) .ret)))))))))), [.tmp 2]⟩
def C9 : IFn := ⟨8, (.seq (.ops [Sx 2 (.alloc [(.slice none 0 0)]), Sx 3 (.alloc [.int .i64 0]), Sx 4 (.alloc [.int .i64 0])]) (.seq (.ops [Sx 5 (.fn 11 [] [.t 2, .t 3, .t 4]), ⟨none, .defer (.t 5) [], none⟩]) (.seq (.ops [Sm 6 0, Sc 7 12 [.t 6], Su (.store 1 (.t 2) (.t 7)), Su (.store 1 (.t 3) (Ci 0)), Su (.store 1 (.t 4) (Ci 0))]) .ret))), [.cell 2 none, .cell 3 none, .cell 4 none]⟩
def C11 : IFn := ⟨21, (.seq (.ops [Sx 6 (.recover), Sm 3 6]) (.seq (.ops [Sm 7 3, Sx 8 (.isnil .ifc true (.t 7))]) (.cond (.t 8) (.seq (.ops [Sm 10 3, Sx 11 (.assert 44 (.agg #[.int .i64 0, .int .i64 0]) (.t 10)), Sm 9 11, Se 12 9 0, Se 13 9 1, Sx 4 (.alloc [.int .i64 0, .int .i64 0]), Su (.store 2 (.t 4) (.t 12)), Sm 5 13]) (.seq (.seq (.ops [Sm 14 5, Sx 15 (.un .not (.t 14))]) (.cond (.t 15) (.ops [Sm 16 3, ⟨none, .panic (.t 16), none⟩]) .skip)) (.draw [Sf 17 0 4, Sl 18 17, Sf 19 1 4, Sl 20 19, Su (.store 1 (.t 0) (.c (.slice none 0 0))), Su (.store 1 (.t 1) (.t 18)), Su (.store 1 (.t 2) (.t 20))] [[], [0], [], [2], [], [4, 1, 0], [5, 4, 1, 0, 3, 2]]))) .skip))), []⟩
def C63 : IFn := ⟨9, (.seq (.ops [Sx 4 (.mov (.c (.bool false)))]) (.seq (.ops [Sm 5 0, Sm 6 1, Sc 7 8 [.t 5, .t 6], Sb 8 .geq (.t 7) (Ci 0), Sm 4 8]) .ret)), [.tmp 4]⟩
def C8L0 : IC := (.seq (.ops [Sb 9 .lss (.t 8) (.t 7)]) (.seq (.cond (.t 9) .skip (.exit 0)) (.seq (.block 1 (.seq (.ops [Sm 10 8, Sm 5 10]) (.seq (.ops [Sm 11 1, Sm 12 0, Sm 13 5, Si 14 1 12 13, Sl 15 14, Sb 16 .eql (.t 11) (.t 15)]) (.cond (.t 16) (.seq (.ops [Sm 17 5, Sm 4 17]) .ret) .skip)))) (.ops [Sb 18 .add (.t 8) (Ci 1), Sm 8 18])))) def C8 : IFn := ⟨19, (.seq (.ops [Sx 4 (.mov (Ci 0))]) (.seq (.seq (.ops [Sm 6 0, Sx 7 (.len .sl (.t 6)), Sx 8 (.mov (Ci 0))]) (.block 0 (.loop C8L0))) (.seq (.ops [Sx 4 (.mov (Ci (-1)))]) .ret))), [.tmp 4]⟩ end Go.Idl
end

section
namespace Go.Idl
variable {T : Tbl}
def idxOf : List ByteArray → ByteArray → Nat → Option Nat
 | [], _, _ => none
 | x :: l, s, k => if s = x then some k else idxOf l s (k + 1)
def idxI (l : List ByteArray) (s : ByteArray) : Int := match idxOf l s 0 with
 | some k => k
 | none => -1
theorem idxOf_none {s : ByteArray} : ∀ {l : List ByteArray} {k : Nat}, (∀ x ∈ l, s ≠ x) → idxOf l s k = none
 | [], _, _ => rfl
 | x :: l, k, h => by rw [idxOf, if_neg (h x (List.mem_cons_self ..))]; exact idxOf_none fun y hy => h y (List.mem_cons_of_mem _ hy)
theorem idxOf_some {s : ByteArray} : ∀ {l : List ByteArray} {k j : Nat}, (∀ i, i < j → ∀ x, l[i]? = some x → s ≠ x) → l[j]? = some s → idxOf l s k = some (k + j)
 | [], _, _, _, h => by simp at h
 | x :: l, k, 0, _, h => by simp at h; rw [idxOf, if_pos h.symm, Nat.add_zero]
 | x :: l, k, j + 1, h1, h2 => by
  rw [idxOf, if_neg (h1 0 (Nat.succ_pos _) x rfl), idxOf_some (j := j) (fun i hi y hy => h1 (i + 1) (Nat.succ_lt_succ hi) y hy) (by simpa using h2)]
  congr 1; omega
theorem indexS_ok (hT : T.fn 8 = some C8) {h : Heap} {v : Value} {l : List ByteArray} {s : ByteArray} (hv : strsAt h v l) (hl : l.length ≤ 9223372036854775807) :
 Wk T (.fn 8) [v, .string s] h (fun o h' => h' = h ∧ o = .ret (.int .i64 (idxI l s))) := by
 obtain ⟨va, vc, hvl⟩ := hv.len
 refine Wk_fn hT (by simp [C8]) ?_
 simp only [C8]
 refine Wc_seq (Wc_ops (Wo_run (fun _ => by simp only [go_sem, seval]; rfl) ?_))
 show Wc T _ _ _
 refine Wc_seq (Wc_seq (Wc_ops (Wo_run (fun _ => by simp only [go_sem, seval, hvl]; rfl) ?_)))
 show Wc T _ _ _
 refine Wc_range l.length (fun j e h' d => d = some [] ∧ h' = h ∧ ∀ i, i < j → ∀ x, l[i]? = some x → s ≠ x) (by decide) (by simp only [upd, dstUpd, reduceIte, Nat.reduceEqDiff]) (by simp only [upd, dstUpd, reduceIte, Nat.reduceEqDiff]) hl (by decide) ⟨rfl, rfl, fun i hi => by omega⟩ ?_ ?_
 ·rintro j e h' d hj ⟨rfl, rfl, hne⟩ hfr h8 h7
  obtain ⟨x, hx⟩ : ∃ x, l[j]? = some x := ⟨_, List.getElem?_eq_getElem hj⟩
  obtain ⟨b, c, o, z, hvb, hb, hg, hcell⟩ := strsAt.load hv hx
  have e0 : e 0 = v := ((hfr 0 (by decide)).trans (by first | rfl | assumption | (symm; assumption)))
  have e1 : e 1 = .string s := ((hfr 1 (by decide)).trans (by first | rfl | assumption | (symm; assumption)))
  refine Wc_seq (Wc_ops (Wo_run (fun _ => by simp only [go_sem, seval, h8]; rfl) ?_))
  show Wc T _ _ _
  refine Wc_seq (Wc_ops (Wo_run (fun _ => by simp only [go_sem, seval, e0, e1, hvb, idx_ok hj, hg, hcell]; rfl) ?_))
  show Wc T _ _ _
  refine Wc_cond (decide (s = x)) (by simp [ev, upd, dstUpd]) (fun hd => ?_) (fun hd => Wc_skip ?_)
  ·have hsx : s = x := by simpa using hd
   subst hsx
   refine Wc_seq (Wc_ops (Wo_run (fun _ => by simp only [go_sem, seval, h8]; rfl) ?_))
   refine Wc_ret ⟨.inr rfl, rfl, [.int .i64 j], by simp only [resAll, resV, upd, dstUpd, reduceIte, Nat.reduceEqDiff], rfl, ?_⟩
   simp only [tup, idxI, idxOf_some hne hx, Nat.zero_add]
  ·refine ⟨rfl, rfl, fun i hi y hy => ?_⟩
   rcases Nat.lt_or_eq_of_le (Nat.le_of_lt_succ hi) with h1 | h1
   ·exact hne i h1 y hy
   ·subst h1; rw [hx] at hy; cases hy; simpa using hd
 ·rintro e h' d ⟨rfl, rfl, hne⟩ hfr h8
  show Wc T _ _ _
  refine Wc_seq (Wc_ops (Wo_run (fun _ => by simp only [go_sem, seval]; rfl) ?_))
  refine Wc_ret ⟨.inr rfl, rfl, [.int .i64 (-1)], by simp only [resAll, resV, upd, dstUpd, reduceIte, Nat.reduceEqDiff], rfl, ?_⟩
  have : idxOf l s 0 = none := idxOf_none fun x hx => by
   obtain ⟨i, hi⟩ := List.getElem?_of_mem hx
   exact hne i (List.getElem?_eq_some_iff.1 hi).1 x hi
  simp only [tup, idxI, this]
def hasL (l : List ByteArray) (s : ByteArray) : Bool := l.any fun x => decide (s = x)
theorem idxOf_ge {s : ByteArray} : ∀ {l : List ByteArray} {k : Nat}, (idxOf l s k).isSome = hasL l s
 | [], k => rfl
 | x :: l, k => by
  rw [idxOf, hasL, List.any_cons]
  by_cases h : s = x
  ·rw [if_pos h, decide_eq_true h]; rfl
  ·rw [if_neg h, decide_eq_false h, Bool.false_or]; exact idxOf_ge
theorem contains_ok (hT : T.fn 63 = some C63) (hi : T.fn 8 = some C8) {h : Heap} {v : Value} {l : List ByteArray} {s : ByteArray} (hv : strsAt h v l) (hl : l.length < 9223372036854775807) :
 Wk T (.fn 63) [v, .string s] h (fun o h' => h' = h ∧ o = .ret (.bool (hasL l s))) := by
 refine Wk_fn hT (by simp [C63]) ?_
 simp only [C63]
 refine Wc_seq (Wc_ops (Wo_run (fun _ => by simp only [go_sem, seval]; rfl) ?_))
 show Wc T _ _ _
 refine Wc_seq (Wc_ops (Wo_pre 2 (fun _ => by simp only [go_sem, seval]; rfl) ?_))
 refine Wo_call (Wk_pure (indexS_ok hi hv (Nat.le_of_lt hl)) ?_)
 have hd : decide ((0 : Int) ≤ idxI l s) = hasL l s := by
  have := idxOf_ge (s := s) (l := l) (k := 0)
  rw [← this, idxI]
  cases idxOf l s 0 with
  | none => rfl
  | some k => simp
 refine (Wo_run (fun _ => by simp only [go_sem, seval]; rfl) ?_)
 refine Wc_ret ⟨.inr rfl, rfl, [.bool (decide ((0 : Int) ≤ idxI l s))], by simp only [resAll, resV, upd, dstUpd, reduceIte, Nat.reduceEqDiff], rfl, ?_⟩
 rw [hd]; rfl
end Go.Idl
end

section
namespace Go.Idl
variable {T : Tbl} {X : Nat → Prop}
structure PN where
 kind : Int
 text : ByteArray
 kids : List Int
 pos : Int
structure PSt where
 i : Nat
 l : List PN
inductive PR (α : Type) where
 | ok (a : α) (s : PSt)
 | err (at' : Nat) (e : Int)
def isB (t : Tok) (l : List ByteArray) : Bool := (t.kind == 3 || t.kind == 2) && hasL l t.text
def takeS (ts : List Tok) (s : ByteArray) (st : PSt) : Option (Bool × PSt) := ts[st.i]?.map fun t => if isB t [s] then (true, { st with i := st.i + 1 }) else (false, st)
def wantS (ts : List Tok) (s : ByteArray) (st : PSt) : Option (PR Unit) := ts[st.i]?.map fun t => if isB t [s] then .ok () { st with i := st.i + 1 } else .err t.frm 60
def nameS (ts : List Tok) (st : PSt) : Option (PR Tok) := ts[st.i]?.map fun t => if t.kind = 1 then .ok t { st with i := st.i + 1 } else .err t.frm 60
def nodeS (kind : Int) (text : ByteArray) (pos : Int) (kids : List Int) (st : PSt) : Option (Nat × PSt) := if st.l.length < 1000000000 then some (st.l.length, { st with l := st.l ++ [⟨kind, text, kids, pos⟩] }) else none
def kidsAt (X : Nat → Prop) (h : Heap) (kv : Value) (kids : List Int) : Prop := (kv = .slice none 0 0 ∧ kids = []) ∨ ∃ b c, kv = .slice (some ⟨b, 0, none⟩) kids.length c ∧ b < h.next ∧ h.get b = some (.cells (ints64 kids) true 1) ∧ ¬ X b
def Nd.pn (x : Nd) : PN := ⟨x.kind, x.text, x.kids, x.pos⟩
theorem nd_len (x : Nd) : x.cells.length = 4 := rfl
structure PFr (pb : Nat) (h h' : Heap) : Prop where
 next : h.next ≤ h'.next
 get' : ∀ b, b < h.next → b ≠ pb → (pb < b → ∀ cs, h.get b ≠ some (.cells cs true 4)) → h'.get b = h.get b
theorem PFr.get {pb : Nat} {h h' : Heap} (x : PFr pb h h') (b : Nat) (hb : b < h.next) (hp : b ≠ pb) (hn : ∀ cs, h.get b ≠ some (.cells cs true 4)) : h'.get b = h.get b := x.get' b hb hp fun _ => hn
theorem PFr.refl (pb : Nat) (h : Heap) : PFr pb h h := ⟨Nat.le_refl _, fun _ _ _ _ => rfl⟩
theorem PFr.trans {pb : Nat} {a b c : Heap} (x : PFr pb a b) (y : PFr pb b c) : PFr pb a c := ⟨Nat.le_trans x.next y.next, fun k hk hp hn => by
 rw [y.get' k (Nat.lt_of_lt_of_le hk x.next) hp (fun hl cs => by rw [x.get' k hk hp hn]; exact hn hl cs), x.get' k hk hp hn]⟩
theorem Kept.pfr {a b : Heap} (x : Kept a b) (pb : Nat) : PFr pb a b := ⟨x.next, fun k hk _ _ => x.get k hk⟩
theorem kidsAt.keep {pb : Nat} {h h' : Heap} {kv : Value} {kids : List Int} (k : kidsAt X h kv kids) (f : PFr pb h h') (hp : ∀ cs, h.get pb ≠ some (.cells cs true 1)) : kidsAt X h' kv kids := by
 rcases k with k | ⟨b, c, h1, h2, h3, h4⟩
 ·exact .inl k
 ·refine .inr ⟨b, c, h1, Nat.lt_of_lt_of_le h2 f.next, ?_, h4⟩
  rw [f.get b h2 (fun e => by subst e; exact hp _ h3) (fun cs e => by rw [h3] at e; simp at e)]; exact h3
structure Par (pb : Nat) (ts : List Tok) (X : Nat → Prop) (h : Heap) (st : PSt) : Prop where
 lt : pb < h.next
 few : ts.length < 4611686018427387904
 rep : ∃ tv lv nds, h.get pb = some (.cells [tv, .int .i64 st.i, lv] true 0) ∧ ownL Tok.cells 5 0 h tv ts ∧ ownL Nd.cells 4 pb h lv nds ∧ (∀ x ∈ nds, kidsAt X h x.kv x.kids) ∧ nds.map Nd.pn = st.l
theorem Par.no1 {pb : Nat} {ts : List Tok} {h : Heap} {st : PSt} (p : Par pb ts X h st) : ∀ cs, h.get pb ≠ some (.cells cs true 1) := by
 obtain ⟨tv, lv, nds, h1, _⟩ := p.rep
 intro cs e
 rw [h1] at e; simp at e
theorem Par.keep {pb : Nat} {ts : List Tok} {h h' : Heap} {st : PSt} (p : Par pb ts X h st) (k : Kept h h') : Par pb ts X h' st := by
 obtain ⟨tv, lv, nds, h1, h2, h3, h4, h5⟩ := p.rep
 exact ⟨Nat.lt_of_lt_of_le p.lt k.next, p.few, tv, lv, nds, by rw [k.get _ p.lt]; exact h1, h2.kept k, h3.kept k, fun x hx => (h4 x hx).keep (k.pfr pb) p.no1, h5⟩
theorem Par.go {pb : Nat} {ts : List Tok} {h : Heap} {st : PSt} {tv lv : Value} {i : Nat} (p : Par pb ts X h st) (hg : h.get pb = some (.cells [tv, .int .i64 st.i, lv] true 0)) : Par pb ts X (h.set pb (.cells [tv, .int .i64 i, lv] true 0)) { st with i := i } ∧ PFr pb h (h.set pb (.cells [tv, .int .i64 i, lv] true 0)) := by
 obtain ⟨tv', lv', nds, h1, h2, h3, h4, h5⟩ := p.rep
 rw [hg] at h1
 simp only [Option.some.injEq, Blk.cells.injEq, List.cons.injEq, and_true, true_and] at h1
 obtain ⟨rfl, rfl⟩ := h1
 have fr : PFr pb h (h.set pb (.cells [tv, .int .i64 i, lv] true 0)) := ⟨Nat.le_refl _, fun b hb hp _ => set_get_ne' _ _ hp⟩
 have other : ∀ (w : Nat) (b : Nat) (cs : List Value), w ≠ 0 → h.get b = some (.cells cs true w) → (h.set pb (.cells [tv, .int .i64 i, lv] true 0)).get b = h.get b := fun w b cs hw hb => set_get_ne' _ _ (fun e => by
  subst e; rw [hg] at hb; simp only [Option.some.injEq, Blk.cells.injEq] at hb; exact hw hb.2.2.symm)
 refine ⟨⟨p.lt, p.few, tv, lv, nds, set_get' _ _ _, ?_, ?_, fun x hx => (h4 x hx).keep fr p.no1, h5⟩, fr⟩
 ·rcases h2 with h2 | ⟨b, e1, e2, e3, e4⟩
  ·exact .inl h2
  ·exact .inr ⟨b, e1, e2, e3, by rw [other 5 b _ (by decide) e4]; exact e4⟩
 ·rcases h3 with h3 | ⟨b, e1, e2, e3, e4⟩
  ·exact .inl h3
  ·exact .inr ⟨b, e1, e2, e3, by rw [other 4 b _ (by decide) e4]; exact e4⟩
def PPost {α : Type} (pb : Nat) (ts : List Tok) (X : Nat → Prop) (h : Heap) (f : α → Out) : PR α → Out → Heap → Prop
 | .ok a st, o, h' => PFr pb h h' ∧ o = f a ∧ Par pb ts X h' st
 | .err at' e, o, h' => PFr pb h h' ∧ o = .pan (.iface 44 (.agg #[.int .i64 at', .int .i64 e]))
structure Par1 (T : Tbl) : Prop where
 now : T.fn 18 = some C18
 fail : T.fn 56 = some C56
 is : T.fn 55 = some C55
 take : T.fn 32 = some C32
 want : T.fn 34 = some C34
 name : T.fn 33 = some C33
 node : T.fn 20 = some C20
 contains : T.fn 63 = some C63
 index : T.fn 8 = some C8
theorem now_ok (F : Par1 T) {pb : Nat} {ts : List Tok} {h : Heap} {st : PSt} {t : Tok} (p : Par pb ts X h st) (ht : ts[st.i]? = some t) : Wk T (.fn 18) [ptr pb 0] h (fun o h' => Kept h h' ∧ o = .ret (.agg t.cells.toArray)) := by
 obtain ⟨tv, lv, nds, hg, htv, _⟩ := p.rep
 obtain ⟨b, c, rfl, hb0, hb, hgb, hcell⟩ := htv.load tok_len ht
 have hi := (List.getElem?_eq_some_iff.1 ht).1
 refine Wk_fn F.now (by simp [C18]) ?_
 simp only [C18]
 refine Wc_seq (Wc_ops (Wo_op (v := ptr h.next 0) (h' := h.new (.cells z5 true 0)) rfl (Wo_nil ?_)))
 show Wc T _ _ _
 have hg1 : (h.new (.cells z5 true 0)).get pb = some (.cells [.slice (some ⟨b, 0, none⟩) ts.length c, .int .i64 st.i, lv] true 0) := by rw [new_get_ne' _ _ (by have := p.lt; omega)]; exact hg
 have hc1 : (h.new (.cells z5 true 0)).cells b (st.i * 5) 5 = some t.cells := by
  simp only [Heap.cells] at hcell ⊢
  rw [new_get_ne' _ _ (by omega)]; exact hcell
 refine Wc_seq (Wc_draw_still (by decide) ?_)
 refine (Wo_pre 10 (fun _ => by simp only [go_sem, seval, hg1, idx_ok hi, hc1]; rfl) ?_)
 refine Wo_store_new (cs := t.cells) (h := h) (by first | rfl | assumption) (by first | rfl | assumption) rfl rfl fun h2 n2 => Wo_nil ⟨rfl, ?_⟩
 have hcc : h2.cells h.next 0 5 = some t.cells := cells_all n2.get rfl
 exact Wc_ret ⟨.inr rfl, rfl, [.agg t.cells.toArray], by simp only [resAll, resV, upd, dstUpd, reduceIte, Nat.reduceEqDiff, ptr, hcc, Option.map_some], n2.kept, rfl⟩
theorem fail_ok (F : Par1 T) {pb : Nat} {ts : List Tok} {h : Heap} {st : PSt} {t : Tok} (p : Par pb ts X h st) (ht : ts[st.i]? = some t) : Wk T (.fn 56) [ptr pb 0] h (fun o h' => Kept h h' ∧ o = .pan (.iface 44 (.agg #[.int .i64 t.frm, .int .i64 60]))) := by
 refine Wk_fn2 F.fail (by simp [C56]) ?_
 simp only [C56]
 refine Wc_ops (Wo_pre 1 (fun _ => by simp only [go_sem, seval]; rfl) ?_)
 refine Wo_call (Wk_kept (now_ok F p ht) fun h2 k2 => ?_)
 refine Wo_op (v := .int .i64 t.frm) (h' := h2) rfl ?_
 refine Wo_op (v := .agg #[.int .i64 t.frm, .int .i64 60]) (h' := h2) (by rfl) ?_
 refine Wo_op (v := .iface 44 (.agg #[.int .i64 t.frm, .int .i64 60])) (h' := h2) (by rfl) ?_
 refine Wo_panic (t := 44) (v := .agg #[.int .i64 t.frm, .int .i64 60]) (by first | rfl | assumption) ?_
 exact ⟨rfl, k2, rfl⟩
theorem is_ok (F : Par1 T) {pb : Nat} {ts : List Tok} {h : Heap} {st : PSt} {t : Tok} {v : Value} {l : List ByteArray} (p : Par pb ts X h st) (ht : ts[st.i]? = some t) (hv : strsAt h v l) (hl : l.length < 1000) : Wk T (.fn 55) [ptr pb 0, v] h (fun o h' => Kept h h' ∧ o = .ret (.bool (isB t l))) := by
 refine Wk_fn F.is (by simp [C55]) ?_
 simp only [C55]
 refine Wc_seq (Wc_ops (Wo_run (fun _ => by simp only [go_sem, seval]; rfl) ?_))
 show Wc T _ _ _
 refine Wc_seq (Wc_ops (Wo_pre 1 (fun _ => by simp only [go_sem, seval]; rfl) ?_))
 refine Wo_call (Wk_kept (now_ok F p ht) fun h2 k2 => ?_)
 refine Wo_op (v := ptr h2.next 0) (h' := h2.new (.cells z5 true 0)) rfl ?_
 refine Wo_store_new (cs := t.cells) (h := h2) (by first | rfl | assumption) (by first | rfl | assumption) rfl rfl fun h3 n3 => Wo_nil ?_
 show Wc T _ _ _
 have hg3 := n3.get
 have k3 := k2.trans n3.kept
 have fin : ∀ (e : Env) (b : Bool), e 4 = .bool b → isB t l = b → (Ex.ret = .normal ∨ Ex.ret = .ret) ∧ some ([] : List Dfr) = some [] ∧ ∃ vs, resAll e h3 [.tmp 4] = some vs ∧ Kept h h3 ∧ Out.ret (tup vs) = .ret (.bool (isB t l)) := fun e b h4 hb => ⟨.inr rfl, rfl, [.bool b], by simp only [resAll, resV, h4], k3, by rw [hb]; rfl⟩
 cases x3 : (t.kind == 3)
 ·cases x2 : (t.kind == 2)
  ·refine Wc_seq (Wc_ops (Wo_run (fun _ => by simp only [go_sem, seval, hg3, Tok.cells, x3, x2]; rfl) ?_))
   exact Wc_ret (fin _ false (by first | rfl | assumption) (by rw [isB, x3, x2]; rfl))
  ·refine Wc_seq (Wc_ops (Wo_pre 12 (fun _ => by simp only [go_sem, seval, hg3, Tok.cells, x3, x2]; rfl) ?_))
   refine Wo_take (by simp only [upd, dstUpd, reduceIte, Nat.reduceEqDiff, gval_bool]; rfl) (Wo_call (Wk_pure (contains_ok F.contains F.index (hv.keep k3) (by omega)) ?_))
   refine (Wo_run (fun _ => by simp only [go_sem, seval]; rfl) ?_)
   exact Wc_ret (fin _ (hasL l t.text) (by first | rfl | assumption) (by rw [isB, x3, x2]; rfl))
 ·refine Wc_seq (Wc_ops (Wo_pre 12 (fun _ => by simp only [go_sem, seval, hg3, Tok.cells, x3]; rfl) ?_))
  refine Wo_take (by simp only [upd, dstUpd, reduceIte, Nat.reduceEqDiff, gval_bool]; rfl) (Wo_call (Wk_pure (contains_ok F.contains F.index (hv.keep k3) (by omega)) ?_))
  refine (Wo_run (fun _ => by simp only [go_sem, seval]; rfl) ?_)
  exact Wc_ret (fin _ (hasL l t.text) (by first | rfl | assumption) (by rw [isB, x3]; rfl))
end Go.Idl
end

section
namespace Go.Idl
variable {T : Tbl} {X : Nat → Prop}
theorem Par.other {pb : Nat} {ts : List Tok} {h : Heap} {st : PSt} (p : Par pb ts X h st) {b : Nat} {cs : List Value} (hb : b ≠ pb) (hg : h.get b = some (.cells cs true 0)) (o : Blk) : Par pb ts X (h.set b o) st := by
 obtain ⟨tv, lv, nds, h1, h2, h3, h4, h5⟩ := p.rep
 have other : ∀ (w : Nat) (k : Nat) (cs : List Value), w ≠ 0 → h.get k = some (.cells cs true w) → (h.set b o).get k = h.get k := fun w k cs hw hk => set_get_ne' _ _ (fun e => by
  subst e; rw [hg] at hk; simp only [Option.some.injEq, Blk.cells.injEq] at hk; exact hw hk.2.2.symm)
 refine ⟨p.lt, p.few, tv, lv, nds, by rw [set_get_ne' _ _ (Ne.symm hb)]; exact h1, ?_, ?_, fun x hx => ?_, h5⟩
 ·rcases h2 with h2 | ⟨k, e1, e2, e3, e4⟩
  ·exact .inl h2
  ·exact .inr ⟨k, e1, e2, e3, by rw [other 5 k _ (by decide) e4]; exact e4⟩
 ·rcases h3 with h3 | ⟨k, e1, e2, e3, e4⟩
  ·exact .inl h3
  ·exact .inr ⟨k, e1, e2, e3, by rw [other 4 k _ (by decide) e4]; exact e4⟩
 ·rcases h4 x hx with k | ⟨k, c, e1, e2, e3, e4⟩
  ·exact .inl k
  ·exact .inr ⟨k, c, e1, e2, by rw [other 1 k _ (by decide) e3]; exact e3, e4⟩
theorem pstr (s : ByteArray) {h h1 : Heap} (n1 : New1 h h1 (.cells [.string s] true 1)) : strsAt h1 (.slice (some ⟨h.next, 0, none⟩) 1 1) [s] :=
 ⟨.inr ⟨h.next, 1, rfl, by rw [n1.next]; exact Nat.lt_succ_self _, .inr ⟨true, 1, n1.get⟩⟩, fun _ _ => trivial⟩
theorem take_ok (F : Par1 T) {pb : Nat} {ts : List Tok} {h : Heap} {st st' : PSt} {s : ByteArray} {b : Bool} (p : Par pb ts X h st) (hs : takeS ts s st = some (b, st')) : Wk T (.fn 32) [ptr pb 0, .string s] h (fun o h' => PFr pb h h' ∧ Par pb ts X h' st' ∧ o = .ret (.bool b)) := by
 rw [takeS] at hs
 obtain ⟨t, ht, hs⟩ := Option.map_eq_some_iff.1 hs
 have hi := (List.getElem?_eq_some_iff.1 ht).1
 have hfew := p.few
 refine Wk_fn F.take (by simp [C32]) ?_
 simp only [C32]
 refine Wc_seq (Wc_ops (Wo_run (fun _ => by simp only [go_sem, seval]; rfl) ?_))
 show Wc T _ _ _
 refine Wc_seq (Wc_ops (Wo_pre 2 (fun _ => by simp only [go_sem, seval]; rfl) ?_))
 refine Wo_new (v := .slice (some ⟨h.next, 0, none⟩) 1 1) (B := .cells [.string s] true 1) (by rfl) fun h1 n1 => ?_
 refine Wo_call (Wk_kept (is_ok F (p.keep n1.kept) ht (pstr s n1) (by simp)) fun h2 k2 => ?_)
 refine (Wo_run (fun _ => by simp only [go_sem, seval]; rfl) ?_)
 show Wc T _ _ _
 have k12 := n1.kept.trans k2
 have p2 := p.keep k12
 obtain ⟨tv, lv, nds, hg, _⟩ := p2.rep
 have hw : IntKind.i64.wrap (((st.i : Nat) : Int) + 1) = ((st.i + 1 : Nat) : Int) := by rw [wrap64] <;> omega
 cases hb : isB t [s]
 ·rw [hb] at hs
  cases hs
  refine Wc_seq (Wc_seq (Wc_ops (Wo_run (fun _ => by simp only [go_sem, seval, hb]; rfl) ?_)))
  show Wc T _ _ _
  refine Wc_cond false (by first | rfl | assumption) nofun (fun _ => Wc_skip ?_)
  show Wc T _ _ _
  refine Wc_seq (Wc_ops (Wo_run (fun _ => by simp only [go_sem, seval]; rfl) ?_))
  exact Wc_ret ⟨.inr rfl, rfl, [.bool false], by simp only [resAll, resV, upd, dstUpd, reduceIte, Nat.reduceEqDiff], k12.pfr pb, p2, rfl⟩
 ·rw [hb] at hs
  cases hs
  have go := p2.go (i := st.i + 1) hg
  refine Wc_seq (Wc_seq (Wc_ops (Wo_run (fun _ => by simp only [go_sem, seval, hb]; rfl) ?_)))
  show Wc T _ _ _
  refine Wc_cond true (by first | rfl | assumption) (fun _ => ?_) nofun
  refine Wc_ops (Wo_pre 7 (fun _ => by simp only [go_sem, seval, hg, hw]; rfl) ?_)
  refine Wo_op (iop_store_at (k := 1) (v := .int .i64 ((st.i + 1 : Nat) : Int)) (by first | rfl | assumption) (by simp only [ev, upd, dstUpd, reduceIte, Nat.reduceEqDiff]; rfl) hg (by simp)) (Wo_nil ?_)
  show Wc T _ _ _
  refine Wc_seq (Wc_ops (Wo_run (fun _ => by simp only [go_sem, seval]; rfl) ?_))
  exact Wc_ret ⟨.inr rfl, rfl, [.bool true], by simp only [resAll, resV, upd, dstUpd, reduceIte, Nat.reduceEqDiff], (k12.pfr pb).trans go.2, go.1, rfl⟩
theorem want_ok (F : Par1 T) {pb : Nat} {ts : List Tok} {h : Heap} {st : PSt} {s : ByteArray} {r : PR Unit} (p : Par pb ts X h st) (hs : wantS ts s st = some r) : Wk T (.fn 34) [ptr pb 0, .string s] h (fun o h' => PPost pb ts X h (fun _ => .ret (tup [])) r o h') := by
 rw [wantS] at hs
 obtain ⟨t, ht, hs⟩ := Option.map_eq_some_iff.1 hs
 have htake : takeS ts s st = some (if isB t [s] then (true, { st with i := st.i + 1 }) else (false, st)) := by rw [takeS, ht]; rfl
 refine Wk_fn2 F.want (by simp [C34]) ?_
 simp only [C34]
 refine Wc_seq (Wc_ops (Wo_pre 2 (fun _ => by simp only [go_sem, seval]; rfl) ?_))
 cases hb : isB t [s]
 ·rw [hb] at htake hs
  refine Wo_call ((take_ok F p htake).mono ?_)
  rintro o h2 ⟨f2, p2, rfl⟩
  show Wo T _ _ _
  refine (Wo_run (fun _ => by simp only [go_sem, seval]; rfl) ?_)
  show Wc T _ _ _
  refine Wc_cond true (by first | rfl | assumption) (fun _ => ?_) nofun
  refine Wc_ops (Wo_pre 1 (fun _ => by simp only [go_sem, seval]; rfl) ?_)
  refine Wo_call ((fail_ok F p2 ht).mono ?_)
  rintro o h3 ⟨k3, rfl⟩
  show To _ _ _
  subst hs
  exact ⟨rfl, f2.trans (k3.pfr pb), rfl⟩
 ·rw [hb] at htake hs
  refine Wo_call ((take_ok F p htake).mono ?_)
  rintro o h2 ⟨f2, p2, rfl⟩
  show Wo T _ _ _
  refine (Wo_run (fun _ => by simp only [go_sem, seval]; rfl) ?_)
  show Wc T _ _ _
  refine Wc_cond false (by first | rfl | assumption) nofun (fun _ => Wc_skip ?_)
  subst hs
  exact ⟨rfl, [], rfl, f2, rfl, p2⟩
theorem name_ok (F : Par1 T) {pb : Nat} {ts : List Tok} {h : Heap} {st : PSt} {r : PR Tok} (p : Par pb ts X h st) (hs : nameS ts st = some r) : Wk T (.fn 33) [ptr pb 0] h (fun o h' => PPost pb ts X h (fun t => .ret (.agg t.cells.toArray)) r o h') := by
 rw [nameS] at hs
 obtain ⟨t, ht, hs⟩ := Option.map_eq_some_iff.1 hs
 have hi := (List.getElem?_eq_some_iff.1 ht).1
 have hfew := p.few
 refine Wk_fn2 F.name (by simp [C33]) ?_
 simp only [C33]
 refine Wc_seq (Wc_ops (Wo_alloc fun h1 n1 => Wo_nil ?_))
 show Wc T _ _ _
 have p1 := p.keep n1.kept
 refine Wc_seq (Wc_ops (Wo_pre 1 (fun _ => by simp only [go_sem, seval]; rfl) ?_))
 refine Wo_call (Wk_kept (now_ok F p1 ht) fun h2 k2 => ?_)
 refine Wo_op (v := ptr h2.next 0) (h' := h2.new (.cells z5 true 0)) rfl ?_
 refine Wo_store_new (cs := t.cells) (h := h2) (by first | rfl | assumption) (by first | rfl | assumption) rfl rfl fun h3 n3 => Wo_nil ?_
 show Wc T _ _ _
 have hg3 := n3.get
 have k13 := k2.trans n3.kept
 have p3 := p1.keep k13
 have hres3 : h3.get h.next = some (.cells z5 true 0) := by rw [k13.get _ (by rw [n1.next]; exact Nat.lt_succ_self _)]; exact n1.get
 have hne : h.next ≠ pb := by have := p.lt; omega
 by_cases hk : t.kind = 1
 case neg =>
  have hb : (t.kind != 1) = true := by simp [hk]
  rw [if_neg hk] at hs
  subst hs
  refine Wc_seq (Wc_seq (Wc_ops (Wo_run (fun _ => by simp only [go_sem, seval, hg3, Tok.cells, hb]; rfl) ?_)))
  show Wc T _ _ _
  refine Wc_cond true (by first | rfl | assumption) (fun _ => ?_) nofun
  refine Wc_ops (Wo_pre 1 (fun _ => by simp only [go_sem, seval]; rfl) ?_)
  refine Wo_call ((fail_ok F p3 ht).mono ?_)
  rintro o h4 ⟨k4, rfl⟩
  show To _ _ _
  exact ⟨rfl, ((n1.kept.trans k13).trans k4).pfr pb, rfl⟩
 have hb : (t.kind != 1) = false := by simp [hk]
 rw [if_pos hk] at hs
 subst hs
 obtain ⟨tv, lv, nds, hg, _⟩ := p3.rep
 have hw : IntKind.i64.wrap (((st.i : Nat) : Int) + 1) = ((st.i + 1 : Nat) : Int) := by rw [wrap64] <;> omega
 have go := p3.go (i := st.i + 1) hg
 refine Wc_seq (Wc_seq (Wc_ops (Wo_run (fun _ => by simp only [go_sem, seval, hg3, Tok.cells, hb]; rfl) ?_)))
 show Wc T _ _ _
 refine Wc_cond false (by first | rfl | assumption) nofun (fun _ => Wc_skip ?_)
 show Wc T _ _ _
 refine Wc_seq (Wc_ops (Wo_pre 7 (fun _ => by simp only [go_sem, seval, hg, hw]; rfl) ?_))
 refine Wo_op (iop_store_at (k := 1) (v := .int .i64 ((st.i + 1 : Nat) : Int)) (by first | rfl | assumption) (by simp only [ev, upd, dstUpd, reduceIte, Nat.reduceEqDiff]; rfl) hg (by simp)) (Wo_nil ?_)
 show Wc T _ _ _
 have hpb : pb < h2.next := by have := k2.next; have := p1.lt; omega
 have hset : ([tv, Value.int .i64 st.i, lv].set 1 (.int .i64 ((st.i + 1 : Nat) : Int))) = [tv, .int .i64 ((st.i + 1 : Nat) : Int), lv] := rfl
 rw [hset]
 obtain ⟨pgo, fgo⟩ := go
 have hres4 : (h3.set pb (.cells [tv, .int .i64 ((st.i + 1 : Nat) : Int), lv] true 0)).get h.next = some (.cells z5 true 0) := by rw [set_get_ne' _ _ hne]; exact hres3
 have hct : (h3.set pb (.cells [tv, .int .i64 ((st.i + 1 : Nat) : Int), lv] true 0)).cells h2.next 0 5 = some t.cells := cells_all (by rw [set_get_ne' _ _ (by omega)]; exact hg3) rfl
 generalize h3.set pb (.cells [tv, .int .i64 ((st.i + 1 : Nat) : Int), lv] true 0) = h4 at pgo fgo hres4 hct ⊢
 refine Wc_seq (Wc_ops (Wo_pre 1 (fun _ => by simp only [go_sem, seval, hct]; rfl) ?_))
 refine Wo_op (iop_store (b := h.next) (esz := 0) (cs := t.cells) (z := z5) (by first | rfl | assumption) (by first | rfl | assumption) rfl hres4 rfl) (Wo_nil ?_)
 have hcc : (h4.set h.next (.cells t.cells true 0)).cells h.next 0 5 = some t.cells := cells_all (set_get' _ _ _) rfl
 have hfr : PFr pb h (h4.set h.next (.cells t.cells true 0)) := by
  have f4 : PFr pb h h4 := ((n1.kept.trans k13).pfr pb).trans fgo
  exact ⟨f4.next, fun b hb hp hn => by rw [set_get_ne' _ _ (by omega)]; exact f4.get' b hb hp hn⟩
 exact Wc_ret ⟨rfl, [.agg t.cells.toArray], by simp only [resAll, resV, upd, dstUpd, reduceIte, Nat.reduceEqDiff, ptr, hcc, Option.map_some], hfr, rfl, pgo.other hne hres4 _⟩
end Go.Idl
end

section
namespace Go.Idl
variable {T : Tbl} {X : Nat → Prop}
theorem ownL.besideOf {α : Type} {f : α → List Value} {w n0 : Nat} {h h' : Heap} {v : Value} {l : List α} (o : ownL f w n0 h v l) (hb : Beside v h h') {b : Nat} {cs : List Value} {u : Nat} (h2 : b < h.next) (hg : h.get b = some (.cells cs true u)) (hu : u ≠ w) : h'.get b = h.get b := by
 refine hb.get b h2 ?_
 intro p n c hv
 rcases o with ⟨_, e⟩ | ⟨k, e1, _, e3, e4⟩
 ·rw [e] at hv; cases hv
 ·rw [e3] at hv
  cases hv
  rintro rfl
  rw [e4] at hg
  simp only [Option.some.injEq, Blk.cells.injEq] at hg
  exact hu hg.2.2.symm
theorem node_ok (F : Par1 T) {pb : Nat} {ts : List Tok} {h : Heap} {st st' : PSt} {kind : Int} {text : ByteArray} {pos : Int} {kids : List Int} {kv : Value} {n : Nat} (p : Par pb ts X h st) (hk : kidsAt X h kv kids) (hs : nodeS kind text pos kids st = some (n, st')) :
 Wk T (.fn 20) [ptr pb 0, .int .i64 kind, .string text, .int .i64 pos, kv] h (fun o h' => PFr pb h h' ∧ Par pb ts X h' st' ∧ o = .ret (.int .i64 n)) := by
 rw [nodeS] at hs
 split at hs
 case isFalse => cases hs
 rename_i hlen
 cases hs
 obtain ⟨tv, lv, nds, hg, htv, hlv, hkids, hmap⟩ := p.rep
 obtain ⟨ka, kn, kc, rfl⟩ : ∃ a n c, kv = .slice a n c := by
  rcases hk with ⟨h, _⟩ | ⟨_, _, h, _⟩
  ·exact ⟨_, _, _, h⟩
  ·exact ⟨_, _, _, h⟩
 have hnl : nds.length = st.l.length := by rw [← hmap, List.length_map]
 refine Wk_fn F.node (by simp [C20]) ?_
 simp only [C20]
 refine Wc_seq (Wc_ops (Wo_run (fun _ => by simp only [go_sem, seval]; rfl) ?_))
 show Wc T _ _ _
 let nd : Nd := ⟨kind, text, kids, .slice ka kn kc, pos⟩
 refine Wc_seq (Wc_ops (Wo_pre 9 (fun _ => by simp only [go_sem, seval, hg]; rfl) ?_))
 refine Wo_op (v := .agg nd.cells.toArray) (h' := h) (by rfl) ?_
 refine Wo_new (v := .slice (some ⟨h.next, 0, none⟩) 1 1) (B := .cells nd.cells true 4) (by rfl) fun h2 n2 => ?_
 have hel : elemsOf h2 4 (.slice (some ⟨h.next, 0, none⟩) 1 1) = some ([nd].length, [nd].flatMap Nd.cells) := by
  simp only [elemsOf, Nat.one_ne_zero, if_false, Heap.cells, n2.get]; rfl
 have lv2 := hlv.kept n2.kept
 have tv2 := htv.kept n2.kept
 have hlt := p.lt
 have hn2 := n2.kept.next
 have hg2 : h2.get pb = some (.cells [tv, .int .i64 st.i, lv] true 0) := by rw [n2.kept.get _ hlt]; exact hg
 obtain ⟨lv', h3, happ, hbs, lv3⟩ := lv2.append nd_len (bytes := 56) (Nat.le_of_lt (Nat.lt_of_lt_of_le hlt hn2)) hel (by simp; omega)
 have hg3 : h3.get pb = some (.cells [tv, .int .i64 st.i, lv] true 0) := by rw [lv2.besideOf hbs (by omega) hg2 (by decide)]; exact hg2
 have hn3 := hbs.next
 refine Wo_op (v := lv') (h' := h3) (by simp only [iop, ev, upd, dstUpd, reduceIte, Nat.reduceEqDiff]; exact happ) ?_
 refine (Wo_pre 2 (fun _ => by simp only [go_sem, seval]; rfl) ?_)
 refine Wo_op (iop_store_at (k := 2) (v := lv') (by first | rfl | assumption) (by
  obtain ⟨a, c, hlv'⟩ := lv3.len
  simp only [ev, upd, dstUpd, reduceIte, Nat.reduceEqDiff, hlv']; rfl) hg3 (by simp)) (Wo_nil ?_)
 show Wc T _ _ _
 have hset : ([tv, Value.int .i64 st.i, lv].set 2 lv') = [tv, .int .i64 st.i, lv'] := rfl
 rw [hset]
 have oth : ∀ (w : Nat) (b : Nat) (cs : List Value), w ≠ 0 → h3.get b = some (.cells cs true w) → (h3.set pb (.cells [tv, .int .i64 st.i, lv'] true 0)).get b = h3.get b := fun w b cs hw hb => set_get_ne' _ _ (fun e => by
  subst e; rw [hg3] at hb; simp only [Option.some.injEq, Blk.cells.injEq] at hb; exact hw hb.2.2.symm)
 have fr : PFr pb h (h3.set pb (.cells [tv, .int .i64 st.i, lv'] true 0)) := by
  refine ⟨Nat.le_trans hn2 hn3, fun b hb hp hn => ?_⟩
  rw [set_get_ne' _ _ hp, hbs.get b (by omega) ?_, n2.kept.get _ hb]
  intro q m c hv
  rcases hlv with ⟨_, e⟩ | ⟨k, e1, _, e3, e4⟩
  ·rw [e] at hv; cases hv
  ·rw [e3] at hv
   cases hv
   rintro rfl
   exact hn (by simp only at e1 hp ⊢; omega) _ e4
 have par : Par pb ts X (h3.set pb (.cells [tv, .int .i64 st.i, lv'] true 0)) { st with l := st.l ++ [⟨kind, text, kids, pos⟩] } := by
  refine ⟨Nat.lt_of_lt_of_le hlt (Nat.le_trans hn2 hn3), p.few, tv, lv', nds ++ [nd], set_get' _ _ _, ?_, ?_, ?_, ?_⟩
  ·rcases tv2 with e | ⟨b, e1, e2, e3, e4⟩
   ·exact .inl e
   ·have e5 : h3.get b = h2.get b := lv2.besideOf hbs e2 e4 (by decide)
    exact .inr ⟨b, e1, Nat.lt_of_lt_of_le e2 hn3, e3, by rw [oth 5 b _ (by decide) (by rw [e5]; exact e4), e5]; exact e4⟩
  ·rcases lv3 with e | ⟨b, e1, e2, e3, e4⟩
   ·exact .inl e
   ·exact .inr ⟨b, e1, e2, e3, by rw [oth 4 b _ (by decide) e4]; exact e4⟩
  ·intro x hx
   rcases List.mem_append.1 hx with hx | hx
   ·exact (hkids x hx).keep fr p.no1
   ·rw [List.mem_singleton] at hx
    subst hx
    exact hk.keep fr p.no1
  ·rw [List.map_append, hmap]; rfl
 have hl' : ∃ a c, lv' = .slice a (st.l.length + 1) c := by
  obtain ⟨a, c, e⟩ := lv3.len
  exact ⟨a, c, by rw [e, List.length_append, List.length_singleton, hnl]⟩
 obtain ⟨a, c, hlv'⟩ := hl'
 have hg4 : (h3.set pb (.cells [tv, .int .i64 st.i, lv'] true 0)).get pb = some (.cells [tv, .int .i64 st.i, lv'] true 0) := set_get' _ _ _
 generalize h3.set pb (.cells [tv, .int .i64 st.i, lv'] true 0) = h4 at fr par hg4 ⊢
 have hw : IntKind.i64.wrap (((st.l.length + 1 : Nat) : Int) - 1) = ((st.l.length : Nat) : Int) := by rw [wrap64] <;> omega
 refine Wc_seq (Wc_ops (Wo_run (fun _ => by simp only [go_sem, seval, hg4, hlv', hw]; rfl) ?_))
 exact Wc_ret ⟨.inr rfl, rfl, [.int .i64 st.l.length], by simp only [resAll, resV, upd, dstUpd, reduceIte, Nat.reduceEqDiff], fr, par, rfl⟩
end Go.Idl
end

section
namespace Go.Idl
variable {T : Tbl} {X : Nat → Prop}
def blkOf (v : Value) (b : Nat) : Prop := ∃ p n c, v = .slice (some p) n c ∧ p.block = b
def XO (X : Nat → Prop) (v : Value) : Nat → Prop := fun b => X b ∨ blkOf v b
theorem Par.weaken {pb : Nat} {ts : List Tok} {h : Heap} {st : PSt} {Y : Nat → Prop} (p : Par pb ts X h st) (hy : ∀ b, Y b → X b) : Par pb ts Y h st := by
 obtain ⟨tv, lv, nds, h1, h2, h3, h4, h5⟩ := p.rep
 refine ⟨p.lt, p.few, tv, lv, nds, h1, h2, h3, fun x hx => ?_, h5⟩
 rcases h4 x hx with k | ⟨b, c, e1, e2, e3, e4⟩
 ·exact .inl k
 ·exact .inr ⟨b, c, e1, e2, e3, fun h => e4 (hy b h)⟩
theorem Par.nil {pb : Nat} {ts : List Tok} {h : Heap} {st : PSt} (p : Par pb ts X h st) : Par pb ts (XO X (.slice none 0 0)) h st := p.weaken fun b hb => hb.resolve_right fun ⟨p, n, c, h, _⟩ => by cases h
theorem ownI.pfr {n0 pb : Nat} {ts : List Tok} {h h' : Heap} {st : PSt} {v : Value} {l : List Int} (o : ownI n0 h v l) (p : Par pb ts X h st) (f : PFr pb h h') : ownI n0 h' v l := by
 rcases o with o | ⟨b, e1, e2, e3, e4⟩
 ·exact .inl o
 ·exact .inr ⟨b, e1, Nat.lt_of_lt_of_le e2 f.next, e3, by rw [f.get b e2 (fun e => by subst e; exact p.no1 _ e4) (fun cs e => by rw [e4] at e; simp at e)]; exact e4⟩
theorem ownI.besideOf {n0 : Nat} {h h' : Heap} {v : Value} {l : List Int} (o : ownI n0 h v l) (hb : Beside v h h') {b : Nat} {cs : List Value} {u : Nat} (h2 : b < h.next) (hg : h.get b = some (.cells cs true u)) (hu : u ≠ 1) : h'.get b = h.get b := by
 refine hb.get b h2 ?_
 intro p n c hv
 rcases o with ⟨_, e⟩ | ⟨k, e1, _, e3, e4⟩
 ·rw [e] at hv; cases hv
 ·rw [e3] at hv
  cases hv
  rintro rfl
  rw [e4] at hg
  simp only [Option.some.injEq, Blk.cells.injEq] at hg
  exact hu hg.2.2.symm
theorem Par.grow {pb n0 : Nat} {ts : List Tok} {h h' : Heap} {st : PSt} {v v' : Value} {l : List Int} (p : Par pb ts (XO X v) h st) (o : ownI n0 h v l) (hb : Beside v h h') (hv : ∀ q n c, v' = .slice (some q) n c → v' = v ∨ h.next ≤ q.block) : Par pb ts (XO X v') h' st := by
 obtain ⟨tv, lv, nds, h1, h2, h3, h4, h5⟩ := p.rep
 refine ⟨Nat.lt_of_lt_of_le p.lt hb.next, p.few, tv, lv, nds, by rw [o.besideOf hb p.lt h1 (by decide)]; exact h1, ?_, ?_, fun x hx => ?_, h5⟩
 ·rcases h2 with h2 | ⟨k, e1, e2, e3, e4⟩
  ·exact .inl h2
  ·exact .inr ⟨k, e1, Nat.lt_of_lt_of_le e2 hb.next, e3, by rw [o.besideOf hb e2 e4 (by decide)]; exact e4⟩
 ·rcases h3 with h3 | ⟨k, e1, e2, e3, e4⟩
  ·exact .inl h3
  ·exact .inr ⟨k, e1, Nat.lt_of_lt_of_le e2 hb.next, e3, by rw [o.besideOf hb e2 e4 (by decide)]; exact e4⟩
 ·rcases h4 x hx with k | ⟨k, c, e1, e2, e3, e4⟩
  ·exact .inl k
  ·refine .inr ⟨k, c, e1, Nat.lt_of_lt_of_le e2 hb.next, ?_, ?_⟩
   ·rw [hb.get k e2 (fun q n c hq hk => e4 (.inr ⟨q, n, c, hq, hk⟩))]; exact e3
   ·rintro (hx | ⟨q, n, c, hq, hk⟩)
    ·exact e4 (.inl hx)
    ·rcases hv q n c hq with e | e
     ·exact e4 (.inr ⟨q, n, c, by rw [← e]; exact hq, hk⟩)
     ·omega
theorem ownI.frame {n0 pb : Nat} {h0 h h' : Heap} {v : Value} {l : List Int} (o : ownI n0 h v l) (hb : Beside v h h') (f : PFr pb h0 h) (hn : h0.next ≤ n0) : PFr pb h0 h' := by
 refine ⟨Nat.le_trans f.next hb.next, fun b hlt hp hc => ?_⟩
 rw [hb.get b (Nat.lt_of_lt_of_le hlt f.next) ?_, f.get' b hlt hp hc]
 intro q m c hv
 rcases o with ⟨_, e⟩ | ⟨k, e1, _, e3, _⟩
 ·rw [e] at hv; cases hv
 ·rw [e3] at hv
  cases hv
  simp only; omega
def moreS (ts : List Tok) (one : PSt → Option (PR Nat)) : Nat → List Int → PSt → Option (PR (List Int))
 | 0, _, _ => none
 | f + 1, acc, st => if 1000000 < acc.length then none else match takeS ts ⟨#[44]⟩ st with
  | none => none
  | some (false, st') => some (.ok acc st')
  | some (true, st') => match one st' with
   | none => none
   | some (.err a e) => some (.err a e)
   | some (.ok k st2) => moreS ts one f (acc ++ [(k : Int)]) st2
def innerS (ts : List Tok) (e : ByteArray) (one : PSt → Option (PR Nat)) (f : Nat) (st : PSt) : Option (PR (List Int)) := match ts[st.i]? with
 | none => none
 | some t => if isB t [e] then some (.ok [] st) else match one st with
  | none => none
  | some (.err a e) => some (.err a e)
  | some (.ok k st2) => moreS ts one f [(k : Int)] st2
def listS (ts : List Tok) (e : ByteArray) (one : PSt → Option (PR Nat)) (f : Nat) (st : PSt) : Option (PR (List Int)) := match innerS ts e one f st with
 | none => none
 | some (.err a er) => some (.err a er)
 | some (.ok kids st') => match wantS ts e st' with
  | none => none
  | some (.err a er) => some (.err a er)
  | some (.ok _ st2) => some (.ok kids st2)
def PPostK (pb : Nat) (ts : List Tok) (X : Nat → Prop) (h : Heap) : PR (List Int) → Out → Heap → Prop
 | .ok kids st, o, h' => PFr pb h h' ∧ ∃ kv, o = .ret kv ∧ ownI h.next h' kv kids ∧ Par pb ts (XO X kv) h' st
 | .err at' e, o, h' => PFr pb h h' ∧ o = .pan (.iface 44 (.agg #[.int .i64 at', .int .i64 e]))
def OneOk (T : Tbl) (pb : Nat) (ts : List Tok) (g : FuncId) (one : PSt → Option (PR Nat)) : Prop :=
 ∀ (X : Nat → Prop) (st : PSt) (h : Heap) (r : PR Nat), Par pb ts X h st → (∀ b, X b → b < h.next) → one st = some r → Wk T (.fn g) [ptr pb 0] h (fun o h' => PPost pb ts X h (fun n : Nat => .ret (.int .i64 n)) r o h')
theorem XO_lt {v : Value} {l : List Int} {n0 : Nat} {h : Heap} (hX : ∀ b, X b → b < h.next) (o : ownI n0 h v l) : ∀ b, XO X v b → b < h.next := by
 rintro b (hb | ⟨p, n, c, hv, rfl⟩)
 ·exact hX b hb
 ·exact o.ints.block_lt _ _ _ hv
theorem list_add {pb n0 : Nat} {ts : List Tok} {h0 h : Heap} {st : PSt} {v : Value} {l : List Int} (k : Int) (p : Par pb ts (XO X v) h st) (o : ownI n0 h v l) (f : PFr pb h0 h) (hn : h0.next ≤ n0) (hno : n0 ≤ h.next) (hl : l.length ≤ 1000001) {h1 : Heap} (n1 : New1 h h1 (.cells [.int .i64 k] true 1)) :
 ∃ v' h', appendV 1 8 v (.slice (some ⟨h.next, 0, none⟩) 1 1) h1 = some (v', h') ∧ ownI n0 h' v' (l ++ [k]) ∧ Par pb ts (XO X v') h' st ∧ PFr pb h0 h' := by
 have o1 : ownI n0 h1 v l := o.keep n1.kept.next fun b _ hb => n1.kept.get b hb
 have hel : elemsOf h1 1 (.slice (some ⟨h.next, 0, none⟩) 1 1) = some ([k].length, ints64 [k]) := intsAt.elems (l := [k]) (.inr ⟨h.next, 1, rfl, by rw [n1.next]; omega, .inr ⟨true, 1, n1.get⟩⟩)
 have hno : n0 ≤ h1.next := Nat.le_trans hno n1.kept.next
 obtain ⟨v', h', ha, hb, ho, hv⟩ := append_own o1 hno hel (by simp; omega)
 exact ⟨v', h', ha, ho, (p.keep n1.kept).grow o1 hb hv, o1.frame hb (f.trans (n1.kept.pfr pb)) hn⟩
theorem list_ok (F : Par1 T) (hT : T.fn 35 = some C35) {pb : Nat} {ts : List Tok} {h : Heap} {st : PSt} {e : ByteArray} {g : FuncId} {one : PSt → Option (PR Nat)} {f : Nat} {r : PR (List Int)} (p : Par pb ts X h st) (hX : ∀ b, X b → b < h.next) (hone : OneOk T pb ts g one) (hs : listS ts e one f st = some r) :
 Wk T (.fn 35) [ptr pb 0, .string e, .func (.func g) #[] #[]] h (fun o h' => PPostK pb ts X h r o h') := by
 have hlt := p.lt
 refine Wk_fn2 hT (by simp [C35]) ?_
 simp only [C35]
 refine Wc_seq (Wc_ops (Wo_run (fun _ => by simp only [go_sem, seval]; rfl) ?_))
 show Wc T _ _ _
 refine Wc_seq (Wc_ops (Wo_run (fun _ => by simp only [go_sem, seval]; rfl) ?_))
 show Wc T _ _ _
 rw [listS] at hs
 have bad : ∀ (at' : Nat) (er : Int) (s' : St), r = .err at' er → PFr pb h s'.h → s'.d = some [] → s'.d = some [] ∧ PPostK pb ts X h r (.pan (.iface 44 (.agg #[.int .i64 at', .int .i64 er]))) s'.h := fun at' er s' hr hf hd => ⟨hd, by rw [hr]; exact ⟨hf, rfl⟩⟩
 refine Wc_mid (fun s' => s'.d = some [] ∧ s'.e 0 = .pointer (some ⟨pb, 0, none⟩) ∧ s'.e 1 = .string e ∧ ∃ kids st', innerS ts e one f st = some (.ok kids st') ∧ PFr pb h s'.h ∧ ownI h.next s'.h (s'.e 7) kids ∧ Par pb ts (XO X (s'.e 7)) s'.h st') ?_ ?_
 ·rw [innerS] at hs ⊢
  cases ht : ts[st.i]? with
  | none => rw [ht] at hs; simp at hs
  | some t =>
   rw [ht] at hs
   simp only at hs ⊢
   refine Wc_seq (Wc_ops (Wo_pre 2 (fun _ => by simp only [go_sem, seval]; rfl) ?_))
   refine Wo_new (v := .slice (some ⟨h.next, 0, none⟩) 1 1) (B := .cells [.string e] true 1) (by rfl) fun h1 n1 => ?_
   refine Wo_call (Wk_kept (is_ok F (p.keep n1.kept) ht (pstr e n1) (by simp)) fun h2 k2 => ?_)
   have k12 := n1.kept.trans k2
   have p2 := p.keep k12
   cases hb : isB t [e]
   case true =>
    refine (Wo_run (fun _ => by simp only [go_sem, seval, hb]; rfl) ?_)
    show Wc T _ _ _
    refine Wc_cond false (by first | rfl | assumption) nofun (fun _ => Wc_skip ?_)
    refine ⟨rfl, (by first | rfl | assumption), (by first | rfl | assumption), [], st, by rw [if_pos rfl], k12.pfr pb, .inl ⟨rfl, (by first | rfl | assumption)⟩, ?_⟩
    simp only [upd, dstUpd, reduceIte, Nat.reduceEqDiff]
    exact p2.nil
   rw [hb] at hs
   simp only [Bool.false_eq_true, if_false] at hs ⊢
   refine (Wo_run (fun _ => by simp only [go_sem, seval, hb]; rfl) ?_)
   show Wc T _ _ _
   refine Wc_cond true (by first | rfl | assumption) (fun _ => ?_) nofun
   have hX2 : ∀ b, X b → b < h2.next := fun b hb => Nat.lt_of_lt_of_le (hX b hb) k12.next
   cases ho : one st with
   | none => rw [ho] at hs; simp at hs
   | some r1 =>
    rw [ho] at hs
    refine Wc_seq (Wc_ops (Wo_pre 3 (fun _ => by simp only [go_sem, seval]; rfl) ?_))
    refine Wo_callv (c := .fn g) (vs := [ptr pb 0]) (by simp only [go_sem, seval, target] <;> first | rfl | assumption | (symm; assumption)) ((hone X st h2 r1 p2 hX2 ho).mono ?_)
    cases r1 with
    | err at' er =>
     simp only at hs
     rintro o h3 ⟨f3, rfl⟩
     exact bad at' er ⟨_, h3, _⟩ (Option.some.inj hs).symm ((k12.pfr pb).trans f3) rfl
    | ok k st2 =>
     simp only at hs ⊢
     rintro o h3 ⟨f3, rfl, p3⟩
     show Wo T _ _ _
     have f03 := (k12.pfr pb).trans f3
     have hn3 := f03.next
     refine Wo_new (v := .slice (some ⟨h3.next, 0, none⟩) 1 1) (B := .cells [.int .i64 (k : Int)] true 1) (by rfl) fun h4 n4 => ?_
     obtain ⟨v', h5, ha, ho5, p5, f5⟩ := list_add (k : Int) p3.nil (n0 := h.next) (l := []) (.inl ⟨rfl, rfl⟩) f03 (Nat.le_refl _) hn3 (by simp) n4
     refine Wo_op (v := v') (h' := h5) (by simp only [iop, ev, upd, dstUpd, reduceIte, Nat.reduceEqDiff]; exact ha) ?_
     refine (Wo_run (fun _ => by simp only [go_sem, seval]; rfl) ?_)
     show Wc T _ _ _
     rw [List.nil_append] at ho5
     have loop : ∀ (f : Nat) (ev' : Env) (h5 : Heap) (acc : List Int) (st2 : PSt), (match moreS ts one f acc st2 with | none => False | some (.err a er) => r = .err a er | some (.ok kids st') => True) → ev' 0 = .pointer (some ⟨pb, 0, none⟩) → ev' 1 = .string e → ev' 2 = .func (.func g) #[] #[] → PFr pb h h5 → ownI h.next h5 (ev' 7) acc → Par pb ts (XO X (ev' 7)) h5 st2 →
      Wc T (.loop C35L0) ⟨ev', h5, some []⟩ (Tb 0 fun x s' => match x with
       | .normal => s'.d = some [] ∧ s'.e 0 = .pointer (some ⟨pb, 0, none⟩) ∧ s'.e 1 = .string e ∧ ∃ kids st', moreS ts one f acc st2 = some (.ok kids st') ∧ PFr pb h s'.h ∧ ownI h.next s'.h (s'.e 7) kids ∧ Par pb ts (XO X (s'.e 7)) s'.h st'
       | .pan v => s'.d = some [] ∧ PPostK pb ts X h r (.pan v) s'.h
       | _ => False) := by
      intro f
      induction f with
      | zero => intro ev' h5 acc st2 hm; simp [moreS] at hm
      | succ f ih =>
       intro ev' h5 acc st2 hm e0 e1 e2 f5 o5 p5
       rw [moreS] at hm ⊢
       by_cases hacc : 1000000 < acc.length
       ·rw [if_pos hacc] at hm; exact hm.elim
       rw [if_neg hacc] at hm ⊢
       cases htk : takeS ts ⟨#[44]⟩ st2 with
       | none => rw [htk] at hm; exact hm.elim
       | some q =>
        obtain ⟨b, st3⟩ := q
        rw [htk] at hm
        refine Wc_unroll (Wc_seq (Wc_seq (Wc_ops (Wo_pre 1 (fun _ => by simp only [go_sem, seval, e0]; rfl) ?_))))
        refine Wo_call ((take_ok F p5 htk).mono ?_)
        rintro o h6 ⟨f6, p6, rfl⟩
        show Wo T _ _ _
        refine Wo_nil ?_
        show Wc T _ _ _
        have f06 := f5.trans f6
        have o6 := o5.pfr p5 f6
        cases b with
        | false =>
         refine Wc_cond false (by first | rfl | assumption) nofun (fun _ => Wc_exit ?_)
         exact ⟨rfl, (by simp only [go_sem, seval, e0] <;> first | rfl | assumption | (symm; assumption)), (by simp only [go_sem, seval, e1] <;> first | rfl | assumption | (symm; assumption)), acc, st3, rfl, f06, by simp only [upd, dstUpd, reduceIte, Nat.reduceEqDiff]; exact o6, by simp only [upd, dstUpd, reduceIte, Nat.reduceEqDiff]; exact p6⟩
        | true =>
         simp only at hm ⊢
         refine Wc_cond true (by first | rfl | assumption) (fun _ => Wc_skip ?_) nofun
         show Wc T _ _ _
         cases ho : one st3 with
         | none => rw [ho] at hm; exact hm.elim
         | some r1 =>
          rw [ho] at hm
          have hX6 := XO_lt (fun b hb => Nat.lt_of_lt_of_le (hX b hb) f06.next) o6
          refine Wc_block (Wc_ops (Wo_pre 3 (fun _ => by simp only [go_sem, seval, e0, e2]; rfl) ?_))
          refine Wo_callv (c := .fn g) (vs := [ptr pb 0]) (by simp only [go_sem, seval, target] <;> first | rfl | assumption | (symm; assumption)) ((hone _ st3 h6 r1 p6 hX6 ho).mono ?_)
          cases r1 with
          | err at' er =>
           simp only at hm
           rintro o h7 ⟨f7, rfl⟩
           exact bad at' er ⟨_, h7, _⟩ hm (f06.trans f7) rfl
          | ok k st4 =>
           simp only at hm ⊢
           rintro o h7 ⟨f7, rfl, p7⟩
           show Wo T _ _ _
           have f07 := f06.trans f7
           have o7 := o6.pfr p6 f7
           refine Wo_new (v := .slice (some ⟨h7.next, 0, none⟩) 1 1) (B := .cells [.int .i64 (k : Int)] true 1) (by rfl) fun h8 n8 => ?_
           obtain ⟨v', h9, ha, o9, p9, f9⟩ := list_add (k : Int) p7 o7 f07 (Nat.le_refl _) f07.next (by omega) n8
           refine Wo_op (v := v') (h' := h9) (by simp only [iop, ev, upd, dstUpd, reduceIte, Nat.reduceEqDiff]; exact ha) ?_
           refine (Wo_run (fun _ => by simp only [go_sem, seval]; rfl) ?_)
           exact ih _ h9 (acc ++ [(k : Int)]) st4 hm (by simp only [go_sem, seval, e0] <;> first | rfl | assumption | (symm; assumption)) (by simp only [go_sem, seval, e1] <;> first | rfl | assumption | (symm; assumption)) (by simp only [go_sem, seval, e2] <;> first | rfl | assumption | (symm; assumption)) f9 (by simp only [upd, dstUpd, reduceIte, Nat.reduceEqDiff]; exact o9) (by simp only [upd, dstUpd, reduceIte, Nat.reduceEqDiff]; exact p9)
     refine Wc_block ((loop f _ h5 [(k : Int)] st2 ?_ (by first | rfl | assumption) (by first | rfl | assumption) (by first | rfl | assumption) f5 (by simp only [upd, dstUpd, reduceIte, Nat.reduceEqDiff]; exact ho5) (by simp only [upd, dstUpd, reduceIte, Nat.reduceEqDiff]; exact p5)).mono ?_)
     ·cases hm : moreS ts one f [(k : Int)] st2 with
      | none => rw [hm] at hs; simp at hs
      | some q =>
       rw [hm] at hs
       cases q with
       | err a er => simp only at hs ⊢; exact (Option.some.inj hs).symm
       | ok a b => trivial
     ·intro x s' hx
      cases x with
      | normal => exact hx
      | brk i =>
       simp only [Tb] at hx ⊢
       split at hx
       ·rename_i hi; rw [if_pos hi]; exact hx
       ·exact hx.elim
      | ret => exact hx.elim
      | pan v => exact hx
 rintro ⟨e', h5, d⟩ ⟨hd, e0, e1, kids, st', hin, f5, o5, p5⟩
 simp only at hd e0 e1 f5 o5 p5
 rw [hd]
 rw [hin] at hs
 simp only at hs
 generalize hv7 : e' 7 = kv at o5 p5
 cases hw : wantS ts e st' with
 | none => rw [hw] at hs; simp at hs
 | some q =>
  rw [hw] at hs
  refine Wc_seq (Wc_ops (Wo_pre 2 (fun _ => by simp only [go_sem, seval, e0, e1]; rfl) ?_))
  refine Wo_call ((want_ok F p5 hw).mono ?_)
  cases q with
  | err a er =>
   simp only at hs
   rintro o h6 ⟨f6, rfl⟩
   exact bad a er ⟨_, h6, _⟩ (Option.some.inj hs).symm (f5.trans f6) rfl
  | ok u st2 =>
   simp only at hs
   rintro o h6 ⟨f6, rfl, p6⟩
   show Wo T _ _ _
   refine Wo_nil ?_
   show Wc T _ _ _
   refine Wc_seq (Wc_ops (Wo_run (fun _ => by simp only [go_sem, seval, hv7]; rfl) ?_))
   cases hs
   exact Wc_ret ⟨rfl, [kv], by simp only [resAll, resV, upd, dstUpd, reduceIte, Nat.reduceEqDiff], f5.trans f6, kv, rfl, o5.pfr p5 f6, p6⟩
end Go.Idl
end

section
namespace Go.Idl
variable {T : Tbl} {X : Nat → Prop}
def andS {α β : Type} (x : Option (PR α)) (f : α → PSt → Option (PR β)) : Option (PR β) := match x with
 | none => none
 | some (.err a e) => some (.err a e)
 | some (.ok a st) => f a st
theorem andS_some {α β : Type} {x : Option (PR α)} {f : α → PSt → Option (PR β)} {r : PR β} (h : andS x f = some r) : (∃ a e, x = some (.err a e) ∧ r = .err a e) ∨ ∃ a st, x = some (.ok a st) ∧ f a st = some r := by
 unfold andS at h
 split at h
 ·cases h
 ·cases h; exact .inl ⟨_, _, rfl, rfl⟩
 ·exact .inr ⟨_, _, rfl, h⟩
def mkS (kind : Int) (text : ByteArray) (pos : Int) (kids : List Int) (st : PSt) : Option (PR Nat) := (nodeS kind text pos kids st).map fun q => .ok q.1 q.2
theorem mkS_some {kind : Int} {text : ByteArray} {pos : Int} {kids : List Int} {st : PSt} {r : PR Nat} (h : mkS kind text pos kids st = some r) : ∃ n st', nodeS kind text pos kids st = some (n, st') ∧ r = .ok n st' := by
 obtain ⟨q, h1, h2⟩ := Option.map_eq_some_iff.1 h
 exact ⟨q.1, q.2, h1, h2.symm⟩
def namedS (ts : List Tok) (st : PSt) : Option (PR Nat) := andS (nameS ts st) fun t st => mkS 17 t.text t.frm [] st
def madeS (ts : List Tok) (st : PSt) : Option (PR Nat) := andS (nameS ts st) fun t st => mkS 23 t.text t.frm [] st
def nothingS (ts : List Tok) (kind : Int) (pos : Int) (st : PSt) : Option (PR Nat) := andS (wantS ts ⟨#[40]⟩ st) fun _ st => andS (wantS ts ⟨#[41]⟩ st) fun _ st => mkS kind ⟨#[]⟩ pos [] st
def WordOk (T : Tbl) (pb : Nat) (ts : List Tok) (g : FuncId) (one : Int → PSt → Option (PR Nat)) : Prop :=
 ∀ (X : Nat → Prop) (st : PSt) (h : Heap) (pos : Int) (r : PR Nat), Par pb ts X h st → (∀ b, X b → b < h.next) → one pos st = some r → Wk T (.fn g) [ptr pb 0, .int .i64 pos] h (fun o h' => PPost pb ts X h (fun n : Nat => .ret (.int .i64 n)) r o h')
theorem nil_kids {h : Heap} : kidsAt X h (.slice none 0 0) [] := .inl ⟨rfl, rfl⟩
theorem Wo_node (F : Par1 T) {pb : Nat} {ts : List Tok} {h0 h : Heap} {st : PSt} {kind : Int} {text : ByteArray} {pos : Int} {kids : List Int} {kv : Value} {r : PR Nat} {a0 a1 a2 a3 a4 : Opd} {dst : Option Nat} {l : List Step} {e : Env} {d : Option (List Dfr)} {Q : Option Value → St → Prop} (p : Par pb ts X h st) (f0 : PFr pb h0 h) (hk : kidsAt X h kv kids) (hs : mkS kind text pos kids st = some r)
 (ha : [a0, a1, a2, a3, a4].map (ev e) = [ptr pb 0, .int .i64 kind, .string text, .int .i64 pos, kv]) (k : ∀ (n : Nat) (st' : PSt) (h' : Heap), r = .ok n st' → PFr pb h0 h' → Par pb ts X h' st' → Wo T l ⟨dstUpd e dst (.int .i64 n), h', d⟩ Q) : Wo T (⟨dst, .call 20 [a0, a1, a2, a3, a4], none⟩ :: l) ⟨e, h, d⟩ Q := by
 obtain ⟨n, st', h1, h2⟩ := mkS_some hs
 refine Wo_call ?_
 rw [ha]
 refine (node_ok F p hk h1).mono ?_
 rintro o h' ⟨f1, p1, rfl⟩
 exact k n st' h' h2 (f0.trans f1) p1
theorem named_ok (F : Par1 T) (hT : T.fn 36 = some C36) {pb : Nat} {ts : List Tok} : OneOk T pb ts 36 (namedS ts) := by
 intro X st h r p hX hs
 refine Wk_fn2 hT (by simp [C36]) ?_
 simp only [C36]
 refine Wc_seq (Wc_ops (Wo_run (fun _ => by simp only [go_sem, seval]; rfl) ?_))
 show Wc T _ _ _
 refine Wc_seq (Wc_ops (Wo_pre 1 (fun _ => by simp only [go_sem, seval]; rfl) ?_))
 rcases andS_some hs with ⟨a, er, h1, rfl⟩ | ⟨t, st1, h1, h2⟩
 ·refine Wo_call ((name_ok F p h1).mono ?_)
  rintro o h2 ⟨f2, rfl⟩
  exact ⟨rfl, f2, rfl⟩
 ·refine Wo_call ((name_ok F p h1).mono ?_)
  rintro o h2' ⟨f2, rfl, p2⟩
  show Wo T _ _ _
  refine Wo_op (v := ptr h2'.next 0) (h' := h2'.new (.cells z5 true 0)) rfl ?_
  refine Wo_store_new (cs := t.cells) (h := h2') (by first | rfl | assumption) (by first | rfl | assumption) rfl rfl fun h3 n3 => Wo_nil ?_
  show Wc T _ _ _
  have hg3 := n3.get
  refine Wc_seq (Wc_ops (Wo_pre 5 (fun _ => by simp only [go_sem, seval, hg3, Tok.cells]; rfl) ?_))
  refine Wo_node F (p2.keep n3.kept) (f2.trans (n3.kept.pfr pb)) nil_kids h2 rfl fun n st' h4 hr f4 p4 => ?_
  refine (Wo_run (fun _ => by simp only [go_sem, seval]; rfl) ?_)
  subst hr
  exact Wc_ret ⟨rfl, [.int .i64 n], by simp only [resAll, resV, upd, dstUpd, reduceIte, Nat.reduceEqDiff], f4, rfl, p4⟩
theorem made_ok (F : Par1 T) (hT : T.fn 91 = some C91) {pb : Nat} {ts : List Tok} : WordOk T pb ts 91 (fun _ => madeS ts) := by
 intro X st h pos r p hX hs
 refine Wk_fn2 hT (by simp [C91]) ?_
 simp only [C91]
 refine Wc_seq (Wc_ops (Wo_run (fun _ => by simp only [go_sem, seval]; rfl) ?_))
 show Wc T _ _ _
 refine Wc_seq (Wc_ops (Wo_pre 1 (fun _ => by simp only [go_sem, seval]; rfl) ?_))
 rcases andS_some hs with ⟨a, er, h1, rfl⟩ | ⟨t, st1, h1, h2⟩
 ·refine Wo_call ((name_ok F p h1).mono ?_)
  rintro o h2 ⟨f2, rfl⟩
  exact ⟨rfl, f2, rfl⟩
 ·refine Wo_call ((name_ok F p h1).mono ?_)
  rintro o h2' ⟨f2, rfl, p2⟩
  show Wo T _ _ _
  refine Wo_op (v := ptr h2'.next 0) (h' := h2'.new (.cells z5 true 0)) rfl ?_
  refine Wo_store_new (cs := t.cells) (h := h2') (by first | rfl | assumption) (by first | rfl | assumption) rfl rfl fun h3 n3 => Wo_nil ?_
  show Wc T _ _ _
  have hg3 := n3.get
  refine Wc_seq (Wc_ops (Wo_pre 5 (fun _ => by simp only [go_sem, seval, hg3, Tok.cells]; rfl) ?_))
  refine Wo_node F (p2.keep n3.kept) (f2.trans (n3.kept.pfr pb)) nil_kids h2 rfl fun n st' h4 hr f4 p4 => ?_
  refine (Wo_run (fun _ => by simp only [go_sem, seval]; rfl) ?_)
  subst hr
  exact Wc_ret ⟨rfl, [.int .i64 n], by simp only [resAll, resV, upd, dstUpd, reduceIte, Nat.reduceEqDiff], f4, rfl, p4⟩
theorem null_ok (F : Par1 T) (hT : T.fn 89 = some C89) {pb : Nat} {ts : List Tok} : WordOk T pb ts 89 (fun pos => mkS 16 ⟨#[]⟩ pos []) := by
 intro X st h pos r p hX hs
 refine Wk_fn2 hT (by simp [C89]) ?_
 simp only [C89]
 refine Wc_seq (Wc_ops (Wo_run (fun _ => by simp only [go_sem, seval]; rfl) ?_))
 show Wc T _ _ _
 refine Wc_seq (Wc_ops (Wo_pre 2 (fun _ => by simp only [go_sem, seval]; rfl) ?_))
 refine Wo_node F p (.refl pb h) nil_kids hs rfl fun n st' h4 hr f4 p4 => ?_
 refine (Wo_run (fun _ => by simp only [go_sem, seval]; rfl) ?_)
 subst hr
 exact Wc_ret ⟨rfl, [.int .i64 n], by simp only [resAll, resV, upd, dstUpd, reduceIte, Nat.reduceEqDiff], f4, rfl, p4⟩
theorem root_ok (F : Par1 T) (hT : T.fn 90 = some C90) {pb : Nat} {ts : List Tok} : WordOk T pb ts 90 (fun pos => mkS 30 ⟨#[]⟩ pos []) := by
 intro X st h pos r p hX hs
 refine Wk_fn2 hT (by simp [C90]) ?_
 simp only [C90]
 refine Wc_seq (Wc_ops (Wo_run (fun _ => by simp only [go_sem, seval]; rfl) ?_))
 show Wc T _ _ _
 refine Wc_seq (Wc_ops (Wo_pre 2 (fun _ => by simp only [go_sem, seval]; rfl) ?_))
 refine Wo_node F p (.refl pb h) nil_kids hs rfl fun n st' h4 hr f4 p4 => ?_
 refine (Wo_run (fun _ => by simp only [go_sem, seval]; rfl) ?_)
 subst hr
 exact Wc_ret ⟨rfl, [.int .i64 n], by simp only [resAll, resV, upd, dstUpd, reduceIte, Nat.reduceEqDiff], f4, rfl, p4⟩
theorem nothing_ok (F : Par1 T) (hT : T.fn 103 = some C103) {pb : Nat} {ts : List Tok} {h : Heap} {st : PSt} {kind pos : Int} {r : PR Nat} (p : Par pb ts X h st) (hs : nothingS ts kind pos st = some r) :
 Wk T (.fn 103) [ptr pb 0, .int .i64 kind, .int .i64 pos] h (fun o h' => PPost pb ts X h (fun n : Nat => .ret (.int .i64 n)) r o h') := by
 refine Wk_fn2 hT (by simp [C103]) ?_
 simp only [C103]
 refine Wc_seq (Wc_ops (Wo_run (fun _ => by simp only [go_sem, seval]; rfl) ?_))
 show Wc T _ _ _
 refine Wc_seq (Wc_ops (Wo_pre 1 (fun _ => by simp only [go_sem, seval]; rfl) ?_))
 rcases andS_some hs with ⟨a, er, h1, rfl⟩ | ⟨u, st1, h1, hs⟩
 ·refine Wo_call ((want_ok F p h1).mono ?_)
  rintro o h2 ⟨f2, rfl⟩
  exact ⟨rfl, f2, rfl⟩
 refine Wo_call ((want_ok F p h1).mono ?_)
 rintro o h2 ⟨f2, rfl, p2⟩
 show Wo T _ _ _
 refine Wo_nil ?_
 show Wc T _ _ _
 refine Wc_seq (Wc_ops (Wo_pre 1 (fun _ => by simp only [go_sem, seval]; rfl) ?_))
 rcases andS_some hs with ⟨a, er, h1, rfl⟩ | ⟨u, st1, h1, hs⟩
 ·refine Wo_call ((want_ok F p2 h1).mono ?_)
  rintro o h3 ⟨f3, rfl⟩
  exact ⟨rfl, f2.trans f3, rfl⟩
 refine Wo_call ((want_ok F p2 h1).mono ?_)
 rintro o h3 ⟨f3, rfl, p3⟩
 show Wo T _ _ _
 refine Wo_nil ?_
 show Wc T _ _ _
 refine Wc_seq (Wc_ops (Wo_pre 3 (fun _ => by simp only [go_sem, seval]; rfl) ?_))
 refine Wo_node F p3 (f2.trans f3) nil_kids hs rfl fun n st' h4 hr f4 p4 => ?_
 refine (Wo_run (fun _ => by simp only [go_sem, seval]; rfl) ?_)
 subst hr
 exact Wc_ret ⟨rfl, [.int .i64 n], by simp only [resAll, resV, upd, dstUpd, reduceIte, Nat.reduceEqDiff], f4, rfl, p4⟩
theorem in_ok (F : Par1 T) (hN : T.fn 103 = some C103) (hT : T.fn 94 = some C94) {pb : Nat} {ts : List Tok} : WordOk T pb ts 94 (nothingS ts 26) := by
 intro X st h pos r p hX hs
 refine Wk_fn2 hT (by simp [C94]) ?_
 simp only [C94]
 refine Wc_seq (Wc_ops (Wo_run (fun _ => by simp only [go_sem, seval]; rfl) ?_))
 show Wc T _ _ _
 refine Wc_seq (Wc_ops (Wo_pre 2 (fun _ => by simp only [go_sem, seval]; rfl) ?_))
 refine Wo_call ((nothing_ok F hN p hs).mono ?_)
 cases r with
 | err a er => rintro o h2 ⟨f2, rfl⟩; exact ⟨rfl, f2, rfl⟩
 | ok n st' =>
  rintro o h2 ⟨f2, rfl, p2⟩
  show Wo T _ _ _
  refine (Wo_run (fun _ => by simp only [go_sem, seval]; rfl) ?_)
  exact Wc_ret ⟨rfl, [.int .i64 n], by simp only [resAll, resV, upd, dstUpd, reduceIte, Nat.reduceEqDiff], f2, rfl, p2⟩
theorem size_ok (F : Par1 T) (hN : T.fn 103 = some C103) (hT : T.fn 96 = some C96) {pb : Nat} {ts : List Tok} : WordOk T pb ts 96 (nothingS ts 28) := by
 intro X st h pos r p hX hs
 refine Wk_fn2 hT (by simp [C96]) ?_
 simp only [C96]
 refine Wc_seq (Wc_ops (Wo_run (fun _ => by simp only [go_sem, seval]; rfl) ?_))
 show Wc T _ _ _
 refine Wc_seq (Wc_ops (Wo_pre 2 (fun _ => by simp only [go_sem, seval]; rfl) ?_))
 refine Wo_call ((nothing_ok F hN p hs).mono ?_)
 cases r with
 | err a er => rintro o h2 ⟨f2, rfl⟩; exact ⟨rfl, f2, rfl⟩
 | ok n st' =>
  rintro o h2 ⟨f2, rfl, p2⟩
  show Wo T _ _ _
  refine (Wo_run (fun _ => by simp only [go_sem, seval]; rfl) ?_)
  exact Wc_ret ⟨rfl, [.int .i64 n], by simp only [resAll, resV, upd, dstUpd, reduceIte, Nat.reduceEqDiff], f2, rfl, p2⟩
end Go.Idl
end

section
namespace Go.Idl
variable {T : Tbl} {X : Nat → Prop}
def insideS (ts : List Tok) (ex : PSt → Option (PR Nat)) (kind pos : Int) (st : PSt) : Option (PR Nat) :=
 andS (wantS ts ⟨#[40]⟩ st) fun _ st => andS (ex st) fun e st => andS (wantS ts ⟨#[41]⟩ st) fun _ st => mkS kind ⟨#[]⟩ pos [(e : Int)] st
def lvlL : List (List ByteArray) := [[⟨#[124]⟩, ⟨#[94]⟩], [⟨#[38]⟩], [⟨#[60, 60]⟩, ⟨#[62, 62]⟩], [⟨#[43]⟩, ⟨#[45]⟩], [⟨#[42]⟩, ⟨#[47]⟩, ⟨#[37]⟩]]
def cmpL : List ByteArray := [⟨#[61, 61]⟩, ⟨#[33, 61]⟩, ⟨#[60]⟩, ⟨#[60, 61]⟩]
def sgnL : List ByteArray := [⟨#[45]⟩, ⟨#[33]⟩, ⟨#[126]⟩]
def wordS (ts : List Tok) (ex : PSt → Option (PR Nat)) (w : ByteArray) : Option (Int → PSt → Option (PR Nat)) :=
 if w = ⟨#[110, 117, 108, 108]⟩ then some fun pos => mkS 16 ⟨#[]⟩ pos [] else
 if w = ⟨#[114, 111, 111, 116]⟩ then some fun pos => mkS 30 ⟨#[]⟩ pos [] else
 if w = ⟨#[110, 101, 119]⟩ then some fun _ => madeS ts else
 if w = ⟨#[97, 114, 114]⟩ then some (insideS ts ex 24) else
 if w = ⟨#[108, 101, 110]⟩ then some (insideS ts ex 25) else
 if w = ⟨#[105, 110]⟩ then some (nothingS ts 26) else
 if w = ⟨#[105, 109, 103]⟩ then some (insideS ts ex 27) else
 if w = ⟨#[115, 105, 122, 101]⟩ then some (nothingS ts 28) else
 if w = ⟨#[112, 114, 111, 109, 111, 116, 101]⟩ then some (insideS ts ex 29) else none
mutual
def firstS (num : Int → ByteArray) (ts : List Tok) : Nat → PSt → Option (PR Nat)
 | 0, _ => none
 | f + 1, st => match ts[st.i]? with
  | none => none
  | some t =>
   if t.kind = 4 then mkS 15 (num t.num) t.frm [] { st with i := st.i + 1 }
   else if t.kind = 1 then match takeS ts ⟨#[40]⟩ { st with i := st.i + 1 } with
    | none => none
    | some (false, st) => mkS 17 t.text t.frm [] st
    | some (true, st) => andS (listS ts ⟨#[41]⟩ (exprS num ts f) f st) fun kids st => mkS 22 t.text t.frm kids st
   else match (if t.kind = 2 then wordS ts (exprS num ts f) t.text else none) with
    | some g => g t.frm { st with i := st.i + 1 }
    | none => andS (wantS ts ⟨#[40]⟩ st) fun _ st => andS (exprS num ts f st) fun e st => andS (wantS ts ⟨#[41]⟩ st) fun _ st => some (.ok e st)
def backL (num : Int → ByteArray) (ts : List Tok) : Nat → Nat → PSt → Option (PR Nat)
 | 0, _, _ => none
 | f + 1, e, st => match ts[st.i]? with
  | none => none
  | some t => match takeS ts ⟨#[46]⟩ st with
   | none => none
   | some (true, st) => andS (nameS ts st) fun n st => andS (mkS 20 n.text t.frm [(e : Int)] st) fun e st => backL num ts f e st
   | some (false, st) => match takeS ts ⟨#[91]⟩ st with
    | none => none
    | some (true, st) => andS (exprS num ts f st) fun i st => andS (wantS ts ⟨#[93]⟩ st) fun _ st => andS (mkS 21 ⟨#[]⟩ t.frm [(e : Int), (i : Int)] st) fun e st => backL num ts f e st
    | some (false, st) => some (.ok e st)
def backS (num : Int → ByteArray) (ts : List Tok) : Nat → PSt → Option (PR Nat)
 | 0, _ => none
 | f + 1, st => andS (firstS num ts f st) fun e st => backL num ts f e st
def signS (num : Int → ByteArray) (ts : List Tok) : Nat → PSt → Option (PR Nat)
 | 0, _ => none
 | f + 1, st => match ts[st.i]? with
  | none => none
  | some t => if isB t sgnL then andS (signS num ts f { st with i := st.i + 1 }) fun e st => mkS 18 t.text t.frm [(e : Int)] st else backS num ts f st
def chainL (num : Int → ByteArray) (ts : List Tok) : Nat → Nat → Nat → PSt → Option (PR Nat)
 | 0, _, _, _ => none
 | f + 1, level, e, st => match ts[st.i]? with
  | none => none
  | some t => if isB t (lvlL.getD level []) then andS (chainS num ts f (level + 1) { st with i := st.i + 1 }) fun g st => andS (mkS 19 t.text t.frm [(e : Int), (g : Int)] st) fun e st => chainL num ts f level e st else some (.ok e st)
def chainS (num : Int → ByteArray) (ts : List Tok) : Nat → Nat → PSt → Option (PR Nat)
 | 0, _, _ => none
 | f + 1, level, st => if level = 5 then signS num ts f st else andS (chainS num ts f (level + 1) st) fun e st => chainL num ts f level e st
def exprS (num : Int → ByteArray) (ts : List Tok) : Nat → PSt → Option (PR Nat)
 | 0, _ => none
 | f + 1, st => andS (chainS num ts f 0 st) fun e st => match ts[st.i]? with
  | none => none
  | some t => if isB t cmpL then andS (chainS num ts f 0 { st with i := st.i + 1 }) fun g st => mkS 19 t.text t.frm [(e : Int), (g : Int)] st else some (.ok e st)
end
theorem lit_kids {h h1 : Heap} {kids : List Int} {c : Nat} (hX : ∀ b, X b → b < h.next) (n1 : New1 h h1 (.cells (ints64 kids) true 1)) : kidsAt X h1 (.slice (some ⟨h.next, 0, none⟩) kids.length c) kids :=
 .inr ⟨h.next, c, rfl, by rw [n1.next]; exact Nat.lt_succ_self _, n1.get, fun hx => Nat.lt_irrefl _ (hX _ hx)⟩
theorem inside_ok (F : Par1 T) (hT : T.fn 102 = some C102) {pb : Nat} {ts : List Tok} {ex : PSt → Option (PR Nat)} (hex : OneOk T pb ts 66 ex) {h : Heap} {st : PSt} {kind pos : Int} {r : PR Nat} (p : Par pb ts X h st) (hX : ∀ b, X b → b < h.next) (hs : insideS ts ex kind pos st = some r) :
 Wk T (.fn 102) [ptr pb 0, .int .i64 kind, .int .i64 pos] h (fun o h' => PPost pb ts X h (fun n : Nat => .ret (.int .i64 n)) r o h') := by
 refine Wk_fn2 hT (by simp [C102]) ?_
 simp only [C102]
 refine Wc_seq (Wc_ops (Wo_run (fun _ => by simp only [go_sem, seval]; rfl) ?_))
 show Wc T _ _ _
 refine Wc_seq (Wc_ops (Wo_pre 1 (fun _ => by simp only [go_sem, seval]; rfl) ?_))
 rcases andS_some hs with ⟨a, er, h1, rfl⟩ | ⟨u, st1, h1, hs⟩
 ·refine Wo_call ((want_ok F p h1).mono ?_)
  rintro o h2 ⟨f2, rfl⟩
  exact ⟨rfl, f2, rfl⟩
 refine Wo_call ((want_ok F p h1).mono ?_)
 rintro o h2 ⟨f2, rfl, p2⟩
 show Wo T _ _ _
 refine Wo_nil ?_
 show Wc T _ _ _
 have hX2 : ∀ b, X b → b < h2.next := fun b hb => Nat.lt_of_lt_of_le (hX b hb) f2.next
 refine Wc_seq (Wc_ops (Wo_pre 1 (fun _ => by simp only [go_sem, seval]; rfl) ?_))
 rcases andS_some hs with ⟨a, er, h1, rfl⟩ | ⟨e, st2, h1, hs⟩
 ·refine Wo_call ((hex X st1 h2 _ p2 hX2 h1).mono ?_)
  rintro o h3 ⟨f3, rfl⟩
  exact ⟨rfl, f2.trans f3, rfl⟩
 refine Wo_call ((hex X st1 h2 _ p2 hX2 h1).mono ?_)
 rintro o h3 ⟨f3, rfl, p3⟩
 show Wo T _ _ _
 refine (Wo_run (fun _ => by simp only [go_sem, seval]; rfl) ?_)
 show Wc T _ _ _
 have f03 := f2.trans f3
 refine Wc_seq (Wc_ops (Wo_pre 1 (fun _ => by simp only [go_sem, seval]; rfl) ?_))
 rcases andS_some hs with ⟨a, er, h1, rfl⟩ | ⟨u2, st3, h1, hs⟩
 ·refine Wo_call ((want_ok F p3 h1).mono ?_)
  rintro o h4 ⟨f4, rfl⟩
  exact ⟨rfl, f03.trans f4, rfl⟩
 refine Wo_call ((want_ok F p3 h1).mono ?_)
 rintro o h4 ⟨f4, rfl, p4⟩
 show Wo T _ _ _
 refine Wo_nil ?_
 show Wc T _ _ _
 have f04 := f03.trans f4
 have hX4 : ∀ b, X b → b < h4.next := fun b hb => Nat.lt_of_lt_of_le (hX b hb) f04.next
 refine Wc_seq (Wc_ops (Wo_pre 4 (fun _ => by simp only [go_sem, seval]; rfl) ?_))
 refine Wo_new (v := .slice (some ⟨h4.next, 0, none⟩) 1 1) (B := .cells (ints64 [(e : Int)]) true 1) (by rfl) fun h5 n5 => ?_
 refine Wo_node F (p4.keep n5.kept) (f04.trans (n5.kept.pfr pb)) (lit_kids (kids := [(e : Int)]) (c := 1) hX4 n5) hs rfl fun n st' h6 hr f6 p6 => ?_
 refine (Wo_run (fun _ => by simp only [go_sem, seval]; rfl) ?_)
 subst hr
 exact Wc_ret ⟨rfl, [.int .i64 n], by simp only [resAll, resV, upd, dstUpd, reduceIte, Nat.reduceEqDiff], f6, rfl, p6⟩
end Go.Idl
end

section
namespace Go.Idl
variable {T : Tbl} {X : Nat → Prop}
def mapStepG (kk : KK) (p : Value × Value) : Step := ⟨none, .op (.mapset kk (.t 1) (.c p.1) (.c p.2)), none⟩
def mapInG (es : List (Value × Value)) (p : Value × Value) : List (Value × Value) := setK [p.1] p.1 p.2 es
theorem Wo_mapsG {kk : KK} {rest : List Step} {e : Env} {d : Option (List Dfr)} {Q : Option Value → St → Prop} {m : Nat} (he : e 1 = .map (some m)) : ∀ (ps : List (Value × Value)) {h : Heap} {es : List (Value × Value)}, (∀ p ∈ ps, keyOf kk p.1 = some [p.1]) → h.get m = some (.map kk es) →
 (∀ h', KeptBut m h h' → h'.next = h.next → h'.get m = some (.map kk (ps.foldl mapInG es)) → Wo T rest ⟨e, h', d⟩ Q) → Wo T (ps.map (mapStepG kk) ++ rest) ⟨e, h, d⟩ Q
 | [], h, es, _, hm, k => k h (.refl _ _) rfl hm
 | p :: ps, h, es, hk, hm, k => by
  rw [List.map_cons, List.cons_append]
  refine Wo_op (v := undef) (h' := h.set m (.map kk (mapInG es p))) ?_ ?_
  ·simp only [iop, ev, he, hm, hk p (List.mem_cons_self ..), if_true]; rfl
  ·refine Wo_mapsG he ps (fun q hq => hk q (List.mem_cons_of_mem _ hq)) (set_get' _ _ _) fun h' k1 k2 k3 => k h' (((KeptBut.refl m h).set _ (.inl rfl)).trans k1) k2 k3
def fnV (f : FuncId) : Value := .func (.func f) #[] #[]
def wordM : List (Value × Value) := [(.string ⟨#[110, 117, 108, 108]⟩, fnV 89), (.string ⟨#[114, 111, 111, 116]⟩, fnV 90), (.string ⟨#[110, 101, 119]⟩, fnV 91), (.string ⟨#[97, 114, 114]⟩, fnV 92), (.string ⟨#[108, 101, 110]⟩, fnV 93), (.string ⟨#[105, 110]⟩, fnV 94), (.string ⟨#[105, 109, 103]⟩, fnV 95), (.string ⟨#[115, 105, 122, 101]⟩, fnV 96), (.string ⟨#[112, 114, 111, 109, 111, 116, 101]⟩, fnV 97)]
theorem wordM_fold : wordM.foldl mapInG [] = wordM := by kernel_rfl
theorem words_ok (hT : T.fn 83 = some C83) {h : Heap} : Wk T (.fn 83) [] h (fun o h' => Kept h h' ∧ ∃ m, m < h'.next ∧ o = .ret (.map (some m)) ∧ h'.get m = some (.map (.one .str) wordM)) := by
 refine Wk_fn hT (by simp [C83]) ?_
 simp only [C83]
 refine Wc_seq (Wc_ops (Wo_run (fun _ => by simp only [go_sem, seval]; rfl) ?_))
 show Wc T _ _ _
 refine Wc_seq (Wc_ops (Wo_new (v := .map (some h.next)) (B := .map (.one .str) []) rfl fun h1 n1 => ?_))
 refine Wo_mapsG (m := h.next) (by simp only [upd, dstUpd, reduceIte, Nat.reduceEqDiff]) wordM (by simp [wordM, keyOf, fit1]) n1.get (rest := [⟨(some 2), .op (.mov (.t 1)), none⟩, ⟨(some 0), .op (.mov (.t 2)), none⟩]) fun h' k1 k2 k3 => ?_
 rw [wordM_fold] at k3
 refine (Wo_run (fun _ => by simp only [go_sem, seval]; rfl) ?_)
 refine Wc_ret ⟨.inr rfl, rfl, [.map (some h.next)], by simp only [resAll, resV, upd, dstUpd, reduceIte, Nat.reduceEqDiff], n1.kept.of_but k1 (Nat.le_refl _), h.next, ?_, rfl, k3⟩
 show h.next < h'.next
 rw [k2, n1.next]; exact Nat.lt_succ_self _
structure WordFns (T : Tbl) : Prop where
 knull : T.fn 89 = some C89
 kroot : T.fn 90 = some C90
 kmade : T.fn 91 = some C91
 karr : T.fn 92 = some C92
 klength : T.fn 93 = some C93
 kin : T.fn 94 = some C94
 kimg : T.fn 95 = some C95
 ksize : T.fn 96 = some C96
 kpromote : T.fn 97 = some C97
 nothing : T.fn 103 = some C103
 inside : T.fn 102 = some C102
 words : T.fn 83 = some C83
theorem arr_ok (F : Par1 T) (hI : T.fn 102 = some C102) (hT : T.fn 92 = some C92) {pb : Nat} {ts : List Tok} {ex : PSt → Option (PR Nat)} (hex : OneOk T pb ts 66 ex) : WordOk T pb ts 92 (insideS ts ex 24) := by
 intro X st h pos r p hX hs
 refine Wk_fn2 hT (by simp [C92]) ?_
 simp only [C92]
 refine Wc_seq (Wc_ops (Wo_run (fun _ => by simp only [go_sem, seval]; rfl) ?_))
 show Wc T _ _ _
 refine Wc_seq (Wc_ops (Wo_pre 2 (fun _ => by simp only [go_sem, seval]; rfl) ?_))
 refine Wo_call ((inside_ok F hI hex p hX hs).mono ?_)
 cases r with
 | err a er => rintro o h2 ⟨f2, rfl⟩; exact ⟨rfl, f2, rfl⟩
 | ok n st' =>
  rintro o h2 ⟨f2, rfl, p2⟩
  show Wo T _ _ _
  refine (Wo_run (fun _ => by simp only [go_sem, seval]; rfl) ?_)
  exact Wc_ret ⟨rfl, [.int .i64 n], by simp only [resAll, resV, upd, dstUpd, reduceIte, Nat.reduceEqDiff], f2, rfl, p2⟩
theorem length_ok (F : Par1 T) (hI : T.fn 102 = some C102) (hT : T.fn 93 = some C93) {pb : Nat} {ts : List Tok} {ex : PSt → Option (PR Nat)} (hex : OneOk T pb ts 66 ex) : WordOk T pb ts 93 (insideS ts ex 25) := by
 intro X st h pos r p hX hs
 refine Wk_fn2 hT (by simp [C93]) ?_
 simp only [C93]
 refine Wc_seq (Wc_ops (Wo_run (fun _ => by simp only [go_sem, seval]; rfl) ?_))
 show Wc T _ _ _
 refine Wc_seq (Wc_ops (Wo_pre 2 (fun _ => by simp only [go_sem, seval]; rfl) ?_))
 refine Wo_call ((inside_ok F hI hex p hX hs).mono ?_)
 cases r with
 | err a er => rintro o h2 ⟨f2, rfl⟩; exact ⟨rfl, f2, rfl⟩
 | ok n st' =>
  rintro o h2 ⟨f2, rfl, p2⟩
  show Wo T _ _ _
  refine (Wo_run (fun _ => by simp only [go_sem, seval]; rfl) ?_)
  exact Wc_ret ⟨rfl, [.int .i64 n], by simp only [resAll, resV, upd, dstUpd, reduceIte, Nat.reduceEqDiff], f2, rfl, p2⟩
theorem img_ok (F : Par1 T) (hI : T.fn 102 = some C102) (hT : T.fn 95 = some C95) {pb : Nat} {ts : List Tok} {ex : PSt → Option (PR Nat)} (hex : OneOk T pb ts 66 ex) : WordOk T pb ts 95 (insideS ts ex 27) := by
 intro X st h pos r p hX hs
 refine Wk_fn2 hT (by simp [C95]) ?_
 simp only [C95]
 refine Wc_seq (Wc_ops (Wo_run (fun _ => by simp only [go_sem, seval]; rfl) ?_))
 show Wc T _ _ _
 refine Wc_seq (Wc_ops (Wo_pre 2 (fun _ => by simp only [go_sem, seval]; rfl) ?_))
 refine Wo_call ((inside_ok F hI hex p hX hs).mono ?_)
 cases r with
 | err a er => rintro o h2 ⟨f2, rfl⟩; exact ⟨rfl, f2, rfl⟩
 | ok n st' =>
  rintro o h2 ⟨f2, rfl, p2⟩
  show Wo T _ _ _
  refine (Wo_run (fun _ => by simp only [go_sem, seval]; rfl) ?_)
  exact Wc_ret ⟨rfl, [.int .i64 n], by simp only [resAll, resV, upd, dstUpd, reduceIte, Nat.reduceEqDiff], f2, rfl, p2⟩
theorem promote_ok (F : Par1 T) (hI : T.fn 102 = some C102) (hT : T.fn 97 = some C97) {pb : Nat} {ts : List Tok} {ex : PSt → Option (PR Nat)} (hex : OneOk T pb ts 66 ex) : WordOk T pb ts 97 (insideS ts ex 29) := by
 intro X st h pos r p hX hs
 refine Wk_fn2 hT (by simp [C97]) ?_
 simp only [C97]
 refine Wc_seq (Wc_ops (Wo_run (fun _ => by simp only [go_sem, seval]; rfl) ?_))
 show Wc T _ _ _
 refine Wc_seq (Wc_ops (Wo_pre 2 (fun _ => by simp only [go_sem, seval]; rfl) ?_))
 refine Wo_call ((inside_ok F hI hex p hX hs).mono ?_)
 cases r with
 | err a er => rintro o h2 ⟨f2, rfl⟩; exact ⟨rfl, f2, rfl⟩
 | ok n st' =>
  rintro o h2 ⟨f2, rfl, p2⟩
  show Wo T _ _ _
  refine (Wo_run (fun _ => by simp only [go_sem, seval]; rfl) ?_)
  exact Wc_ret ⟨rfl, [.int .i64 n], by simp only [resAll, resV, upd, dstUpd, reduceIte, Nat.reduceEqDiff], f2, rfl, p2⟩
theorem word_at (F : Par1 T) (W : WordFns T) {pb : Nat} {ts : List Tok} {ex : PSt → Option (PR Nat)} (hex : OneOk T pb ts 66 ex) (w : ByteArray) :
 match wordS ts ex w with
 | some g => ∃ f, findK [.string w] wordM = some (fnV f) ∧ WordOk T pb ts f g
 | none => findK [.string w] wordM = none := by
 unfold wordS
 by_cases h0 : w = ⟨#[110, 117, 108, 108]⟩
 ·rw [if_pos h0]; subst h0; exact ⟨_, by kernel_rfl, null_ok F W.knull⟩
 rw [if_neg h0]
 by_cases h1 : w = ⟨#[114, 111, 111, 116]⟩
 ·rw [if_pos h1]; subst h1; exact ⟨_, by kernel_rfl, root_ok F W.kroot⟩
 rw [if_neg h1]
 by_cases h2 : w = ⟨#[110, 101, 119]⟩
 ·rw [if_pos h2]; subst h2; exact ⟨_, by kernel_rfl, made_ok F W.kmade⟩
 rw [if_neg h2]
 by_cases h3 : w = ⟨#[97, 114, 114]⟩
 ·rw [if_pos h3]; subst h3; exact ⟨_, by kernel_rfl, arr_ok F W.inside W.karr hex⟩
 rw [if_neg h3]
 by_cases h4 : w = ⟨#[108, 101, 110]⟩
 ·rw [if_pos h4]; subst h4; exact ⟨_, by kernel_rfl, length_ok F W.inside W.klength hex⟩
 rw [if_neg h4]
 by_cases h5 : w = ⟨#[105, 110]⟩
 ·rw [if_pos h5]; subst h5; exact ⟨_, by kernel_rfl, in_ok F W.nothing W.kin⟩
 rw [if_neg h5]
 by_cases h6 : w = ⟨#[105, 109, 103]⟩
 ·rw [if_pos h6]; subst h6; exact ⟨_, by kernel_rfl, img_ok F W.inside W.kimg hex⟩
 rw [if_neg h6]
 by_cases h7 : w = ⟨#[115, 105, 122, 101]⟩
 ·rw [if_pos h7]; subst h7; exact ⟨_, by kernel_rfl, size_ok F W.nothing W.ksize⟩
 rw [if_neg h7]
 by_cases h8 : w = ⟨#[112, 114, 111, 109, 111, 116, 101]⟩
 ·rw [if_pos h8]; subst h8; exact ⟨_, by kernel_rfl, promote_ok F W.inside W.kpromote hex⟩
 rw [if_neg h8]
 simp only [wordM, findK, seqL, seq1, cellsV, Bool.and_true, decide_eq_true_eq, h0, h1, h2, h3, h4, h5, h6, h7, h8, if_false]
end Go.Idl
end

section
namespace Go.Idl
variable {T : Tbl} {X : Nat → Prop}
theorem pstrs (l : List ByteArray) {c : Nat} {h h1 : Heap} (n1 : New1 h h1 (.cells (l.flatMap strC) true 1)) : strsAt h1 (.slice (some ⟨h.next, 0, none⟩) l.length c) l :=
 ⟨.inr ⟨h.next, c, rfl, by rw [n1.next]; exact Nat.lt_succ_self _, .inr ⟨true, 1, n1.get⟩⟩, fun _ _ => trivial⟩
theorem sign_step (F : Par1 T) (hT : T.fn 85 = some C85) {num : Int → ByteArray} {pb : Nat} {ts : List Tok} {f : Nat} (hback : OneOk T pb ts 65 (backS num ts f)) (hsign : OneOk T pb ts 85 (signS num ts f)) : OneOk T pb ts 85 (signS num ts (f + 1)) := by
 intro X st h r p hX hs
 rw [signS] at hs
 cases ht : ts[st.i]? with
 | none => rw [ht] at hs; cases hs
 | some t =>
  rw [ht] at hs
  simp only at hs
  have hi := (List.getElem?_eq_some_iff.1 ht).1
  have hfew := p.few
  refine Wk_fn2 hT (by simp [C85]) ?_
  simp only [C85]
  refine Wc_seq (Wc_ops (Wo_run (fun _ => by simp only [go_sem, seval]; rfl) ?_))
  show Wc T _ _ _
  refine Wc_seq (Wc_ops (Wo_pre 1 (fun _ => by simp only [go_sem, seval]; rfl) ?_))
  refine Wo_call (Wk_kept (now_ok F p ht) fun h2 k2 => ?_)
  refine Wo_op (v := ptr h2.next 0) (h' := h2.new (.cells z5 true 0)) rfl ?_
  refine Wo_store_new (cs := t.cells) (h := h2) (by first | rfl | assumption) (by first | rfl | assumption) rfl rfl fun h3 n3 => Wo_nil ?_
  show Wc T _ _ _
  have k3 := k2.trans n3.kept
  refine Wc_seq (Wc_seq (Wc_ops (Wo_pre 1 (fun _ => by simp only [go_sem, seval]; rfl) ?_)))
  refine Wo_new (v := .slice (some ⟨h3.next, 0, none⟩) 3 3) (B := .cells (sgnL.flatMap strC) true 1) (by rfl) fun h4 n4 => ?_
  refine Wo_call (Wk_kept (is_ok F ((p.keep k3).keep n4.kept) ht (pstrs sgnL n4) (by decide)) fun h5 k5 => ?_)
  have k35 := n4.kept.trans k5
  have k05 := k3.trans k35
  have p5 := p.keep k05
  have hX5 : ∀ b, X b → b < h5.next := fun b hb => Nat.lt_of_lt_of_le (hX b hb) k05.next
  have hlt3 : h2.next < h3.next := by rw [n3.next]; exact Nat.lt_succ_self _
  have hg5 : h5.get h2.next = some (.cells t.cells true 0) := by rw [k35.get _ hlt3]; exact n3.get
  cases hb : isB t sgnL
  ·rw [hb] at hs
   simp only [Bool.false_eq_true, if_false] at hs
   refine (Wo_run (fun _ => by simp only [go_sem, seval, hb]; rfl) ?_)
   show Wc T _ _ _
   refine Wc_cond true (by first | rfl | assumption) (fun _ => ?_) nofun
   refine Wc_seq (Wc_ops (Wo_pre 1 (fun _ => by simp only [go_sem, seval]; rfl) ?_))
   refine Wo_call ((hback X st h5 r p5 hX5 hs).mono ?_)
   cases r with
   | err a er => rintro o h6 ⟨f6, rfl⟩; exact ⟨rfl, (k05.pfr pb).trans f6, rfl⟩
   | ok n st' =>
    rintro o h6 ⟨f6, rfl, p6⟩
    show Wo T _ _ _
    refine (Wo_run (fun _ => by simp only [go_sem, seval]; rfl) ?_)
    exact Wc_ret ⟨rfl, [.int .i64 n], by simp only [resAll, resV, upd, dstUpd, reduceIte, Nat.reduceEqDiff], (k05.pfr pb).trans f6, rfl, p6⟩
  rw [hb, if_pos rfl] at hs
  refine (Wo_run (fun _ => by simp only [go_sem, seval, hb]; rfl) ?_)
  show Wc T _ _ _
  refine Wc_cond false (by first | rfl | assumption) nofun (fun _ => Wc_skip ?_)
  show Wc T _ _ _
  obtain ⟨tv, lv, nds, hg, _⟩ := p5.rep
  have hw : IntKind.i64.wrap (((st.i : Nat) : Int) + 1) = ((st.i + 1 : Nat) : Int) := by rw [wrap64] <;> omega
  obtain ⟨pgo, fgo⟩ := p5.go (i := st.i + 1) hg
  refine Wc_seq (Wc_ops (Wo_pre 7 (fun _ => by simp only [go_sem, seval, hg, hw]; rfl) ?_))
  refine Wo_op (iop_store_at (k := 1) (v := .int .i64 ((st.i + 1 : Nat) : Int)) (by first | rfl | assumption) (by simp only [ev, upd, dstUpd, reduceIte, Nat.reduceEqDiff]; rfl) hg (by simp)) (Wo_nil ?_)
  show Wc T _ _ _
  have hset : ([tv, Value.int .i64 st.i, lv].set 1 (.int .i64 ((st.i + 1 : Nat) : Int))) = [tv, .int .i64 ((st.i + 1 : Nat) : Int), lv] := rfl
  rw [hset]
  have hn05 := k05.next
  have hpb3 : pb < h3.next := by have := p.lt; have := k3.next; omega
  have hpb2 : pb < h2.next := by have := p.lt; have := k2.next; omega
  have hg6 : (h5.set pb (.cells [tv, .int .i64 ((st.i + 1 : Nat) : Int), lv] true 0)).get h2.next = some (.cells t.cells true 0) := by rw [set_get_ne' _ _ (by omega)]; exact hg5
  generalize h5.set pb (.cells [tv, .int .i64 ((st.i + 1 : Nat) : Int), lv] true 0) = h6 at pgo fgo hg6 ⊢
  have f06 := (k05.pfr pb).trans fgo
  have hX6 : ∀ b, X b → b < h6.next := fun b hb => Nat.lt_of_lt_of_le (hX b hb) f06.next
  refine Wc_seq (Wc_ops (Wo_pre 1 (fun _ => by simp only [go_sem, seval]; rfl) ?_))
  rcases andS_some hs with ⟨a, er, h1, rfl⟩ | ⟨e, st2, h1, hs⟩
  ·refine Wo_call ((hsign X _ h6 _ pgo hX6 h1).mono ?_)
   rintro o h7 ⟨f7, rfl⟩
   exact ⟨rfl, f06.trans f7, rfl⟩
  refine Wo_call ((hsign X _ h6 _ pgo hX6 h1).mono ?_)
  rintro o h7 ⟨f7, rfl, p7⟩
  show Wo T _ _ _
  refine (Wo_run (fun _ => by simp only [go_sem, seval]; rfl) ?_)
  show Wc T _ _ _
  have f07 := f06.trans f7
  have hX7 : ∀ b, X b → b < h7.next := fun b hb => Nat.lt_of_lt_of_le (hX b hb) f07.next
  have hg7 : h7.get h2.next = some (.cells t.cells true 0) := by
   rw [f7.get _ (by have := fgo.next; have := k35.next; omega) (by omega) (fun cs e => by rw [hg6] at e; simp at e)]; exact hg6
  refine Wc_seq (Wc_ops (Wo_pre 6 (fun _ => by simp only [go_sem, seval, hg7, Tok.cells]; rfl) ?_))
  refine Wo_new (v := .slice (some ⟨h7.next, 0, none⟩) 1 1) (B := .cells (ints64 [(e : Int)]) true 1) (by rfl) fun h8 n8 => ?_
  refine Wo_node F (p7.keep n8.kept) (f07.trans (n8.kept.pfr pb)) (lit_kids (kids := [(e : Int)]) (c := 1) hX7 n8) hs rfl fun n st' h9 hr f9 p9 => ?_
  refine (Wo_run (fun _ => by simp only [go_sem, seval]; rfl) ?_)
  subst hr
  exact Wc_ret ⟨rfl, [.int .i64 n], by simp only [resAll, resV, upd, dstUpd, reduceIte, Nat.reduceEqDiff], f9, rfl, p9⟩
end Go.Idl
end

section
namespace Go.Idl
variable {T : Tbl} {X : Nat → Prop}
def lvlC (n : Nat) : List Value := [.slice (some ⟨n, 0, none⟩) 2 2, .slice (some ⟨n + 1, 0, none⟩) 1 1, .slice (some ⟨n + 2, 0, none⟩) 2 2, .slice (some ⟨n + 3, 0, none⟩) 2 2, .slice (some ⟨n + 4, 0, none⟩) 3 3]
structure LvlAt (n : Nat) (h : Heap) : Prop where
 lt : n + 5 < h.next
 all : h.get (n + 5) = some (.cells (lvlC n) true 1)
 each : ∀ k, k < 5 → h.get (n + k) = some (.cells ((lvlL.getD k []).flatMap strC) true 1)
theorem LvlAt.pfr {n pb : Nat} {ts : List Tok} {st : PSt} {h h' : Heap} (l : LvlAt n h) (p : Par pb ts X h st) (f : PFr pb h h') : LvlAt n h' := by
 have go : ∀ (b : Nat) (cs : List Value), b < h.next → h.get b = some (.cells cs true 1) → h'.get b = some (.cells cs true 1) := fun b cs hb hg => by
  rw [f.get b hb (fun e => by subst e; exact p.no1 _ hg) (fun cs e => by rw [hg] at e; simp at e)]; exact hg
 have := l.lt
 exact ⟨Nat.lt_of_lt_of_le l.lt f.next, go _ _ l.lt l.all, fun k hk => go _ _ (by omega) (l.each k hk)⟩
theorem LvlAt.at {n : Nat} {h : Heap} (l : LvlAt n h) {k : Nat} (hk : k < 5) : ∃ v, (lvlC n)[k * 1]? = some v ∧ strsAt h v (lvlL.getD k []) := by
 have hl := l.lt
 have e := l.each k hk
 match k, hk with
 | 0, _ => exact ⟨_, rfl, .inr ⟨n + 0, 2, rfl, by omega, .inr ⟨_, _, e⟩⟩, fun _ _ => trivial⟩
 | 1, _ => exact ⟨_, rfl, .inr ⟨n + 1, 1, rfl, by omega, .inr ⟨_, _, e⟩⟩, fun _ _ => trivial⟩
 | 2, _ => exact ⟨_, rfl, .inr ⟨n + 2, 2, rfl, by omega, .inr ⟨_, _, e⟩⟩, fun _ _ => trivial⟩
 | 3, _ => exact ⟨_, rfl, .inr ⟨n + 3, 2, rfl, by omega, .inr ⟨_, _, e⟩⟩, fun _ _ => trivial⟩
 | 4, _ => exact ⟨_, rfl, .inr ⟨n + 4, 3, rfl, by omega, .inr ⟨_, _, e⟩⟩, fun _ _ => trivial⟩
theorem levels_ok (hT : T.fn 84 = some C84) {h : Heap} : Wk T (.fn 84) [] h (fun o h' => Kept h h' ∧ o = .ret (.slice (some ⟨h.next + 5, 0, none⟩) 5 5) ∧ LvlAt h.next h') := by
 refine Wk_fn hT (by simp [C84]) ?_
 simp only [C84]
 refine Wc_seq (Wc_ops (Wo_run (fun _ => by simp only [go_sem, seval]; rfl) ?_))
 show Wc T _ _ _
 refine Wc_seq (Wc_ops (Wo_new (v := .slice (some ⟨h.next, 0, none⟩) 2 2) (B := .cells ((lvlL.getD 0 []).flatMap strC) true 1) (by rfl) fun h1 n1 => ?_))
 refine Wo_new (v := .slice (some ⟨h1.next, 0, none⟩) 1 1) (B := .cells ((lvlL.getD 1 []).flatMap strC) true 1) (by rfl) fun h2 n2 => ?_
 refine Wo_new (v := .slice (some ⟨h2.next, 0, none⟩) 2 2) (B := .cells ((lvlL.getD 2 []).flatMap strC) true 1) (by rfl) fun h3 n3 => ?_
 refine Wo_new (v := .slice (some ⟨h3.next, 0, none⟩) 2 2) (B := .cells ((lvlL.getD 3 []).flatMap strC) true 1) (by rfl) fun h4 n4 => ?_
 refine Wo_new (v := .slice (some ⟨h4.next, 0, none⟩) 3 3) (B := .cells ((lvlL.getD 4 []).flatMap strC) true 1) (by rfl) fun h5 n5 => ?_
 have e1 : h1.next = h.next + 1 := n1.next
 have e2 : h2.next = h.next + 2 := by rw [n2.next, e1]
 have e3 : h3.next = h.next + 3 := by rw [n3.next, e2]
 have e4 : h4.next = h.next + 4 := by rw [n4.next, e3]
 have e5 : h5.next = h.next + 5 := by rw [n5.next, e4]
 refine Wo_new (v := .slice (some ⟨h5.next, 0, none⟩) 5 5) (B := .cells (lvlC h.next) true 1) ?_ fun h6 n6 => ?_
 ·have g1 := e1; have g2 := e2; have g3 := e3; have g4 := e4
  simp only [iop, evps, List.map_cons, List.map_nil, ev, upd, dstUpd, reduceIte, Nat.reduceEqDiff, g1, g2, g3, g4]
  rfl
 refine (Wo_run (fun _ => by simp only [go_sem, seval]; rfl) ?_)
 have e6 : h6.next = h.next + 6 := by rw [n6.next, e5]
 refine Wc_ret ⟨.inr rfl, rfl, [.slice (some ⟨h5.next, 0, none⟩) 5 5], by simp only [resAll, resV, upd, dstUpd, reduceIte, Nat.reduceEqDiff], ((((n1.kept.trans n2.kept).trans n3.kept).trans n4.kept).trans n5.kept).trans n6.kept, by rw [e5]; rfl, ?_⟩
 refine ⟨by show h.next + 5 < h6.next; omega, ?_, ?_⟩
 ·rw [← e5]; exact n6.get
 ·intro k hk
  show h6.get _ = _
  rw [n6.kept.get _ (by omega)]
  match k, hk with
  | 0, _ => rw [n5.kept.get _ (by omega), n4.kept.get _ (by omega), n3.kept.get _ (by omega), n2.kept.get _ (by omega)]; exact n1.get
  | 1, _ => rw [n5.kept.get _ (by omega), n4.kept.get _ (by omega), n3.kept.get _ (by omega), ← e1]; exact n2.get
  | 2, _ => rw [n5.kept.get _ (by omega), n4.kept.get _ (by omega), ← e2]; exact n3.get
  | 3, _ => rw [n5.kept.get _ (by omega), ← e3]; exact n4.get
  | 4, _ => rw [← e4]; exact n5.get
end Go.Idl
end

section
namespace Go.Idl
variable {T : Tbl} {X : Nat → Prop}
def ChainOk (T : Tbl) (pb : Nat) (ts : List Tok) (c : Nat → PSt → Option (PR Nat)) : Prop :=
 ∀ (X : Nat → Prop) (st : PSt) (h : Heap) (level : Nat) (r : PR Nat), Par pb ts X h st → (∀ b, X b → b < h.next) → level ≤ 5 → c level st = some r → Wk T (.fn 76) [ptr pb 0, .int .i64 level] h (fun o h' => PPost pb ts X h (fun n : Nat => .ret (.int .i64 n)) r o h')
theorem chain_step (F : Par1 T) (hL : T.fn 84 = some C84) (hT : T.fn 76 = some C76) {num : Int → ByteArray} {pb : Nat} {ts : List Tok} {f : Nat} (hsign : OneOk T pb ts 85 (signS num ts f)) (hchain : ∀ g, g ≤ f → ChainOk T pb ts (chainS num ts g)) : ChainOk T pb ts (chainS num ts (f + 1)) := by
 intro X st h level r p hX hlv hs
 rw [chainS] at hs
 have hfew := p.few
 refine Wk_fn2 hT (by simp [C76]) ?_
 simp only [C76]
 refine Wc_seq (Wc_ops (Wo_run (fun _ => by simp only [go_sem, seval]; rfl) ?_))
 show Wc T _ _ _
 refine Wc_seq (Wc_ops (Wo_call ((levels_ok hL).mono ?_)))
 rintro o h1 ⟨k1, rfl, lv1⟩
 show Wo T _ _ _
 refine (Wo_run (fun _ => by simp only [go_sem, seval]; rfl) ?_)
 show Wc T _ _ _
 have p1 := p.keep k1
 have hX1 : ∀ b, X b → b < h1.next := fun b hb => Nat.lt_of_lt_of_le (hX b hb) k1.next
 by_cases h5 : level = 5
 ·rw [if_pos h5] at hs
  have hb : (((level : Nat) : Int) == ((5 : Nat) : Int)) = true := by rw [h5]; rfl
  refine Wc_seq (Wc_seq (Wc_ops (Wo_run (fun _ => by simp only [go_sem, seval, hb]; rfl) ?_)))
  show Wc T _ _ _
  refine Wc_cond true (congrArg Value.bool hb) (fun _ => ?_) nofun
  refine Wc_seq (Wc_ops (Wo_pre 1 (fun _ => by simp only [go_sem, seval]; rfl) ?_))
  refine Wo_call ((hsign X st h1 r p1 hX1 hs).mono ?_)
  cases r with
  | err a er => rintro o h2 ⟨f2, rfl⟩; exact ⟨rfl, (k1.pfr pb).trans f2, rfl⟩
  | ok n st' =>
   rintro o h2 ⟨f2, rfl, p2⟩
   show Wo T _ _ _
   refine (Wo_run (fun _ => by simp only [go_sem, seval]; rfl) ?_)
   exact Wc_ret ⟨rfl, [.int .i64 n], by simp only [resAll, resV, upd, dstUpd, reduceIte, Nat.reduceEqDiff], (k1.pfr pb).trans f2, rfl, p2⟩
 rw [if_neg h5] at hs
 have hl5 : level < 5 := by omega
 have hb : (((level : Nat) : Int) == ((5 : Nat) : Int)) = false := beq_eq_false_iff_ne.2 (by omega)
 have hwl : IntKind.i64.wrap (((level : Nat) : Int) + 1) = ((level + 1 : Nat) : Int) := by rw [wrap64] <;> omega
 refine Wc_seq (Wc_seq (Wc_ops (Wo_run (fun _ => by simp only [go_sem, seval, hb]; rfl) ?_)))
 show Wc T _ _ _
 refine Wc_cond false (congrArg Value.bool hb) nofun (fun _ => Wc_skip ?_)
 show Wc T _ _ _
 refine Wc_seq (Wc_ops (Wo_pre 3 (fun _ => by simp only [go_sem, seval, hwl]; rfl) ?_))
 rcases andS_some hs with ⟨a, er, h1', rfl⟩ | ⟨e, st2, h1', hs⟩
 ·refine Wo_call ((hchain f (Nat.le_refl _) X st h1 (level + 1) _ p1 hX1 (by omega) h1').mono ?_)
  rintro o h2 ⟨f2, rfl⟩
  exact ⟨rfl, (k1.pfr pb).trans f2, rfl⟩
 refine Wo_call ((hchain f (Nat.le_refl _) X st h1 (level + 1) _ p1 hX1 (by omega) h1').mono ?_)
 rintro o h2 ⟨f2, rfl, p2⟩
 show Wo T _ _ _
 refine (Wo_run (fun _ => by simp only [go_sem, seval]; rfl) ?_)
 show Wc T _ _ _
 have f02 := (k1.pfr pb).trans f2
 have lv2 := lv1.pfr p1 f2
 have loop : ∀ (g : Nat), g ≤ f → ∀ (ev' : Env) (h5 : Heap) (e : Nat) (st2 : PSt), chainL num ts g level e st2 = some r → ev' 0 = .pointer (some ⟨pb, 0, none⟩) → ev' 1 = .int .i64 ((level : Nat) : Int) → ev' 5 = .slice (some ⟨h.next + 5, 0, none⟩) 5 5 → ev' 6 = .int .i64 ((e : Nat) : Int) → PFr pb h h5 → LvlAt h.next h5 → Par pb ts X h5 st2 →
  Wc T (.loop C76L0) ⟨ev', h5, some []⟩ (Tb 0 fun x s' => match x with
   | .normal => s'.d = some [] ∧ ∃ n st', r = .ok n st' ∧ s'.e 6 = .int .i64 ((n : Nat) : Int) ∧ PFr pb h s'.h ∧ Par pb ts X s'.h st'
   | .pan v => s'.d = some [] ∧ PPost pb ts X h (fun n : Nat => .ret (.int .i64 n)) r (.pan v) s'.h
   | _ => False) := by
  intro g
  induction g with
  | zero => intro _ ev' h5 e st2 hm; rw [chainL] at hm; cases hm
  | succ g ih =>
   intro hgf ev' h5 e st2 hm e0 e1 e5 e6 f5 lv5 p5
   rw [chainL] at hm
   cases ht : ts[st2.i]? with
   | none => rw [ht] at hm; cases hm
   | some t =>
    rw [ht] at hm
    simp only at hm
    have hi := (List.getElem?_eq_some_iff.1 ht).1
    obtain ⟨sv, hsv, hstr⟩ := lv5.at hl5
    have hall := lv5.all
    have hX5 : ∀ b, X b → b < h5.next := fun b hb => Nat.lt_of_lt_of_le (hX b hb) f5.next
    have hlen : (lvlL.getD level []).length < 1000 := by
     match level, hl5 with
     | 0, _ | 1, _ | 2, _ | 3, _ | 4, _ => decide
    refine Wc_unroll (Wc_seq (Wc_seq (Wc_ops (Wo_pre 5 (fun _ => by simp only [go_sem, seval, e0, e1, e5, idx_ok hl5, hall, hsv]; rfl) ?_))))
    refine Wo_call (Wk_kept (is_ok F p5 ht hstr hlen) fun h6 k6 => ?_)
    refine Wo_nil ?_
    show Wc T _ _ _
    have p6 := p5.keep k6
    have f06 := f5.trans (k6.pfr pb)
    cases hb : isB t (lvlL.getD level [])
    ·rw [hb] at hm
     simp only [Bool.false_eq_true, if_false, Option.some.injEq] at hm
     refine Wc_cond false (by simp only [go_sem, seval, hb] <;> first | rfl | assumption | (symm; assumption)) nofun (fun _ => Wc_exit ?_)
     exact ⟨rfl, e, st2, hm.symm, (by simp only [go_sem, seval, e6] <;> first | rfl | assumption | (symm; assumption)), f06, p6⟩
    rw [hb, if_pos rfl] at hm
    refine Wc_cond true (by simp only [go_sem, seval, hb] <;> first | rfl | assumption | (symm; assumption)) (fun _ => Wc_skip ?_) nofun
    show Wc T _ _ _
    have lv6 := lv5.pfr p5 (k6.pfr pb)
    refine Wc_block (Wc_seq (Wc_ops (Wo_pre 1 (fun _ => by simp only [go_sem, seval, e0]; rfl) ?_)))
    refine Wo_call (Wk_kept (now_ok F p6 ht) fun h7 k7 => ?_)
    refine Wo_op (v := ptr h7.next 0) (h' := h7.new (.cells z5 true 0)) rfl ?_
    refine Wo_store_new (cs := t.cells) (h := h7) (by first | rfl | assumption) (by first | rfl | assumption) rfl rfl fun h8 n8 => Wo_nil ?_
    show Wc T _ _ _
    have k8 := k7.trans n8.kept
    have p8 := p6.keep k8
    have lv8 := lv6.pfr p6 (k8.pfr pb)
    have f08 := f06.trans (k8.pfr pb)
    have hg8 := n8.get
    have hlt8 : h7.next < h8.next := by rw [n8.next]; exact Nat.lt_succ_self _
    have hpb7 : pb < h7.next := by have := p6.lt; have := k7.next; omega
    obtain ⟨tv, lv, nds, hg, _⟩ := p8.rep
    have hw : IntKind.i64.wrap (((st2.i : Nat) : Int) + 1) = ((st2.i + 1 : Nat) : Int) := by rw [wrap64] <;> omega
    obtain ⟨pgo, fgo⟩ := p8.go (i := st2.i + 1) hg
    refine Wc_seq (Wc_ops (Wo_pre 7 (fun _ => by simp only [go_sem, seval, e0, hg, hw]; rfl) ?_))
    refine Wo_op (iop_store_at (k := 1) (v := .int .i64 ((st2.i + 1 : Nat) : Int)) (by first | rfl | assumption) (by simp only [ev, upd, dstUpd, reduceIte, Nat.reduceEqDiff]; rfl) hg (by simp)) (Wo_nil ?_)
    show Wc T _ _ _
    have hset : ([tv, Value.int .i64 st2.i, lv].set 1 (.int .i64 ((st2.i + 1 : Nat) : Int))) = [tv, .int .i64 ((st2.i + 1 : Nat) : Int), lv] := rfl
    rw [hset]
    have hg9 : (h8.set pb (.cells [tv, .int .i64 ((st2.i + 1 : Nat) : Int), lv] true 0)).get h7.next = some (.cells t.cells true 0) := by rw [set_get_ne' _ _ (by omega)]; exact hg8
    have lv9 := lv8.pfr p8 fgo
    generalize h8.set pb (.cells [tv, .int .i64 ((st2.i + 1 : Nat) : Int), lv] true 0) = h9 at pgo fgo hg9 lv9 ⊢
    have f09 := f08.trans fgo
    have hX9 : ∀ b, X b → b < h9.next := fun b hb => Nat.lt_of_lt_of_le (hX b hb) f09.next
    refine Wc_seq (Wc_ops (Wo_pre 3 (fun _ => by simp only [go_sem, seval, e0, e1, hwl]; rfl) ?_))
    rcases andS_some hm with ⟨a, er, h1', hr⟩ | ⟨q, st3, h1', hm⟩
    ·refine Wo_call ((hchain g (by omega) X _ h9 (level + 1) _ pgo hX9 (by omega) h1').mono ?_)
     rintro o h10 ⟨f10, rfl⟩
     subst hr
     exact ⟨rfl, f09.trans f10, rfl⟩
    refine Wo_call ((hchain g (by omega) X _ h9 (level + 1) _ pgo hX9 (by omega) h1').mono ?_)
    rintro o h10 ⟨f10, rfl, p10⟩
    show Wo T _ _ _
    refine (Wo_run (fun _ => by simp only [go_sem, seval]; rfl) ?_)
    show Wc T _ _ _
    have f010 := f09.trans f10
    have lv10 := lv9.pfr pgo f10
    have hX10 : ∀ b, X b → b < h10.next := fun b hb => Nat.lt_of_lt_of_le (hX b hb) f010.next
    have hg10 : h10.get h7.next = some (.cells t.cells true 0) := by
     rw [f10.get _ (by have := fgo.next; omega) (by omega) (fun cs e => by rw [hg9] at e; simp at e)]; exact hg9
    rcases andS_some hm with ⟨a, er, h2', _⟩ | ⟨n, st4, h2', hm⟩
    ·obtain ⟨_, _, _, h3'⟩ := mkS_some h2'
     cases h3'
    refine Wc_ops (Wo_pre 7 (fun _ => by simp only [go_sem, seval, e0, e6, hg10, Tok.cells]; rfl) ?_)
    refine Wo_new (v := .slice (some ⟨h10.next, 0, none⟩) 2 2) (B := .cells (ints64 [(e : Int), (q : Int)]) true 1) (by rfl) fun h11 n11 => ?_
    refine Wo_node F (p10.keep n11.kept) (.refl pb h11) (lit_kids (kids := [(e : Int), (q : Int)]) (c := 2) hX10 n11) h2' rfl fun n' st' h12 hr f12 p12 => ?_
    cases hr
    refine (Wo_run (fun _ => by simp only [go_sem, seval]; rfl) ?_)
    have lv12 : LvlAt h.next h12 := (lv10.pfr p10 (n11.kept.pfr pb)).pfr (p10.keep n11.kept) f12
    exact ih (by omega) _ h12 n st4 hm (by simp only [go_sem, seval, e0] <;> first | rfl | assumption | (symm; assumption)) (by simp only [go_sem, seval, e1] <;> first | rfl | assumption | (symm; assumption)) (by simp only [go_sem, seval, e5] <;> first | rfl | assumption | (symm; assumption)) (by first | rfl | assumption) ((f010.trans (n11.kept.pfr pb)).trans f12) lv12 p12
 refine Wc_seq (Wc_block ((loop f (Nat.le_refl _) _ h2 e st2 hs (by first | rfl | assumption) (by first | rfl | assumption) (by first | rfl | assumption) (by first | rfl | assumption) f02 lv2 p2).mono ?_))
 have rest : ∀ s' : St, (s'.d = some [] ∧ ∃ n st', r = .ok n st' ∧ s'.e 6 = .int .i64 ((n : Nat) : Int) ∧ PFr pb h s'.h ∧ Par pb ts X s'.h st') → Wc T (.seq (.ops [⟨(some 48), .op (.mov (.t 6)), none⟩, ⟨(some 4), .op (.mov (.t 48)), none⟩]) .ret) s' (fun x s => x = .ret ∧ s.d = some [] ∧ ∃ vs, resAll s.e s.h [.tmp 4] = some vs ∧ PPost pb ts X h (fun n : Nat => .ret (.int .i64 n)) r (.ret (tup vs)) s.h) := by
  rintro ⟨e', h', d'⟩ ⟨hd, n, st', hr, e6, f6, p6⟩
  simp only at hd e6 f6 p6
  rw [hd]
  refine Wc_seq (Wc_ops (Wo_run (fun _ => by simp only [go_sem, seval, e6]; rfl) ?_))
  subst hr
  exact Wc_ret ⟨rfl, rfl, [.int .i64 n], by simp only [resAll, resV, upd, dstUpd, reduceIte, Nat.reduceEqDiff], f6, rfl, p6⟩
 intro x s' hx
 cases x with
 | normal => exact (rest s' hx).mono fun y s hy => by obtain ⟨hy1, hy⟩ := hy; subst hy1; exact hy
 | brk i =>
  simp only [Tb] at hx ⊢
  split at hx
  ·rename_i hi
   rw [if_pos hi]
   exact (rest s' hx).mono fun y s hy => by obtain ⟨hy1, hy⟩ := hy; subst hy1; exact hy
  ·exact hx.elim
 | ret => exact hx.elim
 | pan v => exact hx
end Go.Idl
end

section
namespace Go.Idl
variable {T : Tbl} {X : Nat → Prop}
theorem expr_step (F : Par1 T) (hT : T.fn 66 = some C66) {num : Int → ByteArray} {pb : Nat} {ts : List Tok} {f : Nat} (hchain : ChainOk T pb ts (chainS num ts f)) : OneOk T pb ts 66 (exprS num ts (f + 1)) := by
 intro X st h r p hX hs
 rw [exprS] at hs
 have hfew := p.few
 refine Wk_fn2 hT (by simp [C66]) ?_
 simp only [C66]
 refine Wc_seq (Wc_ops (Wo_run (fun _ => by simp only [go_sem, seval]; rfl) ?_))
 show Wc T _ _ _
 refine Wc_seq (Wc_ops (Wo_pre 1 (fun _ => by simp only [go_sem, seval]; rfl) ?_))
 rcases andS_some hs with ⟨a, er, h1', rfl⟩ | ⟨e, st2, h1', hs⟩
 ·refine Wo_call ((hchain X st h 0 _ p hX (by omega) h1').mono ?_)
  rintro o h2 ⟨f2, rfl⟩
  exact ⟨rfl, f2, rfl⟩
 refine Wo_call ((hchain X st h 0 _ p hX (by omega) h1').mono ?_)
 rintro o h2 ⟨f2, rfl, p2⟩
 show Wo T _ _ _
 refine (Wo_run (fun _ => by simp only [go_sem, seval]; rfl) ?_)
 show Wc T _ _ _
 cases ht : ts[st2.i]? with
 | none => rw [ht] at hs; cases hs
 | some t =>
  rw [ht] at hs
  simp only at hs
  have hi := (List.getElem?_eq_some_iff.1 ht).1
  refine Wc_seq (Wc_seq (Wc_ops (Wo_pre 1 (fun _ => by simp only [go_sem, seval]; rfl) ?_)))
  refine Wo_new (v := .slice (some ⟨h2.next, 0, none⟩) 4 4) (B := .cells (cmpL.flatMap strC) true 1) (by rfl) fun h4 n4 => ?_
  refine Wo_call (Wk_kept (is_ok F (p2.keep n4.kept) ht (pstrs cmpL n4) (by decide)) fun h5 k5 => ?_)
  have k25 := n4.kept.trans k5
  have p5 := p2.keep k25
  have f05 := f2.trans (k25.pfr pb)
  cases hb : isB t cmpL
  ·rw [hb] at hs
   simp only [Bool.false_eq_true, if_false, Option.some.injEq] at hs
   refine (Wo_run (fun _ => by simp only [go_sem, seval, hb]; rfl) ?_)
   show Wc T _ _ _
   refine Wc_cond true (by first | rfl | assumption) (fun _ => ?_) nofun
   refine Wc_seq (Wc_ops (Wo_run (fun _ => by simp only [go_sem, seval]; rfl) ?_))
   subst hs
   exact Wc_ret ⟨rfl, [.int .i64 e], by simp only [resAll, resV, upd, dstUpd, reduceIte, Nat.reduceEqDiff], f05, rfl, p5⟩
  rw [hb, if_pos rfl] at hs
  refine (Wo_run (fun _ => by simp only [go_sem, seval, hb]; rfl) ?_)
  show Wc T _ _ _
  refine Wc_cond false (by first | rfl | assumption) nofun (fun _ => Wc_skip ?_)
  show Wc T _ _ _
  refine Wc_seq (Wc_ops (Wo_pre 1 (fun _ => by simp only [go_sem, seval]; rfl) ?_))
  refine Wo_call (Wk_kept (now_ok F p5 ht) fun h7 k7 => ?_)
  refine Wo_op (v := ptr h7.next 0) (h' := h7.new (.cells z5 true 0)) rfl ?_
  refine Wo_store_new (cs := t.cells) (h := h7) (by first | rfl | assumption) (by first | rfl | assumption) rfl rfl fun h8 n8 => Wo_nil ?_
  show Wc T _ _ _
  have k8 := k7.trans n8.kept
  have p8 := p5.keep k8
  have f08 := f05.trans (k8.pfr pb)
  have hg8 := n8.get
  have hlt8 : h7.next < h8.next := by rw [n8.next]; exact Nat.lt_succ_self _
  have hpb7 : pb < h7.next := by have := p5.lt; have := k7.next; omega
  obtain ⟨tv, lv, nds, hg, _⟩ := p8.rep
  have hw : IntKind.i64.wrap (((st2.i : Nat) : Int) + 1) = ((st2.i + 1 : Nat) : Int) := by rw [wrap64] <;> omega
  obtain ⟨pgo, fgo⟩ := p8.go (i := st2.i + 1) hg
  refine Wc_seq (Wc_ops (Wo_pre 7 (fun _ => by simp only [go_sem, seval, hg, hw]; rfl) ?_))
  refine Wo_op (iop_store_at (k := 1) (v := .int .i64 ((st2.i + 1 : Nat) : Int)) (by first | rfl | assumption) (by simp only [ev, upd, dstUpd, reduceIte, Nat.reduceEqDiff]; rfl) hg (by simp)) (Wo_nil ?_)
  show Wc T _ _ _
  have hset : ([tv, Value.int .i64 st2.i, lv].set 1 (.int .i64 ((st2.i + 1 : Nat) : Int))) = [tv, .int .i64 ((st2.i + 1 : Nat) : Int), lv] := rfl
  rw [hset]
  have hg9 : (h8.set pb (.cells [tv, .int .i64 ((st2.i + 1 : Nat) : Int), lv] true 0)).get h7.next = some (.cells t.cells true 0) := by rw [set_get_ne' _ _ (by omega)]; exact hg8
  generalize h8.set pb (.cells [tv, .int .i64 ((st2.i + 1 : Nat) : Int), lv] true 0) = h9 at pgo fgo hg9 ⊢
  have f09 := f08.trans fgo
  have hX9 : ∀ b, X b → b < h9.next := fun b hb => Nat.lt_of_lt_of_le (hX b hb) f09.next
  refine Wc_seq (Wc_ops (Wo_pre 1 (fun _ => by simp only [go_sem, seval]; rfl) ?_))
  rcases andS_some hs with ⟨a, er, h1', rfl⟩ | ⟨q, st3, h1', hs⟩
  ·refine Wo_call ((hchain X _ h9 0 _ pgo hX9 (by omega) h1').mono ?_)
   rintro o h10 ⟨f10, rfl⟩
   exact ⟨rfl, f09.trans f10, rfl⟩
  refine Wo_call ((hchain X _ h9 0 _ pgo hX9 (by omega) h1').mono ?_)
  rintro o h10 ⟨f10, rfl, p10⟩
  show Wo T _ _ _
  refine (Wo_run (fun _ => by simp only [go_sem, seval]; rfl) ?_)
  show Wc T _ _ _
  have f010 := f09.trans f10
  have hX10 : ∀ b, X b → b < h10.next := fun b hb => Nat.lt_of_lt_of_le (hX b hb) f010.next
  have hg10 : h10.get h7.next = some (.cells t.cells true 0) := by
   rw [f10.get _ (by have := fgo.next; omega) (by omega) (fun cs e => by rw [hg9] at e; simp at e)]; exact hg9
  refine Wc_seq (Wc_ops (Wo_pre 7 (fun _ => by simp only [go_sem, seval, hg10, Tok.cells]; rfl) ?_))
  refine Wo_new (v := .slice (some ⟨h10.next, 0, none⟩) 2 2) (B := .cells (ints64 [(e : Int), (q : Int)]) true 1) (by rfl) fun h11 n11 => ?_
  refine Wo_node F (p10.keep n11.kept) (f010.trans (n11.kept.pfr pb)) (lit_kids (kids := [(e : Int), (q : Int)]) (c := 2) hX10 n11) hs rfl fun n st' h12 hr f12 p12 => ?_
  refine (Wo_run (fun _ => by simp only [go_sem, seval]; rfl) ?_)
  subst hr
  exact Wc_ret ⟨rfl, [.int .i64 n], by simp only [resAll, resV, upd, dstUpd, reduceIte, Nat.reduceEqDiff], f12, rfl, p12⟩
end Go.Idl
end
