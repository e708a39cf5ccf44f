/- How deep a list of nodes is: plain. -/
import Derived.Test.YtlphecjgkknpnaaN2
namespace Go.Idl
set_option linter.unusedVariables false
set_option linter.unusedSimpArgs false

def inner (D : List Nat) (m : Nat) (k : Int) : Nat := if 0 ≤ k ∧ k < D.length then max m (D.getD k.toNat 0 + 1) else m
def dep (D : List Nat) (ks : List Int) : Nat := ks.foldl (inner D) 1
def kidsOf (l : List Nd) (n : Nat) : List Int := (l[n]?.map (·.kids)).getD []
def depsN (l : List Nd) : Nat → List Nat
  | 0 => []
  | n + 1 => depsN l n ++ [dep (depsN l n) (kidsOf l n)]
def deepOf (l : List Nd) : Nat := (depsN l l.length).getD (l.length - 1) 0

theorem depsN_length (l : List Nd) : ∀ n, (depsN l n).length = n
  | 0 => rfl
  | n + 1 => by simp [depsN, depsN_length l n]

theorem inner_take {D : List Nat} {ks : List Int} {j : Nat} {k : Int} (h : ks[j]? = some k) (m : Nat) : (ks.take (j + 1)).foldl (inner D) m = inner D ((ks.take j).foldl (inner D) m) k := by
  rw [List.take_add_one, h]; simp

theorem fold_pos (D : List Nat) : ∀ (ks : List Int) (m : Nat), m ≤ ks.foldl (inner D) m
  | [], m => Nat.le_refl _
  | k :: ks, m => Nat.le_trans (by unfold inner; split <;> omega) (fold_pos D ks _)

theorem fold_le {D : List Nat} {B : Nat} (hD : ∀ k, D.getD k 0 ≤ B) : ∀ (ks : List Int) (m : Nat), m ≤ B + 1 → ks.foldl (inner D) m ≤ B + 1
  | [], m, h => h
  | k :: ks, m, h => fold_le hD ks _ (by have := hD k.toNat; unfold inner; split <;> omega)

theorem depsN_le (l : List Nd) : ∀ n k, (depsN l n).getD k 0 ≤ n
  | 0, k => by simp [depsN]
  | n + 1, k => by
    have ih := depsN_le l n
    simp only [depsN, List.getD_eq_getElem?_getD] at ih ⊢
    rw [List.getElem?_append]
    split
    · have := ih k; omega
    · rw [List.getElem?_singleton]
      split
      · exact fold_le (fun k => by simpa [List.getD_eq_getElem?_getD] using ih k) _ 1 (by omega)
      · simp

def natC (A : List Nat) : List Value := A.map fun (n : Nat) => Value.int .i64 (n : Int)

theorem natC_get {A : List Nat} {i a : Nat} (h : A[i]? = some a) : (natC A)[i]? = some (.int .i64 a) := by simp [natC, h]
theorem natC_set (A : List Nat) (i a : Nat) : (natC A).set i (.int .i64 a) = natC (A.set i a) := by simp [natC]
theorem natC_length (A : List Nat) : (natC A).length = A.length := by simp [natC]
theorem natC_zero (n : Nat) : (List.replicate n [Value.int .i64 0]).flatten = natC (List.replicate n 0) := by
  induction n with
  | zero => rfl
  | succ n ih => simp only [List.replicate_succ, List.flatten_cons, ih]; rfl

theorem intsAt.load {h : Heap} {v : Value} {l : List Int} (hh : intsAt h v l) {i : Nat} {k : Int} (hi : l[i]? = some k) : ∃ b c, v = .slice (some ⟨b, 0, none⟩) l.length c ∧ b < h.next ∧ (∃ o z, h.get b = some (.cells (ints64 l) o z)) ∧ (ints64 l)[0 + i * 1]? = some (.int .i64 k) := by
  have hlt : i < l.length := (List.getElem?_eq_some_iff.1 hi).1
  rcases hh with ⟨_, rfl⟩ | ⟨b, c, h1, h2, h3⟩
  · simp at hlt
  · rcases h3 with rfl | h3
    · simp at hlt
    · exact ⟨b, c, h1, h2, h3, by simp [ints64, hi]⟩

end Go.Idl
