/- Lists of rows of cells in the ideal heap. -/
import Derived.Test.YtfdpknfndjllgaaI16
namespace Go.Idl
set_option linter.unusedVariables false
set_option linter.unusedSimpArgs false

def rowsAt {α : Type} (cells : α → List Value) (inner : Heap → α → Prop) (h : Heap) (v : Value) (l : List α) : Prop :=
  ((v = .slice none 0 0 ∧ l = []) ∨ ∃ b c, v = .slice (some ⟨b, 0, none⟩) l.length c ∧ b < h.next ∧ (l = [] ∨ ∃ o z, h.get b = some (.cells (l.flatMap cells) o z))) ∧ ∀ x ∈ l, inner h x

section
variable {α : Type} {cells : α → List Value} {inner : Heap → α → Prop} {n : Nat}

theorem rowsAt.keep (hi : ∀ {h h' : Heap} {x : α}, Kept h h' → inner h x → inner h' x) {h h' : Heap} (hk : Kept h h') {v : Value} {l : List α} (hh : rowsAt cells inner h v l) : rowsAt cells inner h' v l := by
  refine ⟨?_, fun x hx => hi hk (hh.2 x hx)⟩
  rcases hh.1 with hh | ⟨b, c, h1, h2, h3⟩
  · exact .inl hh
  · exact .inr ⟨b, c, h1, Nat.lt_of_lt_of_le h2 hk.next, h3.imp id fun ⟨o, z, h⟩ => ⟨o, z, by rw [hk.get b h2]; exact h⟩⟩

theorem rowsAt.len {h : Heap} {v : Value} {l : List α} (hh : rowsAt cells inner h v l) : ∃ a c, v = .slice a l.length c := by
  rcases hh.1 with ⟨rfl, rfl⟩ | ⟨b, c, h1, _⟩
  · exact ⟨none, 0, rfl⟩
  · exact ⟨_, c, h1⟩

theorem flat_length (hn : ∀ x, (cells x).length = n) : ∀ l : List α, (l.flatMap cells).length = l.length * n
  | [] => by simp
  | x :: l => by simp only [List.flatMap_cons, List.length_append, hn, flat_length hn l, List.length_cons, Nat.add_mul, Nat.one_mul]; omega

theorem flat_drop (hn : ∀ x, (cells x).length = n) : ∀ (l : List α) (i : Nat) (x : α), l[i]? = some x → ((l.flatMap cells).drop (i * n)).take n = cells x
  | [], i, x, h => by simp at h
  | y :: l, 0, x, h => by
    simp at h; subst h
    simp only [Nat.zero_mul, List.drop_zero, List.flatMap_cons]
    rw [List.take_append_of_le_length (Nat.le_of_eq (hn y).symm), List.take_of_length_le (Nat.le_of_eq (hn y))]
  | y :: l, i + 1, x, h => by
    have ih := flat_drop hn l i x (by simpa using h)
    rw [List.flatMap_cons, Nat.add_mul, Nat.one_mul, List.drop_append, List.drop_of_length_le (by rw [hn]; omega), List.nil_append, hn, show i * n + n - n = i * n by omega]
    exact ih

theorem rowsAt.load (hn : ∀ x, (cells x).length = n) {h : Heap} {v : Value} {l : List α} (hh : rowsAt cells inner h v l) {i : Nat} {x : α} (hi : l[i]? = some x) :
    ∃ b c, v = .slice (some ⟨b, 0, none⟩) l.length c ∧ b < h.next ∧ (∃ o z, h.get b = some (.cells (l.flatMap cells) o z)) ∧ h.cells b (i * n) n = some (cells x) ∧ inner h x := by
  have hlt : i < l.length := (List.getElem?_eq_some_iff.1 hi).1
  have hin := hh.2 x (List.mem_of_getElem? hi)
  rcases hh.1 with ⟨_, rfl⟩ | ⟨b, c, h1, h2, h3⟩
  · simp at hlt
  · rcases h3 with rfl | h3
    · simp at hlt
    · refine ⟨b, c, h1, h2, h3, ?_, hin⟩
      obtain ⟨o, z, h3⟩ := h3
      have hle : (i + 1) * n ≤ l.length * n := Nat.mul_le_mul_right n hlt
      rw [Nat.add_mul, Nat.one_mul] at hle
      simp only [Heap.cells, h3, flat_length hn]
      rw [if_pos hle, flat_drop hn l i x hi]
end

theorem put_at : ∀ (vs xs : List Value) (o k : Nat), o + vs.length ≤ xs.length → (put xs o vs)[k]? = if k < o then xs[k]? else if k < o + vs.length then vs[k - o]? else xs[k]?
  | [], xs, o, k, _ => by
    simp only [put, List.length_nil, Nat.add_zero]
    split <;> rfl
  | v :: vs, xs, o, k, h => by
    simp only [List.length_cons] at h
    rw [put, put_at vs (xs.set o v) (o + 1) k (by rw [List.length_set]; omega), List.getElem?_set]
    by_cases h1 : k < o
    · rw [if_pos (by omega), if_pos h1, if_neg (by omega)]
    · rw [if_neg h1]
      by_cases h2 : k = o
      · subst h2
        rw [if_pos (by omega), if_pos rfl, if_pos (by omega), if_pos (by simp), Nat.sub_self]
        rfl
      · rw [if_neg (show ¬ k < o + 1 by omega), List.length_cons, if_neg (show ¬ o = k from fun e => h2 e.symm)]
        by_cases h3 : k < o + 1 + vs.length
        · rw [if_pos h3, if_pos (by omega), show k - o = (k - (o + 1)) + 1 by omega]
          rfl
        · rw [if_neg h3, if_neg (show ¬ k < o + (vs.length + 1) by omega)]

theorem put_all {vs xs : List Value} (h : vs.length = xs.length) : put xs 0 vs = vs := by
  apply List.ext_getElem?
  intro k
  rw [put_at _ _ _ _ (by omega), if_neg (by omega), Nat.zero_add, Nat.sub_zero]
  split
  · rfl
  · rw [List.getElem?_eq_none (by omega), List.getElem?_eq_none (by omega)]

theorem iop_store {n p q b esz : Nat} {e : Env} {hp : Heap} {cs z : List Value} (h1 : e p = ptr b 0) (h2 : e q = .agg cs.toArray) (h3 : cs.length = n) (h4 : hp.get b = some (.cells z true esz)) (h5 : z.length = n) :
    iop (.store n (.t p) (.t q)) e hp = some (undef, hp.set b (.cells cs true esz)) := by
  simp only [iop, ev, h1, h2, ptr, cellsOf, List.toList_toArray, h3, if_true, Heap.write, h4, h5, Nat.zero_add, Nat.le_refl]
  rw [put_all (h3.trans h5.symm)]
  rfl

theorem iop_load {n p b o : Nat} {e : Env} {hp : Heap} {cs : List Value} (h1 : e p = ptr b o) (h2 : hp.cells b o n = some cs) : iop (.load (some n) (.t p)) e hp = some (.agg cs.toArray, hp) := by
  simp only [iop, ev, h1, ptr, h2, Option.map_some]

theorem cells_all {hp : Heap} {b n esz : Nat} {o : Bool} {cs : List Value} (h : hp.get b = some (.cells cs o esz)) (hl : cs.length = n) : hp.cells b 0 n = some cs := by
  simp only [Heap.cells, h]
  rw [if_pos (by omega), List.drop_zero, List.take_of_length_le (by omega)]

theorem iop_iaddr {n p q b len c i : Nat} {e : Env} {hp : Heap} (h1 : e p = .slice (some ⟨b, 0, none⟩) len c) (h2 : e q = .int .i64 i) (h3 : i < len) : iop (.iaddr (.sl n) (.t p) (.t q)) e hp = some (ptr b (i * n), hp) := by
  simp only [iop, ev, h1, h2, idx_ok h3, Option.map_some, Nat.zero_add]

end Go.Idl
