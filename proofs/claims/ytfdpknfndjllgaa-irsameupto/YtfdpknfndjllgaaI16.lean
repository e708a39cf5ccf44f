/- Lists of numbers in the ideal heap. -/
import Derived.Test.YtfdpknfndjllgaaI12
import Derived.Test.YtfdpknfndjllgaaI14
import Derived.Laws.RangeString
namespace Go.Idl
set_option linter.unusedVariables false
set_option linter.unusedSimpArgs false

def ints64 (l : List Int) : List Value := l.map fun n => .int .i64 n

/-- A list of numbers: what a slice shows. -/
def intsAt (h : Heap) (v : Value) (l : List Int) : Prop :=
  (v = .slice none 0 0 ∧ l = []) ∨ ∃ b c, v = .slice (some ⟨b, 0, none⟩) l.length c ∧ b < h.next ∧ (l = [] ∨ ∃ o z, h.get b = some (.cells (ints64 l) o z))

theorem intsAt.keep {h h' : Heap} (hk : Kept h h') {v : Value} {l : List Int} (hh : intsAt h v l) : intsAt h' v l := by
  rcases hh with hh | ⟨b, c, h1, h2, h3⟩
  · exact .inl hh
  · exact .inr ⟨b, c, h1, Nat.lt_of_lt_of_le h2 hk.next, h3.imp id fun ⟨o, z, h⟩ => ⟨o, z, by rw [hk.get b h2]; exact h⟩⟩
/-- A measure of what is read. -/
structure Meas {H : Type} (f : DataW H → Nat) : Prop where
  str : ∀ bytes, bytes.length + 1 ≤ f (.lit (.string bytes))
  lit : ∀ x, 1 ≤ f (.lit x)
  sl : ∀ es sp, (es.map f).sum ≤ f (.slice es sp)
  agg : ∀ ds, (ds.map f).sum + 1 ≤ f (.agg ds)

theorem ints_of_lays {H : Type} {h : Heap} {d : DataW H} {vs : List Value} (hl : Lays h (.sl (.int .i64)) d vs) : ∃ l v, vs = [v] ∧ intsAt h v l ∧ (∀ n ∈ l, -9223372036854775808 ≤ n ∧ n ≤ 9223372036854775807) ∧ l.length ≤ maxLen ∧ ∀ f : DataW H → Nat, Meas f → l.length ≤ f d := by
  simp only [Lays] at hl
  rcases hl with ⟨_, rfl⟩ | ⟨ds, spare, b, rfl, hb, hm, rfl, hcs⟩
  · exact ⟨[], _, rfl, .inl ⟨rfl, rfl⟩, by simp, by simp, by simp⟩
  · rcases hcs with ⟨rfl, _⟩ | ⟨cs, hg, he⟩
    · exact ⟨[], _, rfl, .inr ⟨b, _, rfl, hb, .inl rfl⟩, by simp, by simp, by simp⟩
    · have key : ∀ (ds : List (DataW H)) (cs : List Value), LaysEach (Lays h (.int .i64)) ds cs → ∃ l : List Int, cs = ints64 l ∧ l.length = ds.length ∧ (∀ n ∈ l, -9223372036854775808 ≤ n ∧ n ≤ 9223372036854775807) ∧ ∀ f : DataW H → Nat, Meas f → l.length ≤ (ds.map f).sum := by
        intro ds
        induction ds with
        | nil => intro cs hc; exact ⟨[], hc, rfl, by simp, by simp⟩
        | cons d ds ih =>
          intro cs hc
          obtain ⟨a, b, rfl, h1, h2⟩ := hc
          simp only [Lays] at h1
          obtain ⟨n, rfl, hw, rfl⟩ := h1
          obtain ⟨l, rfl, h3, h4, h5⟩ := ih b h2
          refine ⟨n :: l, rfl, by simp [h3], fun m hm => ?_, fun f hf => ?_⟩
          · rcases List.mem_cons.1 hm with rfl | hm
            · simpa [Lit.wf, IntKind.min, IntKind.max, IntKind.signed, IntKind.bits] using hw
            · exact h4 m hm
          · have := h5 f hf
            have := hf.lit (.int .i64 n)
            simp only [List.length_cons, List.map_cons, List.sum_cons]; omega
      obtain ⟨l, rfl, h1, h2, h3⟩ := key ds cs he
      exact ⟨l, _, rfl, .inr ⟨b, _, by rw [h1], hb, .inr ⟨_, _, hg⟩⟩, h2, by omega, fun f hf => Nat.le_trans (h3 f hf) (hf.sl _ _)⟩

theorem intsAt.len {h : Heap} {v : Value} {l : List Int} (hh : intsAt h v l) : ∃ a c, v = .slice a l.length c := by
  rcases hh with ⟨rfl, rfl⟩ | ⟨b, c, h1, _⟩
  · exact ⟨none, 0, rfl⟩
  · exact ⟨_, c, h1⟩
theorem intsAt.load {h : Heap} {v : Value} {l : List Int} (hh : intsAt h v l) {i : Nat} {k : Int} (hi : l[i]? = some k) : ∃ b c, v = .slice (some ⟨b, 0, none⟩) l.length c ∧ b < h.next ∧ (∃ o z, h.get b = some (.cells (ints64 l) o z)) ∧ (ints64 l)[0 + i * 1]? = some (.int .i64 k) := by
  have hlt : i < l.length := (List.getElem?_eq_some_iff.1 hi).1
  rcases hh with ⟨_, rfl⟩ | ⟨b, c, h1, h2, h3⟩
  · simp at hlt
  · rcases h3 with rfl | h3
    · simp at hlt
    · exact ⟨b, c, h1, h2, h3, by simp [ints64, hi]⟩

theorem ints64_get {l : List Int} {i : Nat} {k : Int} (h : l[i]? = some k) : (ints64 l)[i]? = some (.int .i64 k) := by simp [ints64, h]

theorem take_eq_succ {α : Type} {a b : List α} {i : Nat} (h : a.take i = b.take i) {x : α} (ha : a[i]? = some x) (hb : b[i]? = some x) : a.take (i + 1) = b.take (i + 1) := by
  rw [List.take_add_one, List.take_add_one, h, ha, hb]
theorem ne_of_at {α : Type} {a b : List α} {i : Nat} {x y : α} (ha : a[i]? = some x) (hb : b[i]? = some y) (h : x ≠ y) : a ≠ b := by
  rintro rfl
  rw [ha] at hb; exact h (Option.some.inj hb)

theorem intsAt.setOther {h : Heap} {v : Value} {l : List Int} (hh : intsAt h v l) {b : Nat} {o : Blk} (hb : ∀ p n c, v = .slice (some p) n c → p.block ≠ b) : intsAt (h.set b o) v l := by
  rcases hh with hh | ⟨k, c, h1, h2, h3⟩
  · exact .inl hh
  · refine .inr ⟨k, c, h1, h2, h3.imp id fun ⟨o', z, h⟩ => ⟨o', z, ?_⟩⟩
    rw [set_get_ne' _ _ (hb _ _ _ h1)]; exact h

theorem intsAt.block_lt {h : Heap} {v : Value} {l : List Int} (hh : intsAt h v l) : ∀ p n c, v = .slice (some p) n c → p.block < h.next := by
  intro p n c hv
  rcases hh with ⟨rfl, _⟩ | ⟨k, c', h1, h2, h3⟩
  · cases hv
  · rw [h1] at hv; cases hv; exact h2


theorem ints64_append (a b : List Int) : ints64 (a ++ b) = ints64 a ++ ints64 b := by simp [ints64]
theorem ints64_length (a : List Int) : (ints64 a).length = a.length := by simp [ints64]

theorem intsAt.elems {h : Heap} {v : Value} {l : List Int} (hh : intsAt h v l) : elemsOf h 1 v = some (l.length, ints64 l) := by
  rcases hh with ⟨rfl, rfl⟩ | ⟨b, c, rfl, hb, hg⟩
  · rfl
  · by_cases h0 : l.length = 0
    · have : l = [] := List.length_eq_zero_iff.1 h0
      subst this
      simp [elemsOf, ints64]
    · obtain ⟨o, z, hg⟩ := hg.resolve_left (fun e => h0 (by rw [e]; rfl))
      simp only [elemsOf, h0, if_false, Heap.cells, hg, Nat.zero_add, Nat.mul_one, ints64_length, Nat.le_refl, if_true, List.drop_zero, Option.map_some]
      rw [List.take_of_length_le (by rw [ints64_length]; omega)]

/-- A list of numbers that is the call's own. -/
def ownI (n0 : Nat) (h : Heap) (v : Value) (l : List Int) : Prop :=
  (l = [] ∧ v = .slice none 0 0) ∨ ∃ b, n0 ≤ b ∧ b < h.next ∧ v = .slice (some ⟨b, 0, none⟩) l.length (l.length + 1) ∧ h.get b = some (.cells (ints64 l) true 1)

theorem ownI.ints {n0 : Nat} {h : Heap} {v : Value} {l : List Int} (hh : ownI n0 h v l) : intsAt h v l := by
  rcases hh with ⟨rfl, rfl⟩ | ⟨b, h1, h2, h3, h4⟩
  · exact .inl ⟨rfl, rfl⟩
  · exact .inr ⟨b, _, h3, h2, .inr ⟨_, _, h4⟩⟩

/-- Other blocks than that of a slice stay. -/
structure Beside (v : Value) (h h' : Heap) : Prop where
  next : h.next ≤ h'.next
  get : ∀ b, b < h.next → (∀ p n c, v = .slice (some p) n c → p.block ≠ b) → h'.get b = h.get b

theorem Beside.kept {n0 : Nat} {h0 h h' : Heap} {v : Value} {l : List Int} (hb : Beside v h h') (ho : ownI n0 h v l) (hn : h0.next ≤ n0) (hk : Kept h0 h) : Kept h0 h' := by
  refine ⟨Nat.le_trans hk.next hb.next, fun b hlt => ?_⟩
  rw [hb.get b (Nat.lt_of_lt_of_le hlt hk.next) ?_, hk.get b hlt]
  intro p n c hv
  rcases ho with ⟨_, h1⟩ | ⟨k, h1, h2, h3, _⟩
  · rw [h1] at hv; cases hv
  · rw [h3] at hv; cases hv
    simp only; omega

theorem append_own {n0 : Nat} {h : Heap} {v x : Value} {l m : List Int} (ho : ownI n0 h v l) (hk : n0 ≤ h.next) (hx : elemsOf h 1 x = some (m.length, ints64 m)) (hs : l.length + m.length ≤ 10000000) :
    ∃ v' h', appendV 1 8 v x h = some (v', h') ∧ Beside v h h' ∧ ownI n0 h' v' (l ++ m) ∧ (∀ p n c, v' = .slice (some p) n c → v' = v ∨ h.next ≤ p.block) := by
  by_cases h0m : m.length = 0
  · have : m = [] := List.length_eq_zero_iff.1 h0m
    subst this
    rw [List.append_nil]
    refine ⟨v, h, ?_, ⟨Nat.le_refl _, fun _ _ _ => rfl⟩, ho, fun p n c hv => .inl rfl⟩
    rcases ho with ⟨_, rfl⟩ | ⟨b, _, _, rfl, _⟩
    · simp [appendV, hx]
    · simp [appendV, hx]
  · rcases ho with ⟨rfl, rfl⟩ | ⟨b, h1, h2, rfl, h4⟩
    · rw [List.nil_append]
      refine ⟨_, _, by simp only [appendV, hx, h0m, if_false]; rw [if_pos (by omega)], ⟨Nat.le_succ _, fun b hb _ => new_get_ne' _ _ (Nat.ne_of_lt hb)⟩, .inr ⟨h.next, hk, Nat.lt_succ_self _, rfl, new_get' _ _⟩, fun p n c hv => .inr ?_⟩
      simp only [Value.slice.injEq, Option.some.injEq] at hv
      rw [← hv.1]; exact Nat.le_refl _
    · have hne : ¬ l.length = l.length + 1 := by omega
      refine ⟨.slice (some ⟨h.next, 0, none⟩) (l.length + m.length) (l.length + m.length + 1), (h.set b .dead).new (.cells (ints64 (l ++ m)) true 1), ?_, ⟨Nat.le_succ _, fun k hkk hkb => ?_⟩, .inr ⟨h.next, Nat.le_trans h1 (Nat.le_of_lt h2), Nat.lt_succ_self _, by rw [List.length_append], new_get' _ _⟩, fun p n c hv => .inr ?_⟩
      · simp only [appendV, hx, h0m, if_false, hne, h4]
        rw [if_pos (by omega), if_pos (by simp [ints64_length])]
        simp only [List.drop_zero, Nat.mul_one]
        rw [List.take_of_length_le (by rw [ints64_length]; omega), ints64_append]
      · rw [new_get_ne' _ _ (by rw [set_next]; omega), set_get_ne' _ _ (fun e => hkb _ _ _ rfl e.symm)]
      · simp only [Value.slice.injEq, Option.some.injEq] at hv
        rw [← hv.1]; exact Nat.le_refl _

theorem intsAt.beside {h h' : Heap} {u v : Value} {l : List Int} (hb : Beside u h h') (hh : intsAt h v l) (hn : ∀ p n c, v = .slice (some p) n c → ∀ q m d, u = .slice (some q) m d → q.block ≠ p.block) : intsAt h' v l := by
  rcases hh with hh | ⟨k, c, h1, h2, h3⟩
  · exact .inl hh
  · refine .inr ⟨k, c, h1, Nat.lt_of_lt_of_le h2 hb.next, h3.imp id fun ⟨o, z, h⟩ => ⟨o, z, ?_⟩⟩
    rw [hb.get k h2 (fun q m d hu => hn _ _ _ h1 q m d hu)]; exact h

theorem Beside.at {n0 : Nat} {h h' : Heap} {v : Value} {l : List Int} (hb : Beside v h h') (ho : ownI n0 h v l) {b : Nat} (h1 : b < n0) (h2 : b < h.next) : h'.get b = h.get b := by
  refine hb.get b h2 ?_
  intro p n c hv
  rcases ho with ⟨_, e⟩ | ⟨k, e1, _, e3, _⟩
  · rw [e] at hv; cases hv
  · rw [e3] at hv; cases hv
    simp only; omega
theorem ownI.keep {n0 : Nat} {h h' : Heap} {v : Value} {l : List Int} (ho : ownI n0 h v l) (hn : h.next ≤ h'.next) (hg : ∀ b, n0 ≤ b → b < h.next → h'.get b = h.get b) : ownI n0 h' v l := by
  rcases ho with ho | ⟨b, h1, h2, h3, h4⟩
  · exact .inl ho
  · exact .inr ⟨b, h1, Nat.lt_of_lt_of_le h2 hn, h3, by rw [hg b h1 h2]; exact h4⟩

end Go.Idl
