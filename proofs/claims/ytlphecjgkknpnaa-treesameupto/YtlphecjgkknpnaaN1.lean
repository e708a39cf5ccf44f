/- Nodes of a tree in the ideal heap. -/
import Derived.Test.YtlphecjgkknpnaaI12
import Derived.Test.YtlphecjgkknpnaaI14
namespace Go.Idl
set_option linter.unusedVariables false
set_option linter.unusedSimpArgs false

structure Nd where
  kind : Int
  text : ByteArray
  kids : List Int
  kv : Value
  pos : Int

def ints64 (l : List Int) : List Value := l.map fun n => .int .i64 n

/-- A list of numbers: what a slice shows. -/
def intsAt (h : Heap) (v : Value) (l : List Int) : Prop :=
  (v = .slice none 0 0 ∧ l = []) ∨ ∃ b c, v = .slice (some ⟨b, 0, none⟩) l.length c ∧ b < h.next ∧ (l = [] ∨ ∃ o z, h.get b = some (.cells (ints64 l) o z))

def flatN : List Nd → List Value
  | [] => []
  | x :: l => .int .i64 x.kind :: .string x.text :: x.kv :: .int .i64 x.pos :: flatN l

def nodesAt (h : Heap) (v : Value) (l : List Nd) : Prop :=
  ((v = .slice none 0 0 ∧ l = []) ∨ ∃ b c, v = .slice (some ⟨b, 0, none⟩) l.length c ∧ b < h.next ∧ (l = [] ∨ ∃ o z, h.get b = some (.cells (flatN l) o z))) ∧ ∀ x ∈ l, intsAt h x.kv x.kids

theorem intsAt.keep {h h' : Heap} (hk : Kept h h') {v : Value} {l : List Int} (hh : intsAt h v l) : intsAt h' v l := by
  rcases hh with hh | ⟨b, c, h1, h2, h3⟩
  · exact .inl hh
  · exact .inr ⟨b, c, h1, Nat.lt_of_lt_of_le h2 hk.next, h3.imp id fun ⟨o, z, h⟩ => ⟨o, z, by rw [hk.get b h2]; exact h⟩⟩
theorem nodesAt.keep {h h' : Heap} (hk : Kept h h') {v : Value} {l : List Nd} (hh : nodesAt h v l) : nodesAt h' v l := by
  refine ⟨?_, fun x hx => (hh.2 x hx).keep hk⟩
  rcases hh.1 with hh | ⟨b, c, h1, h2, h3⟩
  · exact .inl hh
  · exact .inr ⟨b, c, h1, Nat.lt_of_lt_of_le h2 hk.next, h3.imp id fun ⟨o, z, h⟩ => ⟨o, z, by rw [hk.get b h2]; exact h⟩⟩

theorem flatN_length : ∀ l : List Nd, (flatN l).length = l.length * 4
  | [] => rfl
  | x :: l => by simp [flatN, flatN_length l]; omega

theorem flatN_drop : ∀ (l : List Nd) (i : Nat) (x : Nd), l[i]? = some x → ((flatN l).drop (i * 4)).take 4 = [.int .i64 x.kind, .string x.text, x.kv, .int .i64 x.pos]
  | [], i, x, h => by simp at h
  | y :: l, 0, x, h => by simp at h; subst h; simp [flatN]
  | y :: l, i + 1, x, h => by
    have := flatN_drop l i x (by simpa using h)
    rw [show (i + 1) * 4 = i * 4 + 4 by omega]
    simpa [flatN] using this

/-- A node that is read. -/
theorem nodesAt.load {h : Heap} {v : Value} {l : List Nd} (hh : nodesAt h v l) {i : Nat} {x : Nd} (hi : l[i]? = some x) : ∃ b c, v = .slice (some ⟨b, 0, none⟩) l.length c ∧ b < h.next ∧ (∃ o z, h.get b = some (.cells (flatN l) o z)) ∧ h.cells b (0 + i * 4) 4 = some [.int .i64 x.kind, .string x.text, x.kv, .int .i64 x.pos] := by
  have hlt : i < l.length := (List.getElem?_eq_some_iff.1 hi).1
  rcases hh.1 with ⟨_, rfl⟩ | ⟨b, c, h1, h2, h3⟩
  · simp at hlt
  · rcases h3 with rfl | h3
    · simp at hlt
    · refine ⟨b, c, h1, h2, h3, ?_⟩
      obtain ⟨o, z, h3⟩ := h3
      simp only [Heap.cells, h3, flatN_length, Nat.zero_add]
      rw [if_pos (by omega), flatN_drop l i x hi]

def weight (l : List Nd) : Nat := (l.map fun x => x.kids.length + x.text.size / 20).sum

/-- A measure of what is read. -/
structure Meas {H : Type} (f : DataW H → Nat) : Prop where
  str : ∀ bytes, bytes.length + 1 ≤ f (.lit (.string bytes))
  lit : ∀ x, 1 ≤ f (.lit x)
  sl : ∀ es sp, (es.map f).sum ≤ f (.slice es sp)
  agg : ∀ ds, (ds.map f).sum + 1 ≤ f (.agg ds)

/-- Of what kind the type of nodes is. -/
def nodeTD : TD := .sl (.st (.cons (.int .i64) (.cons .str (.cons (.sl (.int .i64)) (.cons (.int .i64) .nil)))))

theorem ints_of_lays {H : Type} {h : Heap} {d : DataW H} {vs : List Value} (hl : Lays h (.sl (.int .i64)) d vs) : ∃ l v, vs = [v] ∧ intsAt h v l ∧ (∀ n ∈ l, -9223372036854775808 ≤ n ∧ n ≤ 9223372036854775807) ∧ l.length ≤ maxLen ∧ ∀ f : DataW H → Nat, Meas f → l.length ≤ f d := by
  simp only [Lays] at hl
  rcases hl with ⟨_, rfl⟩ | ⟨ds, spare, b, rfl, hb, hm, rfl, hcs⟩
  · exact ⟨[], _, rfl, .inl ⟨rfl, rfl⟩, by simp, by simp, by simp⟩
  · rcases hcs with ⟨rfl, _⟩ | ⟨cs, hg, he⟩
    · exact ⟨[], _, rfl, .inr ⟨b, _, rfl, hb, .inl rfl⟩, by simp, by simp, by simp⟩
    · have key : ∀ (ds : List (DataW H)) (cs : List Value), LaysEach (Lays h (.int .i64)) ds cs → ∃ l : List Int, cs = ints64 l ∧ l.length = ds.length ∧ (∀ n ∈ l, -9223372036854775808 ≤ n ∧ n ≤ 9223372036854775807) ∧ ∀ f : DataW H → Nat, Meas f → l.length ≤ (ds.map f).sum := by
        intro ds
        induction ds with
        | nil => intro cs hc; exact ⟨[], hc, rfl, by simp, by simp⟩
        | cons d ds ih =>
          intro cs hc
          obtain ⟨a, b, rfl, h1, h2⟩ := hc
          simp only [Lays] at h1
          obtain ⟨n, rfl, hw, rfl⟩ := h1
          obtain ⟨l, rfl, h3, h4, h5⟩ := ih b h2
          refine ⟨n :: l, rfl, by simp [h3], fun m hm => ?_, fun f hf => ?_⟩
          · rcases List.mem_cons.1 hm with rfl | hm
            · simpa [Lit.wf, IntKind.min, IntKind.max, IntKind.signed, IntKind.bits] using hw
            · exact h4 m hm
          · have := h5 f hf
            have := hf.lit (.int .i64 n)
            simp only [List.length_cons, List.map_cons, List.sum_cons]; omega
      obtain ⟨l, rfl, h1, h2, h3⟩ := key ds cs he
      exact ⟨l, _, rfl, .inr ⟨b, _, by rw [h1], hb, .inr ⟨_, _, hg⟩⟩, h2, by omega, fun f hf => Nat.le_trans (h3 f hf) (hf.sl _ _)⟩

theorem nodes_of_lays {H : Type} {h : Heap} {d : DataW H} {vs : List Value} (hl : Lays h nodeTD d vs) : ∃ l v, vs = [v] ∧ nodesAt h v l ∧ l.length ≤ maxLen ∧ (∀ x ∈ l, (∀ n ∈ x.kids, -9223372036854775808 ≤ n ∧ n ≤ 9223372036854775807) ∧ x.kids.length ≤ maxLen ∧ x.text.size ≤ maxLen ∧
    (-9223372036854775808 ≤ x.kind ∧ x.kind ≤ 9223372036854775807) ∧ (-9223372036854775808 ≤ x.pos ∧ x.pos ≤ 9223372036854775807)) ∧ ∀ f : DataW H → Nat, Meas f → l.length + weight l ≤ f d := by
  unfold nodeTD at hl
  simp only [Lays] at hl
  rcases hl with ⟨_, rfl⟩ | ⟨ds, spare, b, rfl, hb, hm, rfl, hcs⟩
  · exact ⟨[], _, rfl, ⟨.inl ⟨rfl, rfl⟩, by simp⟩, Nat.zero_le _, fun x hx => (by cases hx), fun f hf => Nat.zero_le _⟩
  · rcases hcs with ⟨rfl, _⟩ | ⟨cs, hg, he⟩
    · exact ⟨[], _, rfl, ⟨.inr ⟨b, _, rfl, hb, .inl rfl⟩, by simp⟩, Nat.zero_le _, fun x hx => (by cases hx), fun f hf => Nat.zero_le _⟩
    · have key : ∀ (ds : List (DataW H)) (cs : List Value), LaysEach (Lays h (.st (.cons (.int .i64) (.cons .str (.cons (.sl (.int .i64)) (.cons (.int .i64) .nil)))))) ds cs → ∃ l : List Nd, cs = flatN l ∧ l.length = ds.length ∧ (∀ x ∈ l, intsAt h x.kv x.kids) ∧
          (∀ x ∈ l, (∀ n ∈ x.kids, -9223372036854775808 ≤ n ∧ n ≤ 9223372036854775807) ∧ x.kids.length ≤ maxLen ∧ x.text.size ≤ maxLen ∧ (-9223372036854775808 ≤ x.kind ∧ x.kind ≤ 9223372036854775807) ∧ (-9223372036854775808 ≤ x.pos ∧ x.pos ≤ 9223372036854775807)) ∧ ∀ f : DataW H → Nat, Meas f → l.length + weight l ≤ (ds.map f).sum := by
        intro ds
        induction ds with
        | nil => intro cs hc; exact ⟨[], hc, rfl, fun x hx => (by cases hx), fun x hx => (by cases hx), fun f hf => Nat.zero_le _⟩
        | cons d ds ih =>
          intro cs hc
          obtain ⟨a, b, rfl, h1, h2⟩ := hc
          obtain ⟨l, rfl, h3, h4, h5, h6⟩ := ih b h2
          simp only [Lays] at h1
          obtain ⟨ds1, rfl, h1⟩ := h1
          simp only [LaysL] at h1
          obtain ⟨d1, r1, a1, b1, rfl, rfl, hk, d2, r2, a2, b2, rfl, rfl, ht, d3, r3, a3, b3, rfl, rfl, hs, d4, r4, a4, b4, rfl, rfl, hp, rfl, rfl⟩ := h1
          simp only [Lays] at hk ht hp
          obtain ⟨k, rfl, hkw, rfl⟩ := hk
          obtain ⟨t, htw, rfl, rfl⟩ := ht
          obtain ⟨p, rfl, hpw, rfl⟩ := hp
          obtain ⟨ki, kv, rfl, hki, hkr, hkl, hkm⟩ := ints_of_lays hs
          refine ⟨⟨k, t, ki, kv, p⟩ :: l, by simp [flatN], by simp [h3], fun x hx => ?_, fun x hx => ?_, fun f hf => ?_⟩
          · rcases List.mem_cons.1 hx with rfl | hx
            · exact hki
            · exact h4 x hx
          · rcases List.mem_cons.1 hx with rfl | hx
            · exact ⟨hkr, hkl, htw, by simpa [Lit.wf, IntKind.min, IntKind.max, IntKind.signed, IntKind.bits] using hkw, by simpa [Lit.wf, IntKind.min, IntKind.max, IntKind.signed, IntKind.bits] using hpw⟩
            · exact h5 x hx
          · have a1 := h6 f hf
            have a2 := hkm f hf
            have a3 := hf.str t.data.toList
            have a4 := hf.agg [.lit (.int .i64 k), .lit (.string t.data.toList), d3, .lit (.int .i64 p)]
            have a5 : t.data.toList.length = t.size := by rw [Array.length_toList]; rfl
            simp only [List.map_cons, List.map_nil, List.sum_cons, List.sum_nil] at a4
            simp only [List.length_cons, List.map_cons, List.sum_cons, weight] at a1 ⊢
            omega
      obtain ⟨l, rfl, h1, h2, h3, h4⟩ := key ds cs he
      exact ⟨l, _, rfl, ⟨.inr ⟨b, _, by rw [h1], hb, .inr ⟨_, _, hg⟩⟩, h2⟩, by omega, h3, fun f hf => Nat.le_trans (h4 f hf) (hf.sl _ _)⟩

end Go.Idl
