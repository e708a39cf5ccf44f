/- Functions and code as they come in. -/
import Derived.Test.YtfdpknfndjllgaaM4
import Derived.Test.YtfdpknfndjllgaaK5
namespace Go.Idl
set_option linter.unusedVariables false
set_option linter.unusedSimpArgs false

/-- A row of things that come in. -/
theorem rows_of_lays {α H : Type} {cells : α → List Value} {inner : Heap → α → Prop} {td : TD} {h : Heap} {wt : α → Nat} (hne : ∀ x : α, cells x ≠ [])
    (hone : ∀ {d : DataW H} {vs : List Value}, Lays h td d vs → ∃ x : α, vs = cells x ∧ inner h x ∧ ∀ f : DataW H → Nat, Meas f → wt x ≤ f d)
    {d : DataW H} {vs : List Value} (hl : Lays h (.sl td) d vs) : ∃ l v, vs = [v] ∧ rowsAt cells inner h v l ∧ l.length ≤ maxLen ∧ ∀ f : DataW H → Nat, Meas f → (l.map wt).sum ≤ f d := by
  rw [Lays] at hl
  rcases hl with ⟨_, rfl⟩ | ⟨ds, spare, b, rfl, hb, hm, rfl, hcs⟩
  · exact ⟨[], _, rfl, ⟨.inl ⟨rfl, rfl⟩, by simp⟩, by simp, by simp⟩
  · rcases hcs with ⟨rfl, _⟩ | ⟨cs, hg, he⟩
    · exact ⟨[], _, rfl, ⟨.inr ⟨b, _, rfl, hb, .inl rfl⟩, by simp⟩, by simp, by simp⟩
    · have key : ∀ (ds : List (DataW H)) (cs : List Value), LaysEach (Lays h td) ds cs → ∃ l : List α, cs = l.flatMap cells ∧ l.length = ds.length ∧ (∀ x ∈ l, inner h x) ∧ ∀ f : DataW H → Nat, Meas f → (l.map wt).sum ≤ (ds.map f).sum := by
        intro ds
        induction ds with
        | nil => intro cs hc; exact ⟨[], hc, rfl, by simp, by simp⟩
        | cons d ds ih =>
          intro cs hc
          obtain ⟨a, b, rfl, h1, h2⟩ := hc
          obtain ⟨l, rfl, h3, h4, h5⟩ := ih b h2
          obtain ⟨x, rfl, hx, hw⟩ := hone h1
          refine ⟨x :: l, by simp, by simp [h3], fun y hy => ?_, fun f hf => ?_⟩
          · rcases List.mem_cons.1 hy with rfl | hy
            · exact hx
            · exact h4 y hy
          · have := h5 f hf
            have := hw f hf
            simp only [List.map_cons, List.sum_cons]; omega
      obtain ⟨l, rfl, h1, h2, h3⟩ := key ds cs he
      exact ⟨l, _, rfl, ⟨.inr ⟨b, _, by rw [h1], hb, .inr ⟨_, _, hg⟩⟩, h2⟩, by omega, fun f hf => Nat.le_trans (h3 f hf) (hf.sl _ _)⟩

def fnTD : TD := .st (.cons .str (.cons (.int .i64) (.cons (.int .i64) (.cons (.sl insTD) .nil))))
def codTD : TD := .st (.cons (.sl fnTD) (.cons (.int .i64) (.cons (.int .i64) .nil)))

def insW (x : Ins) : Nat := 1 + x.l.length
def fnW (f : Fn) : Nat := 1 + f.name.size + (f.code.map insW).sum
def codW (c : Cod) : Nat := (c.funcs.map fnW).sum

theorem fn_of_lays {H : Type} {h : Heap} {d : DataW H} {vs : List Value} (hl : Lays h fnTD d vs) : ∃ x : Fn, vs = x.cells ∧ x.Ok h ∧ ∀ f : DataW H → Nat, Meas f → fnW x ≤ f d := by
  unfold fnTD at hl
  rw [Lays] at hl
  obtain ⟨ds, rfl, hl⟩ := hl
  simp only [LaysL] at hl
  obtain ⟨d1, r1, a1, b1, rfl, rfl, h1, d2, r2, a2, b2, rfl, rfl, h2, d3, r3, a3, b3, rfl, rfl, h3, d4, r4, a4, b4, rfl, rfl, h4, rfl, rfl⟩ := hl
  simp only [Lays] at h1 h2 h3
  obtain ⟨s, hs, rfl, rfl⟩ := h1
  obtain ⟨n2, rfl, w2, rfl⟩ := h2
  obtain ⟨n3, rfl, w3, rfl⟩ := h3
  obtain ⟨l, v, rfl, hr, hm, hw⟩ := rows_of_lays (cells := Ins.cells) (inner := insIn) (wt := insW) (fun x => by simp [Ins.cells]) (fun hl => let ⟨x, h1, h2, h3⟩ := ins_of_lays hl; ⟨x, h1, h2, h3⟩) h4
  refine ⟨⟨s, n2, n3, l, v⟩, by simp [Fn.cells], ⟨hr, hm, hs, wf64 w2, wf64 w3⟩, fun f hf => ?_⟩
  have a1 := hw f hf
  have a2 := hf.str s.data.toList
  have a3 := hf.agg [.lit (.string s.data.toList), .lit (.int .i64 n2), .lit (.int .i64 n3), d4]
  have a4 : s.data.toList.length = s.size := by rw [Array.length_toList]; rfl
  simp only [List.map_cons, List.map_nil, List.sum_cons, List.sum_nil] at a3
  show 1 + s.size + (l.map insW).sum ≤ _
  omega

theorem cod_of_lays {H : Type} {h : Heap} {d : DataW H} {vs : List Value} (hl : Lays h codTD d vs) : ∃ x : Cod, vs = x.cells ∧ x.Ok h ∧ ∀ f : DataW H → Nat, Meas f → codW x ≤ f d := by
  unfold codTD at hl
  rw [Lays] at hl
  obtain ⟨ds, rfl, hl⟩ := hl
  simp only [LaysL] at hl
  obtain ⟨d1, r1, a1, b1, rfl, rfl, h1, d2, r2, a2, b2, rfl, rfl, h2, d3, r3, a3, b3, rfl, rfl, h3, rfl, rfl⟩ := hl
  simp only [Lays] at h2 h3
  obtain ⟨n2, rfl, w2, rfl⟩ := h2
  obtain ⟨n3, rfl, w3, rfl⟩ := h3
  obtain ⟨l, v, rfl, hr, hm, hw⟩ := rows_of_lays (cells := Fn.cells) (inner := fnIn) (wt := fnW) (fun x => by simp [Fn.cells]) (fun hl => let ⟨x, h1, h2, h3⟩ := fn_of_lays hl; ⟨x, h1, h2, h3⟩) h1
  refine ⟨⟨l, v, n2, n3⟩, by simp [Cod.cells], ⟨hr, hm, wf64 w2, wf64 w3⟩, fun f hf => ?_⟩
  have a1 := hw f hf
  have a3 := hf.agg [d1, .lit (.int .i64 n2), .lit (.int .i64 n3)]
  simp only [List.map_cons, List.map_nil, List.sum_cons, List.sum_nil] at a3
  show (l.map fnW).sum ≤ _
  omega

theorem insW_sum (l : List Ins) : (l.map insW).sum = l.length + insSize l := by
  induction l with
  | nil => rfl
  | cons x l ih => simp only [insSize, List.map_cons, List.sum_cons, insW, List.length_cons] at ih ⊢; omega
theorem mem_le_sum : ∀ {l : List Nat} {a : Nat}, a ∈ l → a ≤ l.sum
  | b :: l, a, h => by
    simp only [List.sum_cons]
    rcases List.mem_cons.1 h with rfl | h
    · omega
    · have := mem_le_sum h; omega
theorem fnW_size (f : Fn) : fnSize f ≤ fnW f ∧ f.code.length ≤ fnW f ∧ ∀ x ∈ f.code, x.l.length ≤ fnW f := by
  have h1 := insW_sum f.code
  refine ⟨by unfold fnSize fnW; omega, by unfold fnW; omega, fun x hx => ?_⟩
  have : x.l.length ≤ insSize f.code := mem_le_sum (List.mem_map.2 ⟨x, hx, rfl⟩)
  unfold fnW; omega
theorem codW_size (c : Cod) : c.size ≤ codW c ∧ c.funcs.length ≤ codW c ∧ ∀ f ∈ c.funcs, fnW f ≤ codW c := by
  have key : ∀ l : List Fn, fnsSize l ≤ (l.map fnW).sum ∧ l.length ≤ (l.map fnW).sum ∧ ∀ f ∈ l, fnW f ≤ (l.map fnW).sum := by
    intro l
    induction l with
    | nil => exact ⟨by simp [fnsSize], by simp, by simp⟩
    | cons f l ih =>
      obtain ⟨a, b, c⟩ := ih
      have := fnW_size f
      have h1 : 1 ≤ fnW f := by unfold fnW; omega
      refine ⟨by simp only [fnsSize, List.map_cons, List.sum_cons] at a ⊢; omega, by simp only [List.map_cons, List.sum_cons, List.length_cons]; omega, fun g hg => ?_⟩
      simp only [List.map_cons, List.sum_cons]
      rcases List.mem_cons.1 hg with rfl | hg
      · omega
      · have := c g hg; omega
  exact key c.funcs
theorem cod_small {c : Cod} (h : codW c < 4611686018427387904) : c.small := by
  obtain ⟨a, b, d⟩ := codW_size c
  refine ⟨by unfold Idl.small; omega, fun f hf => ?_⟩
  have h1 := d f hf
  obtain ⟨_, h3, h4⟩ := fnW_size f
  exact ⟨by unfold Idl.small; omega, fun x hx => by have := h4 x hx; unfold Idl.small; omega⟩

end Go.Idl
