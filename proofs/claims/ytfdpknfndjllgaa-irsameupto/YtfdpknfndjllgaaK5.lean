/- Instructions, functions, code as they come in. -/
import Derived.Test.YtfdpknfndjllgaaK2
namespace Go.Idl
set_option linter.unusedVariables false
set_option linter.unusedSimpArgs false

def i64ok (n : Int) : Prop := -9223372036854775808 ≤ n ∧ n ≤ 9223372036854775807

def insTD : TD := .st (.cons (.int .i64) (.cons (.int .i64) (.cons (.int .i64) (.cons (.int .i64) (.cons (.int .i64) (.cons (.sl (.int .i64)) .nil))))))

theorem wf64 {n : Int} (h : (Lit.int .i64 n).wf = true) : i64ok n := by
  simpa [i64ok, Lit.wf, IntKind.min, IntKind.max, IntKind.signed, IntKind.bits] using h

structure Ins.Ok (h : Heap) (x : Ins) : Prop where
  ints : intsAt h x.lv x.l
  len : x.l.length ≤ maxLen
  each : ∀ n ∈ x.l, i64ok n
  op : i64ok x.op
  a : i64ok x.a
  b : i64ok x.b
  c : i64ok x.c
  k : i64ok x.k

theorem Ins.Ok.keep {h h' : Heap} (hk : Kept h h') {x : Ins} (hx : x.Ok h) : x.Ok h' := ⟨hx.ints.keep hk, hx.len, hx.each, hx.op, hx.a, hx.b, hx.c, hx.k⟩

theorem ins_of_lays {H : Type} {h : Heap} {d : DataW H} {vs : List Value} (hl : Lays h insTD d vs) : ∃ x : Ins, vs = x.cells ∧ x.Ok h ∧ ∀ f : DataW H → Nat, Meas f → 1 + x.l.length ≤ f d := by
  simp only [insTD, Lays] at hl
  obtain ⟨ds, rfl, hl⟩ := hl
  simp only [LaysL] at hl
  obtain ⟨d1, r1, a1, b1, rfl, rfl, h1, d2, r2, a2, b2, rfl, rfl, h2, d3, r3, a3, b3, rfl, rfl, h3, d4, r4, a4, b4, rfl, rfl, h4, d5, r5, a5, b5, rfl, rfl, h5, d6, r6, a6, b6, rfl, rfl, h6, rfl, rfl⟩ := hl
  simp only [Lays] at h1 h2 h3 h4 h5
  obtain ⟨n1, rfl, w1, rfl⟩ := h1
  obtain ⟨n2, rfl, w2, rfl⟩ := h2
  obtain ⟨n3, rfl, w3, rfl⟩ := h3
  obtain ⟨n4, rfl, w4, rfl⟩ := h4
  obtain ⟨n5, rfl, w5, rfl⟩ := h5
  obtain ⟨l, lv, rfl, hi, hr, hm, hms⟩ := ints_of_lays h6
  refine ⟨⟨n1, n2, n3, n4, n5, l, lv⟩, by simp [Ins.cells], ⟨hi, hm, hr, wf64 w1, wf64 w2, wf64 w3, wf64 w4, wf64 w5⟩, fun f hf => ?_⟩
  have := hms f hf
  have := hf.agg [.lit (.int .i64 n1), .lit (.int .i64 n2), .lit (.int .i64 n3), .lit (.int .i64 n4), .lit (.int .i64 n5), d6]
  simp only [List.map_cons, List.map_nil, List.sum_cons, List.sum_nil] at this
  show 1 + l.length ≤ _
  omega

end Go.Idl
