/- How an ideal state and a state of the model hang together. -/
import Derived.Test.YtfdpknfndjllgaaI0b
import Derived.RowKit3
import Derived.Laws.CopyRow
import Derived.Laws.Cells
namespace Go.Idl
set_option linter.unusedVariables false
set_option linter.unusedSimpArgs false

/-- Where an ideal block lies: the model's block, how far in, how many cells that block has, how many cells an element has (where it may grow). -/
structure BI where
  blk : Nat
  sh : Nat
  top : Nat
  esz : Nat

abbrev Inj := Nat → Option BI

def flat : Value → Bool
  | .agg _ | .tuple _ => false
  | _ => true

inductive Rep (ι : Inj) : Value → Value → Prop
  | bool (b : Bool) : Rep ι (.bool b) (.bool b)
  | int (k : IntKind) (n : Int) : Rep ι (.int k n) (.int k n)
  | string (s : ByteArray) : Rep ι (.string s) (.string s)
  | pnil : Rep ι (.pointer none) (.pointer none)
  | ptr {b o : Nat} {i : BI} : ι b = some i → Rep ι (.pointer (some ⟨b, o, none⟩)) (.pointer (some ⟨i.blk, o + i.sh, none⟩))
  | snil : Rep ι (.slice none 0 0) (.slice none 0 0)
  | slice {b o l c : Nat} {a' : Addr} {c' : Nat} {i : BI} : ι b = some i → l ≤ c' → (c = l → c' = l) → (c' ≠ 0 → a' = ⟨i.blk, o + i.sh, none⟩) →
      (0 < i.esz → c' ≠ 0 → o + i.sh + c' * i.esz ≤ i.top) → Rep ι (.slice (some ⟨b, o, none⟩) l c) (.slice (some a') l c')
  | mnil : Rep ι (.map none) (.map none)
  | map {b : Nat} {i : BI} : ι b = some i → Rep ι (.map (some b)) (.map (some i.blk))
  | func {f : FuncId} {x y x' y' : Array Value} : x.size = x'.size → (∀ (k : Nat) v v', x[k]? = some v → x'[k]? = some v' → Rep ι v v') →
      y.size = y'.size → (∀ (k : Nat) v v', y[k]? = some v → y'[k]? = some v' → Rep ι v v') → Rep ι (.func (.func f) x y) (.func (.func f) x' y')
  | yld {b : Nat} {i : BI} : ι b = some i → Rep ι (.func (.yield b) #[] #[]) (.func (.yield i.blk) #[] #[])
  | nilFunc : Rep ι .nilFunc .nilFunc
  | iface {t : TypeId} {v v' : Value} : Rep ι v v' → Rep ι (.iface t v) (.iface t v')
  | nilIface : Rep ι .nilIface .nilIface
  | agg {x x' : Array Value} : x.size = x'.size → (∀ (k : Nat) v, x[k]? = some v → flat v = true) → (∀ (k : Nat) v v', x[k]? = some v → x'[k]? = some v' → Rep ι v v') → Rep ι (.agg x) (.agg x')
  | tuple {x x' : Array Value} : x.size = x'.size → (∀ (k : Nat) v v', x[k]? = some v → x'[k]? = some v' → Rep ι v v') → Rep ι (.tuple x) (.tuple x')

def Inj.le (ι ι' : Inj) : Prop := ∀ b i, ι b = some i → ι' b = some i

theorem Inj.le.refl (ι : Inj) : ι.le ι := fun _ _ h => h
theorem Inj.le.trans {a b c : Inj} (h : a.le b) (h' : b.le c) : a.le c := fun x i hx => h' x i (h x i hx)

theorem Rep.mono {ι ι' : Inj} (hl : ι.le ι') {v v' : Value} (h : Rep ι v v') : Rep ι' v v' := by
  induction h with
  | bool b => exact .bool b
  | int k n => exact .int k n
  | string s => exact .string s
  | pnil => exact .pnil
  | ptr h => exact .ptr (hl _ _ h)
  | snil => exact .snil
  | slice h h1 h2 h3 h4 => exact .slice (hl _ _ h) h1 h2 h3 h4
  | mnil => exact .mnil
  | map h => exact .map (hl _ _ h)
  | func h1 _ h2 _ ih1 ih2 => exact .func h1 ih1 h2 ih2
  | yld h => exact .yld (hl _ _ h)
  | nilFunc => exact .nilFunc
  | iface _ ih => exact .iface ih
  | nilIface => exact .nilIface
  | agg h hf _ ih => exact .agg h hf ih
  | tuple h _ ih => exact .tuple h ih

theorem Rep.flat {ι : Inj} {v v' : Value} (h : Rep ι v v') (hf : flat v = true) : Idl.flat v' = true := by
  cases h <;> first | rfl | (simp [Idl.flat] at hf)

theorem oneCell'_eq (v : Value) : v.oneCell' = flat v := by cases v <;> rfl

/-- Cells, pairwise. -/
def RepC (ι : Inj) (xs ys : List Value) : Prop := xs.length = ys.length ∧ ∀ (k : Nat) v v', xs[k]? = some v → ys[k]? = some v' → Idl.flat v = true ∧ Rep ι v v'
def RepL (ι : Inj) (xs ys : List Value) : Prop := xs.length = ys.length ∧ ∀ (k : Nat) v v', xs[k]? = some v → ys[k]? = some v' → Rep ι v v'

theorem RepC.mono {ι ι' : Inj} (hl : ι.le ι') {x y : List Value} (h : RepC ι x y) : RepC ι' x y := ⟨h.1, fun k v v' h1 h2 => ⟨(h.2 k v v' h1 h2).1, (h.2 k v v' h1 h2).2.mono hl⟩⟩
theorem RepL.mono {ι ι' : Inj} (hl : ι.le ι') {x y : List Value} (h : RepL ι x y) : RepL ι' x y := ⟨h.1, fun k v v' h1 h2 => (h.2 k v v' h1 h2).mono hl⟩
theorem RepL.nil (ι : Inj) : RepL ι [] [] := ⟨rfl, fun k v v' h => by simp at h⟩
theorem RepC.nil (ι : Inj) : RepC ι [] [] := ⟨rfl, fun k v v' h => by simp at h⟩
theorem RepL.cons {ι : Inj} {x y : Value} {xs ys : List Value} (h : Rep ι x y) (hs : RepL ι xs ys) : RepL ι (x :: xs) (y :: ys) :=
  ⟨by simp [hs.1], fun k v v' h1 h2 => by
    cases k with
    | zero => simp at h1 h2; subst h1; subst h2; exact h
    | succ k => simp at h1 h2; exact hs.2 k v v' h1 h2⟩
theorem RepC.cons {ι : Inj} {x y : Value} {xs ys : List Value} (hf : Idl.flat x = true) (h : Rep ι x y) (hs : RepC ι xs ys) : RepC ι (x :: xs) (y :: ys) :=
  ⟨by simp [hs.1], fun k v v' h1 h2 => by
    cases k with
    | zero => simp at h1 h2; subst h1; subst h2; exact ⟨hf, h⟩
    | succ k => simp at h1 h2; exact hs.2 k v v' h1 h2⟩
theorem RepC.head {ι : Inj} {x y : Value} {xs ys : List Value} (h : RepC ι (x :: xs) (y :: ys)) : (Idl.flat x = true ∧ Rep ι x y) ∧ RepC ι xs ys :=
  ⟨h.2 0 x y rfl rfl, by simpa using h.1, fun k v v' h1 h2 => h.2 (k + 1) v v' (by simpa using h1) (by simpa using h2)⟩
theorem RepL.head {ι : Inj} {x y : Value} {xs ys : List Value} (h : RepL ι (x :: xs) (y :: ys)) : Rep ι x y ∧ RepL ι xs ys :=
  ⟨h.2 0 x y rfl rfl, by simpa using h.1, fun k v v' h1 h2 => h.2 (k + 1) v v' (by simpa using h1) (by simpa using h2)⟩
theorem RepL.append {ι : Inj} {x y x' y' : List Value} (h : RepL ι x y) (h' : RepL ι x' y') : RepL ι (x ++ x') (y ++ y') := by
  refine ⟨by simp [h.1, h'.1], fun k v v' h1 h2 => ?_⟩
  rw [List.getElem?_append] at h1 h2
  rw [← h.1] at h2
  split at h1
  · rename_i hk; rw [if_pos hk] at h2; exact h.2 _ _ _ h1 h2
  · rename_i hk; rw [if_neg hk] at h2; exact h'.2 _ _ _ h1 h2
theorem RepC.append {ι : Inj} {x y x' y' : List Value} (h : RepC ι x y) (h' : RepC ι x' y') : RepC ι (x ++ x') (y ++ y') := by
  refine ⟨by simp [h.1, h'.1], fun k v v' h1 h2 => ?_⟩
  rw [List.getElem?_append] at h1 h2
  rw [← h.1] at h2
  split at h1
  · rename_i hk; rw [if_pos hk] at h2; exact h.2 _ _ _ h1 h2
  · rename_i hk; rw [if_neg hk] at h2; exact h'.2 _ _ _ h1 h2
theorem RepC.take {ι : Inj} {x y : List Value} (h : RepC ι x y) (n : Nat) : RepC ι (x.take n) (y.take n) := by
  refine ⟨by simp [h.1], fun k v v' h1 h2 => ?_⟩
  rw [List.getElem?_take] at h1 h2
  split at h1
  · rename_i hk; rw [if_pos hk] at h2; exact h.2 _ _ _ h1 h2
  · simp at h1
theorem RepC.drop {ι : Inj} {x y : List Value} (h : RepC ι x y) (n : Nat) : RepC ι (x.drop n) (y.drop n) := by
  refine ⟨by simp [h.1], fun k v v' h1 h2 => ?_⟩
  rw [List.getElem?_drop] at h1 h2
  exact h.2 _ _ _ h1 h2
theorem RepC.get {ι : Inj} {x y : List Value} (h : RepC ι x y) {k : Nat} {v : Value} (hv : x[k]? = some v) : ∃ v', y[k]? = some v' ∧ Idl.flat v = true ∧ Rep ι v v' := by
  have hk : k < x.length := (List.getElem?_eq_some_iff.1 hv).1
  have hk' : k < y.length := h.1 ▸ hk
  exact ⟨y[k], List.getElem?_eq_getElem hk', h.2 k v _ hv (List.getElem?_eq_getElem hk')⟩
theorem RepL.get {ι : Inj} {x y : List Value} (h : RepL ι x y) {k : Nat} {v : Value} (hv : x[k]? = some v) : ∃ v', y[k]? = some v' ∧ Rep ι v v' := by
  have hk : k < x.length := (List.getElem?_eq_some_iff.1 hv).1
  have hk' : k < y.length := h.1 ▸ hk
  exact ⟨y[k], List.getElem?_eq_getElem hk', h.2 k v _ hv (List.getElem?_eq_getElem hk')⟩
theorem RepC.toL {ι : Inj} {x y : List Value} (h : RepC ι x y) : RepL ι x y := ⟨h.1, fun k v v' h1 h2 => (h.2 k v v' h1 h2).2⟩

theorem rep_agg {ι : Inj} {x x' : Array Value} : Rep ι (.agg x) (.agg x') ↔ RepC ι x.toList x'.toList := by
  constructor
  · intro h
    cases h with
    | agg hs hf hx => exact ⟨by simpa using hs, fun k v v' h1 h2 => ⟨hf k v (by simpa using h1), hx k v v' (by simpa using h1) (by simpa using h2)⟩⟩
  · intro h
    refine .agg (by simpa using h.1) (fun k v h1 => ?_) fun k v v' h1 h2 => (h.2 k v v' (by simpa using h1) (by simpa using h2)).2
    obtain ⟨v', h2⟩ : ∃ v', x'.toList[k]? = some v' := by
      have hk : k < x.toList.length := by simpa using (Array.getElem?_eq_some_iff.1 h1).1
      exact ⟨_, List.getElem?_eq_getElem (h.1 ▸ hk)⟩
    exact (h.2 k v v' (by simpa using h1) h2).1
theorem rep_tuple {ι : Inj} {x x' : Array Value} (h : RepL ι x.toList x'.toList) : Rep ι (.tuple x) (.tuple x') :=
  .tuple (by simpa using h.1) fun k v v' h1 h2 => h.2 k v v' (by simpa using h1) (by simpa using h2)

/-- What a value fills, in both worlds. -/
theorem rep_cellsOf {ι : Inj} {v v' : Value} {cs : List Value} (h : Rep ι v v') (hc : cellsOf v = some cs) : RepC ι cs v'.cells.toList := by
  cases h <;> simp only [cellsOf, Option.some.injEq, reduceCtorEq] at hc <;> subst hc
  case agg h hf hx => exact rep_agg.1 (.agg h hf hx)
  all_goals
    simp only [Value.cells]
    refine RepC.cons rfl ?_ (RepC.nil ι)
  case bool => exact .bool _
  case int => exact .int _ _
  case string => exact .string _
  case pnil => exact .pnil
  case ptr h => exact .ptr h
  case snil => exact .snil
  case slice h h1 h2 h3 h4 => exact .slice h h1 h2 h3 h4
  case mnil => exact .mnil
  case map h => exact .map h
  case func h1 h2 h3 h4 => exact .func h1 h2 h3 h4
  case yld h => exact .yld h
  case nilFunc => exact .nilFunc
  case iface h => exact .iface h
  case nilIface => exact .nilIface

def mine (h : Heap) (b : Nat) : Prop :=
  match h.get b with
  | some (.cells _ true _) | some (.map _ _) | some (.siter _ _) | some (.loop _) | some .dfr => True
  | _ => False
def live (h : Heap) (b : Nat) : Prop :=
  match h.get b with
  | some .dead | none => False
  | _ => True

theorem mine.live {h : Heap} {b : Nat} (hm : mine h b) : Idl.live h b := by
  unfold mine at hm; unfold Idl.live; split at hm <;> simp_all

def ERep (ι : Inj) (e : Env) (tmps : Array Value) : Prop := ∀ j, Rep ι (e j) (tmps.getD j undef)
/-- Behind a panic: what may have been forgotten. -/
def PERep (ι : Inj) (e : Env) (tmps : Array Value) : Prop := ∀ j, e j = unk ∨ Rep ι (e j) (tmps.getD j undef)

def PRep : Option Jmp → Option Code → Prop
  | none, none => True
  | some .ret, some .ret => True
  | some (.brk i), some (.exit j) => i = j
  | _, _ => False

def LRep : LSt → LoopState → Prop
  | .ready, .ready | .busy, .busy | .done, .done | .gone, .exhausted => True
  | _, _ => False

/-- What an ideal block is in the model. C: how code is compiled (with so many temporaries). -/
def BRel (C : Nat → IC → Code → Prop) (base : Nat) (ι : Inj) (i : BI) : Blk → Obj → Prop
  | .cells cs own esz, .cells c _ fz => c.size = i.top ∧ i.sh + cs.length ≤ i.top ∧ RepC ι cs ((c.toList.drop i.sh).take cs.length) ∧ i.esz = esz ∧ (own = true → fz = (0, 0) ∧ base ≤ i.blk) ∧ (own = false → i.blk < base)
  | .dead, _ => True
  | .map kk es, .map es' _ => base ≤ i.blk ∧ (∀ p ∈ es, ∃ ks, keyOf kk p.1 = some ks) ∧ es.length = es'.size ∧ ∀ (k : Nat) a v x, es[k]? = some (a, v) → es'[k]? = some x → x.key = a ∧ Rep ι v x.val
  | .siter s p, .stringIter s' p' => base ≤ i.blk ∧ i.sh = 0 ∧ s = s' ∧ p = p'
  | .loop L, .loop L' => base ≤ i.blk ∧ LRep L.st L'.state ∧ PRep L.pend L'.pending ∧ ERep ι L.e L'.tmps ∧ L.ps = L'.params.toList ∧ (∀ p ∈ L.ps, p < L'.tmps.size) ∧
      C L'.tmps.size L.asg L'.assign ∧ C L'.tmps.size L.body L'.body
  | .dfr, .deferred (some []) => base ≤ i.blk
  | _, _ => False

structure Sim (C : Nat → IC → Code → Prop) (base : Nat) (ι : Inj) (h : Heap) (w : World) : Prop where
  dom : ∀ b i, ι b = some i → b < h.next
  vac : ∀ b, h.next ≤ b → h.get b = none
  blk : ∀ b o i, h.get b = some o → ι b = some i → ∃ o', w.heap[i.blk]? = some o' ∧ BRel C base ι i o o'
  inj : ∀ b1 b2 i1 i2, b1 ≠ b2 → mine h b1 → live h b2 → ι b1 = some i1 → ι b2 = some i2 → i1.blk ≠ i2.blk

/-- The model's blocks that ideal blocks of one's own lie in. -/
def Own (ι : Inj) (h : Heap) (r : Nat) : Prop := ∃ b i, ι b = some i ∧ i.blk = r ∧ mine h b

structure Keeps (M : Nat → Prop) (w w' : World) : Prop where
  os : w'.os = w.os
  tape : w'.tape = w.tape
  output : w'.output = w.output
  size : w.heap.size ≤ w'.heap.size
  block : ∀ k, k < w.heap.size → ¬ M k → w'.heap[k]? = w.heap[k]?

structure Ext (ι : Inj) (h : Heap) (w : World) (ι' : Inj) (h' : Heap) (w' : World) : Prop where
  inj : ι.le ι'
  keeps : Keeps (Own ι h) w w'
  own : ∀ r, r < w.heap.size → Own ι' h' r → Own ι h r
  next : h.next ≤ h'.next
  fresh : ∀ b i, ι' b = some i → ι b = some i ∨ h.next ≤ b

theorem Keeps.refl (M : Nat → Prop) (w : World) : Keeps M w w := ⟨rfl, rfl, rfl, Nat.le_refl _, fun _ _ _ => rfl⟩
theorem Keeps.mono {M M' : Nat → Prop} {w w' : World} (h : Keeps M w w') (hm : ∀ k, k < w.heap.size → M k → M' k) : Keeps M' w w' :=
  ⟨h.os, h.tape, h.output, h.size, fun k hk hn => h.block k hk fun hm' => hn (hm k hk hm')⟩
theorem Keeps.trans {M : Nat → Prop} {a b c : World} (h : Keeps M a b) (h' : Keeps M b c) : Keeps M a c :=
  ⟨h'.os.trans h.os, h'.tape.trans h.tape, h'.output.trans h.output, Nat.le_trans h.size h'.size,
    fun k hk hn => (h'.block k (Nat.lt_of_lt_of_le hk h.size) hn).trans (h.block k hk hn)⟩

theorem Ext.refl (ι : Inj) (h : Heap) (w : World) : Ext ι h w ι h w := ⟨.refl ι, .refl _ w, fun _ _ h => h, Nat.le_refl _, fun _ _ h => .inl h⟩
theorem Ext.trans {ι ι1 ι2 : Inj} {h h1 h2 : Heap} {w w1 w2 : World} (a : Ext ι h w ι1 h1 w1) (b : Ext ι1 h1 w1 ι2 h2 w2) : Ext ι h w ι2 h2 w2 := by
  refine ⟨a.inj.trans b.inj, ⟨b.keeps.os.trans a.keeps.os, b.keeps.tape.trans a.keeps.tape, b.keeps.output.trans a.keeps.output, Nat.le_trans a.keeps.size b.keeps.size, ?_⟩, ?_, Nat.le_trans a.next b.next, fun x i hx => (b.fresh x i hx).elim (fun h => a.fresh x i h) fun h => .inr (Nat.le_trans a.next h)⟩
  · intro k hk hn
    rw [b.keeps.block k (Nat.lt_of_lt_of_le hk a.keeps.size) (fun hm => hn (a.own k hk hm)), a.keeps.block k hk hn]
  · intro r hr hm
    exact a.own r hr (b.own r (Nat.lt_of_lt_of_le hr a.keeps.size) hm)

theorem Sim.lt {C : Nat → IC → Code → Prop} {base : Nat} {ι : Inj} {h : Heap} {w : World} (hs : Sim C base ι h w) {b : Nat} {i : BI} (hi : ι b = some i) (hl : live h b) : i.blk < w.heap.size := by
  unfold live at hl
  split at hl
  · exact hl.elim
  · exact hl.elim
  · rename_i o _ hn
    cases hg : h.get b with
    | none => exact (hn hg).elim
    | some o =>
      obtain ⟨o', ho', _⟩ := hs.blk b o i hg hi
      exact (Array.getElem?_eq_some_iff.1 ho').1

theorem BRel.mono {C : Nat → IC → Code → Prop} {base : Nat} {ι ι' : Inj} {i : BI} (hl : ι.le ι') {o : Blk} {o' : Obj} (h : BRel C base ι i o o') : BRel C base ι' i o o' := by
  cases o <;> cases o' <;> simp only [BRel] at h ⊢
  case cells.cells => exact ⟨h.1, h.2.1, h.2.2.1.mono hl, h.2.2.2⟩
  case map.map => exact ⟨h.1, h.2.1, h.2.2.1, fun k a v x h1 h2 => ⟨(h.2.2.2 k a v x h1 h2).1, (h.2.2.2 k a v x h1 h2).2.mono hl⟩⟩
  case siter.stringIter => exact h
  case loop.loop => obtain ⟨a, b, c, d, e⟩ := h; exact ⟨a, b, c, fun j => (d j).mono hl, e⟩
  case dfr.deferred c =>
    rcases c with _ | (_ | _)
    · exact h
    · exact h
    · exact h

end Go.Idl
