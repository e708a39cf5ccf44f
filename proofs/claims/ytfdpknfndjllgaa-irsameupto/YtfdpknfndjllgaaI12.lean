/- Arguments, laid as read-only ideal blocks. -/
import Derived.Test.YtfdpknfndjllgaaI11
import Derived.ChangeArms
namespace Go.Idl
set_option linter.unusedVariables false
set_option linter.unusedSimpArgs false

mutual
inductive TD where
  | int (k : IntKind)
  | str
  | bool
  | sl (e : TD)
  | st (fs : TDs)
inductive TDs where
  | nil
  | cons (t : TD) (ts : TDs)
end

mutual
def TD.size : TD → Nat
  | .st fs => fs.size
  | _ => 1
def TDs.size : TDs → Nat
  | .nil => 0
  | .cons t ts => t.size + ts.size
end

mutual
/-- What a type is made of. -/
def Ty (P : Program) : TD → TypeId → Prop
  | .int k, t => P.underlying t = some (.int k)
  | .str, t => P.underlying t = some .string
  | .bool, t => P.underlying t = some .bool
  | .sl e, t => ∃ et, P.underlying t = some (.slice et) ∧ Ty P e et ∧ P.cellsOf et = e.size ∧ 0 < e.size
  | .st fs, t => ∃ l : Array Field, P.underlying t = some (.struct l) ∧ TyL P fs l.toList 0 ∧ P.cellsOf t = fs.size
def TyL (P : Program) : TDs → List Field → Nat → Prop
  | .nil, l, _ => l = []
  | .cons t ts, l, o => ∃ f r, l = f :: r ∧ f.offset = o ∧ Ty P t f.type ∧ P.cellsOf f.type = t.size ∧ TyL P ts r (o + t.size)
end

/-- Each of a list, one behind another. -/
def LaysEach {H : Type} (L : DataW H → List Value → Prop) : List (DataW H) → List Value → Prop
  | [], vs => vs = []
  | d :: ds, vs => ∃ a b, vs = a ++ b ∧ L d a ∧ LaysEach L ds b

mutual
/-- What is read of the model stands so in the ideal heap. -/
def Lays {H : Type} (h : Heap) : TD → DataW H → List Value → Prop
  | .int k, d, vs => ∃ n, d = .lit (.int k n) ∧ (Lit.int k n).wf = true ∧ vs = [.int k n]
  | .str, d, vs => ∃ s : ByteArray, s.size ≤ maxLen ∧ d = .lit (.string s.data.toList) ∧ vs = [.string s]
  | .bool, d, vs => ∃ b, d = .lit (.bool b) ∧ vs = [.bool b]
  | .sl e, d, vs => (d = .nil ∧ vs = [.slice none 0 0]) ∨ ∃ ds spare b, d = .slice ds spare ∧ b < h.next ∧ ds.length + spare.length ≤ maxLen ∧ vs = [.slice (some ⟨b, 0, none⟩) ds.length (if spare = [] then ds.length else ds.length + 1)] ∧
      ((ds = [] ∧ h.get b = none) ∨ ∃ cs, h.get b = some (.cells cs false 0) ∧ LaysEach (Lays h e) ds cs)
  | .st fs, d, vs => ∃ ds, d = .agg ds ∧ LaysL h fs ds vs
def LaysL {H : Type} (h : Heap) : TDs → List (DataW H) → List Value → Prop
  | .nil, ds, vs => ds = [] ∧ vs = []
  | .cons t ts, ds, vs => ∃ d r a b, ds = d :: r ∧ vs = a ++ b ∧ Lays h t d a ∧ LaysL h ts r b
end

/-- From one heap of arguments to a greater one. -/
structure More (P : Program) (W : World) (ι : Inj) (h : Heap) (ι' : Inj) (h' : Heap) : Prop where
  ok : Ok P W.heap.size W ι' h' W
  ro : ∀ b, ¬ mine h' b
  le : ι.le ι'
  keep : ∀ b, b < h.next → h'.get b = h.get b
  next : h.next ≤ h'.next

theorem More.trans {P : Program} {W : World} {ι ι1 ι2 : Inj} {h h1 h2 : Heap} (a : More P W ι h ι1 h1) (b : More P W ι1 h1 ι2 h2) : More P W ι h ι2 h2 :=
  ⟨b.ok, b.ro, a.le.trans b.le, fun x hx => (b.keep x (Nat.lt_of_lt_of_le hx a.next)).trans (a.keep x hx), Nat.le_trans a.next b.next⟩

theorem laysEach_mono {H : Type} {L L' : DataW H → List Value → Prop} (hl : ∀ d v, L d v → L' d v) : ∀ {ds : List (DataW H)} {vs : List Value}, LaysEach L ds vs → LaysEach L' ds vs
  | [], _, h => h
  | _ :: _, _, ⟨a, b, e, h1, h2⟩ => ⟨a, b, e, hl _ _ h1, laysEach_mono hl h2⟩

mutual
theorem Lays.keep {H : Type} {h h' : Heap} (hk : ∀ b, b < h.next → h'.get b = h.get b) (hn : h.next ≤ h'.next) : ∀ (t : TD) {d : DataW H} {vs : List Value}, Lays h t d vs → Lays h' t d vs
  | .int k, d, vs, hh => by simpa only [Lays] using hh
  | .str, d, vs, hh => by simpa only [Lays] using hh
  | .bool, d, vs, hh => by simpa only [Lays] using hh
  | .sl e, d, vs, hh => by
    simp only [Lays] at hh ⊢
    rcases hh with hh | ⟨ds, spare, b, h1, h2, h3, h4, h5⟩
    · exact .inl hh
    · refine .inr ⟨ds, spare, b, h1, Nat.lt_of_lt_of_le h2 hn, h3, h4, ?_⟩
      rw [hk b h2]
      rcases h5 with h5 | ⟨cs, h5, h6⟩
      · exact .inl h5
      · exact .inr ⟨cs, h5, laysEach_mono (fun d v => Lays.keep hk hn e) h6⟩
  | .st fs, d, vs, hh => by
    simp only [Lays] at hh ⊢
    obtain ⟨ds, h1, h2⟩ := hh
    exact ⟨ds, h1, LaysL.keep hk hn fs h2⟩
theorem LaysL.keep {H : Type} {h h' : Heap} (hk : ∀ b, b < h.next → h'.get b = h.get b) (hn : h.next ≤ h'.next) : ∀ (ts : TDs) {ds : List (DataW H)} {vs : List Value}, LaysL h ts ds vs → LaysL h' ts ds vs
  | .nil, ds, vs, hh => by simpa only [LaysL] using hh
  | .cons t ts, ds, vs, hh => by
    simp only [LaysL] at hh ⊢
    obtain ⟨d, r, a, b, h1, h2, h3, h4⟩ := hh
    exact ⟨d, r, a, b, h1, h2, Lays.keep hk hn t h3, LaysL.keep hk hn ts h4⟩
end

/-- A read-only block more. -/
theorem More.add {P : Program} {W : World} {ι : Inj} {h : Heap} (ho : Ok P W.heap.size W ι h W) (hr : ∀ b, ¬ mine h b) (blk off : Nat) (c : Array Value) (t : TypeId) (fz : Nat × Nat) (hb : W.heap[blk]? = some (.cells c t fz)) {vs : List Value}
    (hl : off + vs.length ≤ c.size) (hrep : RepC ι vs ((c.toList.drop off).take vs.length)) :
    ∃ ι', More P W ι h ι' (h.new (.cells vs false 0)) ∧ ι' h.next = some ⟨blk, off, c.size, 0⟩ := by
  have hs := ho.sim
  have hle : ι.le (ext1 ι h.next ⟨blk, off, c.size, 0⟩) := ext1_le hs.dom _
  have hlt : blk < W.heap.size := (Array.getElem?_eq_some_iff.1 hb).1
  have hro : ∀ b, ¬ mine (h.new (.cells vs false 0)) b := by
    intro b hm
    by_cases e : b = h.next
    · subst e; unfold mine at hm; rw [new_get] at hm; exact hm
    · rw [mine_congr (new_get_ne h _ e)] at hm; exact hr b hm
  refine ⟨_, ⟨⟨⟨?_, ?_, ?_, fun b1 b2 i1 i2 _ hm => (hro b1 hm).elim⟩, ho.size, ho.old⟩, hro, hle, fun b hb => new_get_ne h _ (by omega), by rw [new_next]; omega⟩, ext1_same _ _ _⟩
  · intro b j hj
    unfold ext1 at hj
    split at hj
    · subst_vars; simp [new_next]
    · have := hs.dom b j hj; rw [new_next]; omega
  · intro b hb'
    rw [new_next] at hb'
    rw [new_get_ne h _ (by omega)]
    exact hs.vac b (by omega)
  · intro b o j hg hj
    by_cases e : b = h.next
    · subst e
      rw [new_get] at hg; cases hg
      rw [ext1_same] at hj; cases hj
      exact ⟨_, hb, rfl, hl, hrep.mono hle, rfl, (fun h => (by cases h)), fun _ => hlt⟩
    · rw [new_get_ne h _ e] at hg
      have hj' : ι b = some j := by simpa [ext1, e] using hj
      obtain ⟨o', h1, h2⟩ := hs.blk b o j hg hj'
      exact ⟨o', h1, h2.mono hle⟩

/-- An id more, with nothing there. -/
theorem More.blank {P : Program} {W : World} {ι : Inj} {h : Heap} (ho : Ok P W.heap.size W ι h W) (hr : ∀ b, ¬ mine h b) (i : BI) :
    ∃ ι' h', More P W ι h ι' h' ∧ ι' h.next = some i ∧ h'.get h.next = none ∧ h.next < h'.next := by
  have hs := ho.sim
  have hle : ι.le (ext1 ι h.next i) := ext1_le hs.dom _
  refine ⟨ext1 ι h.next i, { h with next := h.next + 1 }, ⟨⟨⟨?_, ?_, ?_, fun b1 b2 i1 i2 _ hm => (hr b1 hm).elim⟩, ho.size, ho.old⟩, hr, hle, fun b hb => rfl, Nat.le_succ _⟩, ext1_same _ _ _, hs.vac _ (Nat.le_refl _), Nat.lt_succ_self _⟩
  · intro b j hj
    unfold ext1 at hj
    split at hj
    · subst_vars; exact Nat.lt_succ_self _
    · have := hs.dom b j hj; simp only; omega
  · intro b hb'
    simp only at hb' ⊢
    exact hs.vac b (by omega)
  · intro b o j hg hj
    have hg' : h.get b = some o := hg
    have hb : b ≠ h.next := fun e => by rw [e, hs.vac _ (Nat.le_refl _)] at hg'; cases hg'
    have hj' : ι b = some j := by simpa [ext1, hb] using hj
    obtain ⟨o', h1, h2⟩ := hs.blk b o j hg' hj'
    exact ⟨o', h1, h2.mono hle⟩

theorem cells?_spec {W : World} {a : Addr} {n : Nat} {cs : List Value} (h : W.cells? 0 a n = some cs) : cs.length = n ∧ ∀ i, i < n → W.cell? (a.add i) = cs[i]? := by
  unfold World.cells? at h
  rw [if_pos (Nat.zero_le _)] at h
  have hl : cs.length = n := by simpa using mapM_some_length h
  refine ⟨hl, fun i hi => ?_⟩
  have := mapM_some_get h i i (by simp [hi])
  simpa using this

theorem cell?_some {W : World} {a : Addr} {v : Value} (h : W.cell? a = some v) : a.spot = none ∧ ∃ c t fz, W.heap[a.block]? = some (.cells c t fz) ∧ c[a.off]? = some v := by
  obtain ⟨b, o, s⟩ := a
  unfold World.cell? at h
  split at h
  · rename_i c t fz hb
    split at h
    · cases h
    · rename_i hs
      exact ⟨by simpa using hs, c, t, fz, hb, h⟩
  · cases h

theorem rep_wf_str (ι : Inj) (s : ByteArray) : RepC ι [.string s] [.string s] := RepC.cons rfl (.string s) (RepC.nil ι)

theorem trodS {H : Type} {enc : TypeId × Value → H} {P : Program} {W : World} {n : Nat} {t : TypeId} {cs : List Value} {x : DataW H × List MemPlace} (h : DataW.trod enc P W 0 (fun _ => true) true n t cs = some x) :
    ∃ m, n = m + 1 ∧ DataW.trodStep enc P W 0 (fun _ => true) true (DataW.trod enc P W 0 (fun _ => true) true m) t cs = some x := by
  cases n with
  | zero => simp [DataW.trod] at h
  | succ m => exact ⟨m, rfl, h⟩

/-- Elements, one behind another. -/
theorem layEach {H : Type} {P : Program} {W : World} {e : TD} {a : Addr} (hsp : a.spot = none) {r : List Value → Option (DataW H × List MemPlace)}
    (one : ∀ {cs : List Value} {x : DataW H × List MemPlace}, r cs = some x → cs.length = e.size → ∀ {ι : Inj} {h : Heap}, Ok P W.heap.size W ι h W → (∀ b, ¬ mine h b) → ∃ ι' h' vs, More P W ι h ι' h' ∧ Lays h' e x.1 vs ∧ RepC ι' vs cs) :
    ∀ (xs : List (DataW H × List MemPlace)) (i0 : Nat), (∀ (j : Nat) x, xs[j]? = some x → (W.cells? 0 (a.add ((i0 + j) * e.size)) e.size).bind r = some x) → ∀ {ι : Inj} {h : Heap}, Ok P W.heap.size W ι h W → (∀ b, ¬ mine h b) →
      ∃ ι' h' vs rcs, More P W ι h ι' h' ∧ LaysEach (Lays h' e) (xs.map (·.1)) vs ∧ RepC ι' vs rcs ∧ rcs.length = xs.length * e.size ∧ ∀ m, m < rcs.length → W.cell? ((a.add (i0 * e.size)).add m) = rcs[m]?
  | [], i0, hx, ι, h, ho, hr => ⟨ι, h, [], [], ⟨ho, hr, .refl ι, fun _ _ => rfl, Nat.le_refl _⟩, rfl, RepC.nil _, by simp, fun m hm => by simp at hm⟩
  | x :: xs, i0, hx, ι, h, ho, hr => by
    have h0 := hx 0 x rfl
    rw [Nat.add_zero] at h0
    obtain ⟨cs, hcs, hrx⟩ := Option.bind_eq_some_iff.1 h0
    obtain ⟨hlen, hcell⟩ := cells?_spec hcs
    obtain ⟨ι1, h1, v1, m1, l1, r1⟩ := one hrx hlen ho hr
    obtain ⟨ι2, h2, v2, rcs, m2, l2, r2, hl2, hc2⟩ := layEach hsp one xs (i0 + 1) (fun j y hy => by have := hx (j + 1) y (by simpa using hy); rwa [show i0 + (j + 1) = i0 + 1 + j by omega] at this) m1.ok m1.ro
    refine ⟨ι2, h2, v1 ++ v2, cs ++ rcs, m1.trans m2, ⟨v1, v2, rfl, Lays.keep m2.keep m2.next e l1, l2⟩, (r1.mono m2.le).append r2, by simp [hlen, hl2, Nat.add_mul, Nat.add_comm], fun m hm => ?_⟩
    rw [List.getElem?_append]
    split
    · rename_i hlt
      exact hcell m (by omega)
    · rename_i hge
      rw [List.length_append] at hm
      have := hc2 (m - cs.length) (by omega)
      rw [← this]
      obtain ⟨b, o, s⟩ := a
      simp only at hsp
      subst hsp
      simp only [addr_add]
      congr 2
      rw [Nat.add_mul, Nat.one_mul]; omega

theorem More.refl {P : Program} {W : World} {ι : Inj} {h : Heap} (ho : Ok P W.heap.size W ι h W) (hr : ∀ b, ¬ mine h b) : More P W ι h ι h := ⟨ho, hr, .refl ι, fun _ _ => rfl, Nat.le_refl _⟩

mutual
theorem lay {H : Type} {enc : TypeId × Value → H} {P : Program} {W : World} : ∀ (td : TD) {n : Nat} {t : TypeId} {cs : List Value} {x : DataW H × List MemPlace}, Ty P td t → DataW.trod enc P W 0 (fun _ => true) true n t cs = some x → ∀ {ι : Inj} {h : Heap}, Ok P W.heap.size W ι h W → (∀ b, ¬ mine h b) →
    ∃ ι' h' vs, More P W ι h ι' h' ∧ Lays h' td x.1 vs ∧ RepC ι' vs cs
  | .int k, n, t, cs, x, ht, hx, ι, h, ho, hr => by
    simp only [Ty] at ht
    obtain ⟨i, rfl, rfl, hw⟩ := DataW.trod_int ht hx
    exact ⟨ι, h, [.int k i], .refl ho hr, by simp only [Lays]; exact ⟨i, rfl, hw, rfl⟩, RepC.cons rfl (.int k i) (RepC.nil _)⟩
  | .str, n, t, cs, x, ht, hx, ι, h, ho, hr => by
    simp only [Ty] at ht
    obtain ⟨s, rfl, rfl, hw⟩ := DataW.trod_string ht hx
    exact ⟨ι, h, [.string s], .refl ho hr, by simp only [Lays]; exact ⟨s, hw, rfl, rfl⟩, rep_wf_str _ s⟩
  | .bool, n, t, cs, x, ht, hx, ι, h, ho, hr => by
    simp only [Ty] at ht
    obtain ⟨b, rfl, rfl⟩ := DataW.trod_bool ht hx
    exact ⟨ι, h, [.bool b], .refl ho hr, by simp only [Lays]; exact ⟨b, rfl, rfl⟩, RepC.cons rfl (.bool b) (RepC.nil _)⟩
  | .sl e, n, t, cs, x, ht, hx, ι, h, ho, hr => by
    simp only [Ty] at ht
    obtain ⟨et, hu, hte, hsz, hpos⟩ := ht
    rcases DataW.trod_slice hu hx with ⟨rfl, rfl⟩ | ⟨a, len, cap, elems, rest, m, rfl, rfl, rfl, _, hlc, hcm, hel, hone, hrest, _⟩
    · exact ⟨ι, h, [.slice none 0 0], .refl ho hr, by simp [Lays], RepC.cons rfl .snil (RepC.nil _)⟩
    · obtain ⟨hrl, hrone⟩ := hrest rfl
      rw [hsz] at hone hrone
      have hspot : cap ≠ 0 → a.spot = none := by
        intro hc
        have : ∃ y, (W.cells? 0 (a.add (0 * e.size)) e.size).bind (DataW.trod enc P W 0 (fun _ => true) true m et) = some y := by
          by_cases hl : 0 < len
          · have := hone 0 hl
            rw [List.getElem?_eq_getElem (by omega)] at this
            exact ⟨_, this⟩
          · have h0 : len = 0 := by omega
            have := hrone 0 (by omega)
            rw [h0, Nat.zero_add] at this
            rw [List.getElem?_eq_getElem (by omega)] at this
            exact ⟨_, this⟩
        obtain ⟨y, hy⟩ := this
        obtain ⟨cs', hcs, _⟩ := Option.bind_eq_some_iff.1 hy
        obtain ⟨hl, hc'⟩ := cells?_spec hcs
        have h0 := hc' 0 hpos
        rw [Nat.zero_mul, List.getElem?_eq_getElem (by omega)] at h0
        have e0 : (a.add 0).add 0 = a := by simp [Addr.add]
        rw [e0] at h0
        exact (cell?_some h0).1
      -- the value
      have value : ∀ {ι' : Inj} {b : Nat} {i : BI}, ι' b = some i → i.blk = a.block → i.sh = a.off → i.esz = 0 → RepC ι' [.slice (some ⟨b, 0, none⟩) elems.length (if rest.map (·.1) = [] then elems.length else elems.length + 1)] [.slice (some a) len cap] := by
        intro ι' b i hι h1 h2 h3
        refine RepC.cons rfl ?_ (RepC.nil _)
        rw [hel]
        refine Rep.slice hι hlc (fun hc => ?_) (fun hc => ?_) (fun hc => by omega)
        · split at hc
          · rename_i he
            have : rest.length = 0 := by have := congrArg List.length he; simpa using this
            omega
          · omega
        · have := hspot hc
          obtain ⟨ab, ao, as⟩ := a
          simp only at h1 h2 this
          rw [h1, h2, this, Nat.zero_add]
      by_cases hl : len = 0
      · have he : elems = [] := List.eq_nil_of_length_eq_zero (by omega)
        obtain ⟨ι', h', hm, hι, hg, hlt⟩ := More.blank ho hr ⟨a.block, a.off, 0, 0⟩
        refine ⟨ι', h', _, hm, ?_, value hι rfl rfl rfl⟩
        simp only [Lays]
        refine .inr ⟨elems.map (·.1), rest.map (·.1), h.next, rfl, hlt, by simp; omega, by simp, .inl ⟨by rw [he]; rfl, hg⟩⟩
      · obtain ⟨ι1, h1, vs, rcs, m1, l1, r1, hl1, hc1⟩ := layEach (hspot (by omega)) (r := DataW.trod enc P W 0 (fun _ => true) true m et)
          (fun {cs x} hx _ {ι h} ho hr => lay e hte hx ho hr) elems 0 (fun j y hy => by
            have := hone j (by rw [← hel]; exact (List.getElem?_eq_some_iff.1 hy).1)
            rw [Nat.zero_add, this]; exact hy) ho hr
        have hpl : 0 < rcs.length := by rw [hl1, hel]; exact Nat.mul_pos (by omega) hpos
        have hs := hspot (by omega)
        have hat : ∀ m, m < rcs.length → W.cell? ⟨a.block, a.off + m, none⟩ = rcs[m]? := by
          intro m hm
          have := hc1 m hm
          obtain ⟨ab, ao, as⟩ := a
          simp only at hs
          subst hs
          rw [Nat.zero_mul, addr_add, addr_add] at this
          simpa using this
        obtain ⟨_, c, ty, fz, hblk, _⟩ := cell?_some (a := ⟨a.block, a.off + 0, none⟩) ((hat 0 hpl).trans (List.getElem?_eq_getElem hpl))
        have hcell : ∀ m, m < rcs.length → c[a.off + m]? = rcs[m]? := by
          intro m hm
          have := hat m hm
          unfold World.cell? at this
          rw [hblk] at this
          simpa using this
        have hsz2 : a.off + rcs.length ≤ c.size := by
          have := hcell (rcs.length - 1) (by omega)
          rw [List.getElem?_eq_getElem (by omega)] at this
          have := (Array.getElem?_eq_some_iff.1 this).1
          omega
        have hcut : (c.toList.drop a.off).take vs.length = rcs := by
          apply List.ext_getElem?
          intro m
          rw [List.getElem?_take, r1.1]
          by_cases hm : m < rcs.length
          · rw [if_pos hm, List.getElem?_drop, Array.getElem?_toList]
            exact hcell m hm
          · rw [if_neg hm, List.getElem?_eq_none (by omega)]
        obtain ⟨ι2, m2, hι2⟩ := More.add m1.ok m1.ro a.block a.off c ty fz hblk (vs := vs) (by rw [r1.1]; exact hsz2) (by rw [hcut]; exact r1)
        refine ⟨ι2, _, _, m1.trans m2, ?_, value hι2 rfl rfl rfl⟩
        simp only [Lays]
        refine .inr ⟨elems.map (·.1), rest.map (·.1), h1.next, rfl, by rw [new_next]; omega, by simp; omega, by simp, .inr ⟨vs, new_get _ _, ?_⟩⟩
        exact laysEach_mono (fun d v => Lays.keep m2.keep m2.next e) l1
  | .st fs, n, t, cs, x, ht, hx, ι, h, ho, hr => by
    simp only [Ty] at ht
    obtain ⟨l, hu, hl, hsz⟩ := ht
    obtain ⟨xs, m, rfl, rfl, hlen, hxl, hf⟩ := DataW.trod_struct hu hx
    obtain ⟨ι', h', vs, m1, l1, r1⟩ := layL fs (W := W) (enc := enc) (P := P) (m := m) (cs := cs) (o := 0) (fl := l.toList) (xs := xs) hl (by simp [hxl]) (by rw [hlen, hsz]; simp) (fun i f hi => hf i f (by simpa using hi)) ho hr
    exact ⟨ι', h', vs, m1, by simp only [Lays]; exact ⟨_, rfl, l1⟩, by simpa using r1⟩
theorem layL {H : Type} {enc : TypeId × Value → H} {P : Program} {W : World} : ∀ (ts : TDs) {m : Nat} {cs : List Value} {o : Nat} {fl : List Field} {xs : List (DataW H × List MemPlace)}, TyL P ts fl o → xs.length = fl.length → cs.length = o + ts.size →
    (∀ (i : Nat) (f : Field), fl[i]? = some f → DataW.trod enc P W 0 (fun _ => true) true m f.type ((cs.drop f.offset).take (P.cellsOf f.type)) = xs[i]?) → ∀ {ι : Inj} {h : Heap}, Ok P W.heap.size W ι h W → (∀ b, ¬ mine h b) →
    ∃ ι' h' vs, More P W ι h ι' h' ∧ LaysL h' ts (xs.map (·.1)) vs ∧ RepC ι' vs (cs.drop o)
  | .nil, m, cs, o, fl, xs, ht, hl, hlen, hf, ι, h, ho, hr => by
    simp only [TyL] at ht
    subst ht
    have : xs = [] := List.eq_nil_of_length_eq_zero (by simpa using hl)
    subst this
    refine ⟨ι, h, [], .refl ho hr, by simp [LaysL], ?_⟩
    rw [List.drop_eq_nil_of_le (by simp [TDs.size] at hlen; omega)]
    exact RepC.nil _
  | .cons t ts, m, cs, o, fl, xs, ht, hl, hlen, hf, ι, h, ho, hr => by
    simp only [TyL] at ht
    obtain ⟨f, r, rfl, hoff, htf, hszf, htr⟩ := ht
    cases xs with
    | nil => simp at hl
    | cons x xs =>
      have h0 := hf 0 f rfl
      simp only [List.getElem?_cons_zero] at h0
      obtain ⟨ι1, h1, v1, m1, l1, r1⟩ := lay t htf h0 ho hr
      simp only [TDs.size] at hlen
      obtain ⟨ι2, h2, v2, m2, l2, r2⟩ := layL ts (m := m) (cs := cs) (o := o + t.size) (fl := r) (xs := xs) htr (by simpa using hl) (by omega) (fun i g hi => by have := hf (i + 1) g (by simpa using hi); simpa using this) m1.ok m1.ro
      refine ⟨ι2, h2, v1 ++ v2, m1.trans m2, ?_, ?_⟩
      · simp only [LaysL]
        exact ⟨x.1, xs.map (·.1), v1, v2, rfl, rfl, Lays.keep m2.keep m2.next t l1, l2⟩
      · rw [hoff, hszf] at r1
        have : cs.drop o = (cs.drop o).take t.size ++ cs.drop (o + t.size) := by
          rw [← List.drop_drop]; exact (List.take_append_drop _ _).symm
        rw [this]
        exact (r1.mono m2.le).append r2
end

/-- Arguments, one after another. -/
def LaysArgs {H : Type} (h : Heap) : List TD → List (DataW H) → List Value → Prop
  | [], ds, vs => ds = [] ∧ vs = []
  | t :: ts, ds, vs => ∃ d r v vr, ds = d :: r ∧ vs = v :: vr ∧ (∃ cs, Lays h t d cs ∧ (match t with | .st _ => v = .agg cs.toArray | _ => cs = [v])) ∧ LaysArgs h ts r vr

theorem LaysArgs.keep {H : Type} {h h' : Heap} (hk : ∀ b, b < h.next → h'.get b = h.get b) (hn : h.next ≤ h'.next) : ∀ {ts : List TD} {ds : List (DataW H)} {vs : List Value}, LaysArgs h ts ds vs → LaysArgs h' ts ds vs
  | [], _, _, hh => hh
  | t :: ts, _, _, ⟨d, r, v, vr, h1, h2, ⟨cs, h3, h4⟩, h5⟩ => ⟨d, r, v, vr, h1, h2, ⟨cs, Lays.keep hk hn t h3, h4⟩, LaysArgs.keep hk hn h5⟩

def TysArgs (P : Program) : List TD → List TypeId → Prop
  | [], ts => ts = []
  | td :: tds, ts => ∃ t r, ts = t :: r ∧ Ty P td t ∧ TysArgs P tds r

theorem layArgs {H : Type} {enc : TypeId × Value → H} {P : Program} {W : World} : ∀ (tds : List TD) {ts : List TypeId} {rargs : List Value} {ds : List (DataW H)} {ps : List MemPlace}, TysArgs P tds ts → DataW.TrodAll enc P W 0 (fun _ => true) true ts rargs ds ps →
    (∀ (j : Nat) t v, ts[j]? = some t → rargs[j]? = some v → ((∃ fs, P.underlying t = some (.struct fs)) ↔ ∃ cs, v = .agg cs)) → ∀ {ι : Inj} {h : Heap}, Ok P W.heap.size W ι h W → (∀ b, ¬ mine h b) →
    ∃ ι' h' args, More P W ι h ι' h' ∧ LaysArgs h' tds ds args ∧ RepL ι' args rargs
  | [], ts, rargs, ds, ps, ht, hA, _, ι, h, ho, hr => by
    simp only [TysArgs] at ht
    subst ht
    cases rargs <;> cases ds <;> first | exact hA.elim | skip
    exact ⟨ι, h, [], .refl ho hr, ⟨rfl, rfl⟩, RepL.nil _⟩
  | td :: tds, ts, rargs, ds, ps, ht, hA, hagg, ι, h, ho, hr => by
    simp only [TysArgs] at ht
    obtain ⟨t, r, rfl, ht1, ht2⟩ := ht
    cases rargs with
    | nil => cases ds <;> exact hA.elim
    | cons v rargs =>
      cases ds with
      | nil => exact hA.elim
      | cons d ds =>
        obtain ⟨p, q, ⟨n, hn⟩, hA2, _⟩ := hA
        obtain ⟨ι1, h1, vs, m1, l1, r1⟩ := lay td ht1 hn ho hr
        obtain ⟨ι2, h2, args, m2, l2, r2⟩ := layArgs tds ht2 hA2 (fun j t v a b => hagg (j + 1) t v (by simpa using a) (by simpa using b)) m1.ok m1.ro
        have hv := hagg 0 t v rfl rfl
        have key : ∃ u, (match td with | .st _ => u = .agg vs.toArray | _ => vs = [u]) ∧ Rep ι1 u v := by
          have one : (∀ fs, P.underlying t ≠ some (.struct fs)) → ∃ u, vs = [u] ∧ Rep ι1 u v := by
            intro hno
            have hcs : v.cells.toList = [v] := by
              cases v <;> first | rfl | skip
              exact ((hv.2 ⟨_, rfl⟩).elim fun fs h => hno fs h).elim
            rw [hcs] at r1
            match vs, r1 with
            | [], r1 => have := r1.1; simp at this
            | [u], r1 => exact ⟨u, rfl, r1.head.1.2⟩
            | _ :: _ :: _, r1 => have := r1.1; simp at this
          cases td with
          | st fs =>
            simp only [Ty] at ht1
            obtain ⟨l, hu, _⟩ := ht1
            obtain ⟨cs, rfl⟩ := hv.1 ⟨l, hu⟩
            exact ⟨_, rfl, rep_agg.2 (by simpa [Value.cells] using r1)⟩
          | int k => simp only [Ty] at ht1; exact one (fun fs h => by rw [ht1] at h; cases h)
          | str => simp only [Ty] at ht1; exact one (fun fs h => by rw [ht1] at h; cases h)
          | bool => simp only [Ty] at ht1; exact one (fun fs h => by rw [ht1] at h; cases h)
          | sl e => simp only [Ty] at ht1; obtain ⟨et, hu, _⟩ := ht1; exact one (fun fs h => by rw [hu] at h; cases h)
        obtain ⟨u, hu1, hu2⟩ := key
        exact ⟨ι2, h2, u :: args, m1.trans m2, ⟨d, ds, u, args, rfl, rfl, ⟨vs, Lays.keep m2.keep m2.next td l1, hu1⟩, l2⟩, RepL.cons (hu2.mono m2.le) r2⟩

/-- From nothing. -/
theorem layArgs0 {H : Type} {enc : TypeId × Value → H} {P : Program} {W : World} (tds : List TD) {ts : List TypeId} {rargs : List Value} {ds : List (DataW H)} {ps : List MemPlace} (ht : TysArgs P tds ts) (hA : DataW.TrodAll enc P W 0 (fun _ => true) true ts rargs ds ps)
    (hagg : ∀ (j : Nat) t v, ts[j]? = some t → rargs[j]? = some v → ((∃ fs, P.underlying t = some (.struct fs)) ↔ ∃ cs, v = .agg cs)) :
    ∃ ι h args, Ok P W.heap.size W ι h W ∧ (∀ b, ¬ mine h b) ∧ LaysArgs h tds ds args ∧ RepL ι args rargs := by
  have hk : Ok P W.heap.size W (fun _ => none) ⟨fun _ => none, 0⟩ W := ⟨sim_empty (CRel P) _ (fun _ => none) 0 (fun b i h => (by cases h)) W, Nat.le_refl _, fun _ _ => rfl⟩
  obtain ⟨ι, h, args, m, l, r⟩ := layArgs tds ht hA hagg hk (fun b hm => by simp [mine] at hm)
  exact ⟨ι, h, args, m.ok, m.ro, l, r⟩

end Go.Idl
