/- Steps of the two heaps that keep them together. -/
import Derived.Test.YtfdpknfndjllgaaI1
namespace Go.Idl
set_option linter.unusedVariables false
set_option linter.unusedSimpArgs false

variable {C : Nat → IC → Code → Prop} {base : Nat} {ι : Inj} {h : Heap} {w : World}

theorem Sim.congr (hs : Sim C base ι h w) {w' : World} (hw : w'.heap = w.heap) : Sim C base ι h w' :=
  ⟨hs.dom, hs.vac, fun b o i h1 h2 => by rw [hw]; exact hs.blk b o i h1 h2, hs.inj⟩

def ext1 (ι : Inj) (n : Nat) (i : BI) : Inj := fun k => if k = n then some i else ι k

theorem ext1_le (hs : ∀ b i, ι b = some i → b < h.next) (i : BI) : ι.le (ext1 ι h.next i) := by
  intro b j hb
  have := hs b j hb
  unfold ext1
  rw [if_neg (by omega)]; exact hb
theorem ext1_same (ι : Inj) (n : Nat) (i : BI) : ext1 ι n i n = some i := by simp [ext1]

theorem ext1_fresh (n : Nat) (i : BI) : ∀ b j, ext1 ι n i b = some j → ι b = some j ∨ n ≤ b := by
  intro b j h
  unfold ext1 at h
  split at h
  · right; omega
  · exact .inl h

theorem new_get (h : Heap) (o : Blk) : (h.new o).get h.next = some o := by simp [Heap.new]
theorem new_get_ne (h : Heap) (o : Blk) {b : Nat} (hb : b ≠ h.next) : (h.new o).get b = h.get b := by simp [Heap.new, hb]
theorem new_next (h : Heap) (o : Blk) : (h.new o).next = h.next + 1 := rfl
theorem set_get (h : Heap) (b : Nat) (o : Blk) : (h.set b o).get b = some o := by simp [Heap.set]
theorem set_get_ne (h : Heap) (o : Blk) {b c : Nat} (hb : c ≠ b) : (h.set b o).get c = h.get c := by simp [Heap.set, hb]
theorem set_next (h : Heap) (b : Nat) (o : Blk) : (h.set b o).next = h.next := rfl

theorem mine_congr {h h' : Heap} {b : Nat} (e : h'.get b = h.get b) : mine h' b = mine h b := by unfold mine; rw [e]
theorem live_congr {h h' : Heap} {b : Nat} (e : h'.get b = h.get b) : live h' b = live h b := by unfold live; rw [e]

/-- A new block in both, at the end of the model's heap. -/
theorem Sim.new (hs : Sim C base ι h w) (o : Blk) (o' : Obj) (i : BI) (hi : i.blk = w.heap.size)
    (hr : ∀ ι', ι.le ι' → ι' h.next = some i → BRel C base ι' i o o') {w' : World} (hw : w'.heap = w.heap.push o') (h1 : w'.os = w.os) (h2 : w'.tape = w.tape) (h3 : w'.output = w.output) :
    Sim C base (ext1 ι h.next i) (h.new o) w' ∧ Ext ι h w (ext1 ι h.next i) (h.new o) w' := by
  have hle : ι.le (ext1 ι h.next i) := ext1_le hs.dom i
  refine ⟨⟨?_, ?_, ?_, ?_⟩, hle, ⟨h1, h2, h3, by rw [hw]; simp, ?_⟩, ?_, by simp [new_next], ext1_fresh _ _⟩
  · intro b j hb
    unfold ext1 at hb
    split at hb
    · subst_vars; simp [new_next]
    · have := hs.dom b j hb; simp [new_next]; omega
  · intro b hb
    simp only [new_next] at hb
    rw [new_get_ne h o (by omega)]
    exact hs.vac b (by omega)
  · intro b x j hb hj
    by_cases e : b = h.next
    · subst e
      rw [new_get] at hb; cases hb
      rw [ext1_same] at hj; cases hj
      exact ⟨o', by rw [hw, hi]; simp, hr _ hle (ext1_same _ _ _)⟩
    · rw [new_get_ne h o e] at hb
      have hj' : ι b = some j := by simpa [ext1, e] using hj
      obtain ⟨x', hx', hx⟩ := hs.blk b x j hb hj'
      have hlt : j.blk < w.heap.size := (Array.getElem?_eq_some_iff.1 hx').1
      refine ⟨x', ?_, hx.mono hle⟩
      rw [hw, Array.getElem?_push, if_neg (by omega)]; exact hx'
  · intro b1 b2 i1 i2 hne hm hl hi1 hi2
    by_cases e1 : b1 = h.next <;> by_cases e2 : b2 = h.next
    · omega
    · subst e1
      rw [ext1_same] at hi1; cases hi1
      have hi2' : ι b2 = some i2 := by simpa [ext1, e2] using hi2
      have hl' : live h b2 := by rwa [live_congr (new_get_ne h o e2)] at hl
      have := hs.lt hi2' hl'
      omega
    · subst e2
      rw [ext1_same] at hi2; cases hi2
      have hi1' : ι b1 = some i1 := by simpa [ext1, e1] using hi1
      have hm' : mine h b1 := by rwa [mine_congr (new_get_ne h o e1)] at hm
      have := hs.lt hi1' hm'.live
      omega
    · have hi1' : ι b1 = some i1 := by simpa [ext1, e1] using hi1
      have hi2' : ι b2 = some i2 := by simpa [ext1, e2] using hi2
      exact hs.inj b1 b2 i1 i2 hne (by rwa [mine_congr (new_get_ne h o e1)] at hm) (by rwa [live_congr (new_get_ne h o e2)] at hl) hi1' hi2'
  · intro k hk _
    rw [hw, Array.getElem?_push, if_neg (by omega)]
  · intro r hrr ⟨b, j, hb, hjr, hm⟩
    by_cases e : b = h.next
    · subst e
      rw [ext1_same] at hb; cases hb
      omega
    · have hb' : ι b = some j := by simpa [ext1, e] using hb
      exact ⟨b, j, hb', hjr, by rwa [mine_congr (new_get_ne h o e)] at hm⟩

/-- A block of one's own is turned in both. -/
theorem Sim.turn (hs : Sim C base ι h w) {b : Nat} {i : BI} (hi : ι b = some i) (hm : mine h b) (o : Blk) (o' : Obj) (hr : BRel C base ι i o o')
    {w' : World} (hw : w'.heap[i.blk]? = some o') (hw' : ∀ k, k ≠ i.blk → w'.heap[k]? = w.heap[k]?) (hz : w'.heap.size = w.heap.size) (h1 : w'.os = w.os) (h2 : w'.tape = w.tape) (h3 : w'.output = w.output) :
    Sim C base ι (h.set b o) w' ∧ Ext ι h w ι (h.set b o) w' := by
  have hlt : b < h.next := hs.dom b i hi
  refine ⟨⟨?_, ?_, ?_, ?_⟩, .refl ι, ⟨h1, h2, h3, by omega, ?_⟩, ?_, by simp [set_next], fun _ _ h => .inl h⟩
  · intro c j hc; rw [set_next]; exact hs.dom c j hc
  · intro c hc; rw [set_next] at hc; rw [set_get_ne h o (by omega)]; exact hs.vac c hc
  · intro c x j hc hj
    by_cases e : c = b
    · subst e
      rw [set_get] at hc; cases hc
      rw [hi] at hj; cases hj
      exact ⟨o', hw, hr⟩
    · rw [set_get_ne h o e] at hc
      obtain ⟨x', hx', hx⟩ := hs.blk c x j hc hj
      by_cases hd : x = .dead
      · subst hd
        have hlt' : j.blk < w.heap.size := (Array.getElem?_eq_some_iff.1 hx').1
        exact ⟨w'.heap[j.blk]'(by omega), Array.getElem?_eq_getElem (by omega), by simp [BRel]⟩
      · have hl : live h c := by unfold live; rw [hc]; cases x <;> first | exact (hd rfl).elim | trivial
        refine ⟨x', ?_, hx⟩
        rw [hw' _ (fun e' => hs.inj b c i j (Ne.symm e) hm hl hi hj e'.symm)]; exact hx'
  · intro b1 b2 i1 i2 hne hm1 hl2 hi1 hi2
    have hm1' : mine h b1 := by
      by_cases e : b1 = b
      · subst e; exact hm
      · rwa [mine_congr (set_get_ne h o e)] at hm1
    by_cases e : b2 = b
    · subst e; exact hs.inj b1 b2 i1 i2 hne hm1' hm.live hi1 hi2
    · exact hs.inj b1 b2 i1 i2 hne hm1' (by rwa [live_congr (set_get_ne h o e)] at hl2) hi1 hi2
  · intro k hk hn
    exact hw' k fun e => hn ⟨b, i, hi, e.symm, hm⟩
  · intro r hrr ⟨c, j, hc, hjr, hmc⟩
    by_cases e : c = b
    · subst e; exact ⟨c, j, hc, hjr, hm⟩
    · exact ⟨c, j, hc, hjr, by rwa [mine_congr (set_get_ne h o e)] at hmc⟩

theorem addr_add (b o n : Nat) : (⟨b, o, none⟩ : Addr).add n = ⟨b, o + n, none⟩ := by unfold Addr.add; split <;> simp_all

/-- Cells that are read: they lie in the model's heap, pairwise. -/
theorem Sim.cells (hs : Sim C base ι h w) {b o n : Nat} {i : BI} {cs : List Value} (hi : ι b = some i) (hc : h.cells b o n = some cs) :
    ∃ cs', RepC ι cs cs' ∧ cs.length = n ∧ ∀ j v, cs'[j]? = some v → w.cell? ((⟨i.blk, o + i.sh, none⟩ : Addr).add j) = some v := by
  unfold Heap.cells at hc
  split at hc
  case h_2 => cases hc
  rename_i all own esz hb
  split at hc
  case isFalse => cases hc
  rename_i hle
  cases hc
  obtain ⟨o', ho', hr⟩ := hs.blk b _ i hb hi
  cases o' <;> simp only [BRel] at hr
  rename_i c t fz
  refine ⟨((c.toList.drop i.sh).take all.length |>.drop o).take n, ?_, by simp; omega, ?_⟩
  · exact (hr.2.2.1.drop o).take n
  · intro j v hv
    rw [addr_add]
    rw [List.getElem?_take] at hv
    split at hv
    · rw [List.getElem?_drop, List.getElem?_take] at hv
      split at hv
      · rw [List.getElem?_drop] at hv
        simp only [World.cell?, ho', Option.isSome_none, Bool.false_eq_true, if_false]
        rw [← Array.getElem?_toList, ← hv]
        congr 1; omega
      · cases hv
    · cases hv

theorem Sim.cell (hs : Sim C base ι h w) {b o : Nat} {i : BI} {v : Value} (hi : ι b = some i) (hc : h.cell b o = some v) :
    ∃ v', flat v = true ∧ Rep ι v v' ∧ w.cell? ⟨i.blk, o + i.sh, none⟩ = some v' := by
  unfold Heap.cell at hc
  split at hc
  case h_2 => cases hc
  rename_i all own esz hb
  obtain ⟨o', ho', hr⟩ := hs.blk b _ i hb hi
  cases o' <;> simp only [BRel] at hr
  rename_i c t fz
  obtain ⟨v', hv', hf, hR⟩ := hr.2.2.1.get hc
  refine ⟨v', hf, hR, ?_⟩
  rw [List.getElem?_take] at hv'
  split at hv'
  · rw [List.getElem?_drop] at hv'
    simp only [World.cell?, ho', Option.isSome_none, Bool.false_eq_true, if_false]
    rw [← Array.getElem?_toList, ← hv']
    congr 1; omega
  · cases hv'

theorem put_get : ∀ (vs cs : List Value) (o j : Nat), o + vs.length ≤ cs.length → (put cs o vs)[j]? = if j < o then cs[j]? else if j < o + vs.length then vs[j - o]? else cs[j]?
  | [], cs, o, j, _ => by simp only [put, List.length_nil, Nat.add_zero]; split <;> rfl
  | v :: vs, cs, o, j, hl => by
    simp only [List.length_cons] at hl
    simp only [put, List.length_cons]
    rw [put_get vs (cs.set o v) (o + 1) j (by simp; omega), List.getElem?_set]
    by_cases h1 : j < o
    · rw [if_pos (by omega), if_neg (by omega), if_pos h1]
    · by_cases h2 : j = o
      · subst h2
        rw [if_pos (by omega), if_pos rfl, if_pos (by omega), if_neg h1, if_pos (by omega)]; simp
      · by_cases h3 : j < o + 1 + vs.length
        · rw [if_neg (by omega), if_pos h3, if_neg h1, if_pos (by omega), show j - o = (j - (o + 1)) + 1 by omega]; simp
        · rw [if_neg (by omega), if_neg h3, if_neg (by omega), if_neg h1, if_neg (by omega)]

theorem put_eq (vs cs : List Value) (o : Nat) (hl : o + vs.length ≤ cs.length) : put cs o vs = cs.take o ++ vs ++ cs.drop (o + vs.length) := by
  apply List.ext_getElem?
  intro j
  rw [put_get vs cs o j hl]
  simp only [List.append_assoc, List.getElem?_append, List.length_take, List.getElem?_take, List.getElem?_drop]
  rw [show min o cs.length = o by omega]
  by_cases h1 : j < o
  · rw [if_pos h1, if_pos h1, if_pos h1]
  · rw [if_neg h1, if_neg h1]
    by_cases h2 : j < o + vs.length
    · rw [if_pos h2, if_pos (by omega)]
    · rw [if_neg h2, if_neg (by omega)]
      congr 1; omega

theorem put_length : ∀ (vs cs : List Value) (o : Nat), (put cs o vs).length = cs.length
  | [], _, _ => rfl
  | v :: vs, cs, o => by simp [put, put_length vs]

theorem RepC.put {ι : Inj} : ∀ {vs vs' cs cs' : List Value} {o : Nat}, RepC ι vs vs' → RepC ι cs cs' → RepC ι (put cs o vs) (Idl.put cs' o vs')
  | [], [], _, _, _, _, h2 => h2
  | [], _ :: _, _, _, _, h1, _ => by simp [RepC] at h1
  | _ :: _, [], _, _, _, h1, _ => by simp [RepC] at h1
  | v :: vs, v' :: vs', cs, cs', o, h1, h2 => by
    simp only [Idl.put]
    refine RepC.put h1.head.2 ⟨by simp [h2.1], fun k x x' hx hx' => ?_⟩
    rw [List.getElem?_set] at hx hx'
    rw [← h2.1] at hx'
    by_cases e : o = k
    · rw [if_pos e] at hx hx'
      split at hx
      · rename_i hlt; rw [if_pos hlt] at hx'; cases hx; cases hx'; exact h1.head.1
      · cases hx
    · rw [if_neg e] at hx hx'
      exact h2.2 k x x' hx hx'

/-- Cells that are written. -/
theorem Sim.write (hs : Sim C base ι h w) (P : Program) {b o : Nat} {i : BI} {vs vs' : List Value} {h' : Heap} (hi : ι b = some i) (hv : RepC ι vs vs') (hw : h.write b o vs = some h') :
    ∃ w', (storeCells ⟨i.blk, o + i.sh, none⟩ vs').run P w = .ok () w' ∧ Sim C base ι h' w' ∧ Ext ι h w ι h' w' := by
  unfold Heap.write at hw
  split at hw
  case h_2 => cases hw
  rename_i cs esz hb
  split at hw
  case isFalse => cases hw
  rename_i hle
  cases hw
  obtain ⟨o', ho', hr⟩ := hs.blk b _ i hb hi
  cases o' <;> simp only [BRel] at hr
  rename_i c t fz
  obtain ⟨hsz, hsh, hrep, he, hown⟩ := hr
  obtain ⟨hfz, hbase⟩ := hown.1 trivial
  subst hfz
  have hrun := run_storeCells_at P i.blk (o + i.sh) t vs' 0 c w ho' (by rw [← hv.1]; omega) (fun v hvm => by
    obtain ⟨k, hk⟩ := List.getElem?_of_mem hvm
    have hk' : k < vs.length := by rw [hv.1]; exact (List.getElem?_eq_some_iff.1 hk).1
    obtain ⟨x, hx⟩ : ∃ x, vs[k]? = some x := ⟨_, List.getElem?_eq_getElem hk'⟩
    have := hv.2 k x v hx hk
    rw [oneCell'_eq]; exact this.2.flat this.1)
  refine ⟨_, hrun, ?_⟩
  refine hs.turn hi (by unfold mine; rw [hb]; trivial) _ (.cells (put c.toList (o + i.sh) vs').toArray t (0, 0)) ?_ ?_ (fun k hk => setRow_other _ _ _ _ hk) (by simp) (by simp) (by simp) (by simp)
  · refine ⟨by simp [put_length, hsz], by simpa [put_length] using hsh, ?_, he, fun _ => ⟨rfl, hbase⟩, fun h => by cases h⟩
    refine ⟨by simp [put_length]; omega, fun k x x' hx hx' => ?_⟩
    have hvl := hv.1
    rw [put_get vs cs o k hle] at hx
    simp only [put_length] at hx'
    rw [List.getElem?_take] at hx'
    split at hx'
    · rw [List.getElem?_drop, put_get _ _ _ _ (by rw [← hv.1]; simp; omega)] at hx'
      by_cases h1 : k < o
      · rw [if_pos h1] at hx
        rw [if_pos (by omega)] at hx'
        exact hrep.2 k x x' hx (by rw [List.getElem?_take, if_pos (by omega), List.getElem?_drop]; exact hx')
      · rw [if_neg h1] at hx
        rw [if_neg (by omega)] at hx'
        by_cases h2 : k < o + vs.length
        · rw [if_pos h2] at hx
          rw [if_pos (by omega), show i.sh + k - (o + i.sh) = k - o by omega] at hx'
          exact hv.2 _ x x' hx hx'
        · rw [if_neg h2] at hx
          rw [if_neg (by omega)] at hx'
          exact hrep.2 k x x' hx (by rw [List.getElem?_take, if_pos (by omega), List.getElem?_drop]; exact hx')
    · cases hx'
  · rw [setRow_heap _ _ _ _ _ _ ho', put_eq _ _ _ (by rw [← hv.1]; simp; omega)]
    simp

/-- An ideal block of one's own is given up. -/
theorem Sim.die (hs : Sim C base ι h w) {b : Nat} (hm : mine h b) : Sim C base ι (h.set b .dead) w ∧ Ext ι h w ι (h.set b .dead) w ∧ ¬ live (h.set b .dead) b := by
  have hnl : ¬ live (h.set b .dead) b := by unfold live; rw [set_get]; simp
  refine ⟨⟨?_, ?_, ?_, ?_⟩, ⟨.refl ι, .refl _ w, ?_, by simp [set_next], fun _ _ h => .inl h⟩, hnl⟩
  · intro c j hc; rw [set_next]; exact hs.dom c j hc
  · intro c hc
    rw [set_next] at hc
    by_cases e : c = b
    · subst e
      have := hs.vac c hc
      unfold mine at hm; rw [this] at hm; exact hm.elim
    · rw [set_get_ne h _ e]; exact hs.vac c hc
  · intro c x j hc hj
    by_cases e : c = b
    · subst e
      rw [set_get] at hc; cases hc
      exact ⟨w.heap[j.blk]'(hs.lt hj hm.live), Array.getElem?_eq_getElem (hs.lt hj hm.live), by simp [BRel]⟩
    · rw [set_get_ne h _ e] at hc
      exact hs.blk c x j hc hj
  · intro b1 b2 i1 i2 hne hm1 hl2 hi1 hi2
    have e1 : b1 ≠ b := fun e => hnl (e ▸ hm1.live)
    have e2 : b2 ≠ b := fun e => hnl (e ▸ hl2)
    exact hs.inj b1 b2 i1 i2 hne (by rwa [mine_congr (set_get_ne h _ e1)] at hm1) (by rwa [live_congr (set_get_ne h _ e2)] at hl2) hi1 hi2
  · intro r hr ⟨c, j, hc, hjr, hmc⟩
    have e : c ≠ b := fun e => hnl (e ▸ hmc.live)
    exact ⟨c, j, hc, hjr, by rwa [mine_congr (set_get_ne h _ e)] at hmc⟩

/-- A new ideal block in the place of one that is given up: the model's block is turned. -/
theorem Sim.move (hs : Sim C base ι h w) {b : Nat} {i : BI} (hi : ι b = some i) (hm : mine h b) (o : Blk) (o' : Obj) (j : BI) (hj : j.blk = i.blk)
    (hr : ∀ ι', ι.le ι' → BRel C base ι' j o o')
    {w' : World} (hw : w'.heap[i.blk]? = some o') (hw' : ∀ k, k ≠ i.blk → w'.heap[k]? = w.heap[k]?) (hz : w'.heap.size = w.heap.size) (h1 : w'.os = w.os) (h2 : w'.tape = w.tape) (h3 : w'.output = w.output) :
    Sim C base (ext1 ι h.next j) ((h.set b .dead).new o) w' ∧ Ext ι h w (ext1 ι h.next j) ((h.set b .dead).new o) w' := by
  obtain ⟨hd, _, hnl⟩ := hs.die hm
  have hle : ι.le (ext1 ι h.next j) := ext1_le hs.dom j
  have hlt : b < h.next := hs.dom b i hi
  have hn : (h.set b .dead).next = h.next := rfl
  have other : ∀ c k, c ≠ b → ι c = some k → live h c → k.blk ≠ i.blk := fun c k hc hk hl e => hs.inj b c i k (Ne.symm hc) hm hl hi hk e.symm
  refine ⟨⟨?_, ?_, ?_, ?_⟩, hle, ⟨h1, h2, h3, by omega, ?_⟩, ?_, by simp [new_next, set_next], ext1_fresh _ _⟩
  · intro c k hc
    unfold ext1 at hc
    split at hc
    · subst_vars; simp [new_next, set_next]
    · have := hs.dom c k hc; simp [new_next, set_next]; omega
  · intro c hc
    simp only [new_next, hn] at hc
    rw [new_get_ne _ o (by rw [hn]; omega)]
    exact hd.vac c (by rw [hn]; omega)
  · intro c x k hc hk
    by_cases e : c = h.next
    · subst e
      rw [← hn, new_get] at hc; cases hc
      rw [ext1_same] at hk; cases hk
      exact ⟨o', by rw [hj]; exact hw, hr _ hle⟩
    · rw [new_get_ne _ o (by rw [hn]; exact e)] at hc
      have hk' : ι c = some k := by simpa [ext1, e] using hk
      obtain ⟨x', hx', hx⟩ := hd.blk c x k hc hk'
      by_cases hdd : x = .dead
      · subst hdd
        have hlt' : k.blk < w.heap.size := (Array.getElem?_eq_some_iff.1 hx').1
        exact ⟨w'.heap[k.blk]'(by omega), Array.getElem?_eq_getElem (by omega), by simp [BRel]⟩
      · have hl : live (h.set b .dead) c := by unfold live; rw [hc]; cases x <;> first | exact (hdd rfl).elim | trivial
        have hcb : c ≠ b := fun e => hnl (e ▸ hl)
        refine ⟨x', ?_, hx.mono hle⟩
        rw [hw' _ (other c k hcb hk' (by rwa [live_congr (set_get_ne h _ hcb)] at hl))]; exact hx'
  · intro b1 b2 i1 i2 hne hm1 hl2 hi1 hi2
    by_cases e1 : b1 = h.next <;> by_cases e2 : b2 = h.next
    · omega
    · subst e1
      rw [ext1_same] at hi1; cases hi1
      have hi2' : ι b2 = some i2 := by simpa [ext1, e2] using hi2
      have hl' : live (h.set b .dead) b2 := by rwa [live_congr (new_get_ne _ o (by rw [hn]; exact e2))] at hl2
      have hcb : b2 ≠ b := fun e => hnl (e ▸ hl')
      rw [hj]
      exact (other b2 i2 hcb hi2' (by rwa [live_congr (set_get_ne h _ hcb)] at hl')).symm
    · subst e2
      rw [ext1_same] at hi2; cases hi2
      have hi1' : ι b1 = some i1 := by simpa [ext1, e1] using hi1
      have hm' : mine (h.set b .dead) b1 := by rwa [mine_congr (new_get_ne _ o (by rw [hn]; exact e1))] at hm1
      have hcb : b1 ≠ b := fun e => hnl (e ▸ hm'.live)
      rw [hj]
      exact other b1 i1 hcb hi1' (by have := hm'.live; rwa [live_congr (set_get_ne h _ hcb)] at this)
    · have hi1' : ι b1 = some i1 := by simpa [ext1, e1] using hi1
      have hi2' : ι b2 = some i2 := by simpa [ext1, e2] using hi2
      exact hd.inj b1 b2 i1 i2 hne (by rwa [mine_congr (new_get_ne _ o (by rw [hn]; exact e1))] at hm1) (by rwa [live_congr (new_get_ne _ o (by rw [hn]; exact e2))] at hl2) hi1' hi2'
  · intro k hk hnn
    exact hw' k fun e => hnn ⟨b, i, hi, e.symm, hm⟩
  · intro r hrr ⟨c, k, hc, hkr, hmc⟩
    by_cases e : c = h.next
    · subst e
      rw [ext1_same] at hc; cases hc
      exact ⟨b, i, hi, by rw [← hj]; exact hkr, hm⟩
    · have hc' : ι c = some k := by simpa [ext1, e] using hc
      have hm' : mine (h.set b .dead) c := by rwa [mine_congr (new_get_ne _ o (by rw [hn]; exact e))] at hmc
      have hcb : c ≠ b := fun e => hnl (e ▸ hm'.live)
      exact ⟨c, k, hc', hkr, by rwa [mine_congr (set_get_ne h _ hcb)] at hm'⟩

end Go.Idl
