/- Each operation, fourth part: new memory, stores. -/
import Derived.Test.YtfdpknfndjllgaaI3c
import Derived.Laws.MakeOwn
import Derived.Lib.AppendStr
namespace Go.Idl
set_option linter.unusedVariables false
set_option linter.unusedSimpArgs false

variable {C : Nat → IC → Code → Prop} {base : Nat} {ι : Inj} {h : Heap} {w : World} {P : Program} {ρ : Operand → Value} {e : Env}

theorem row_flat (z : List Value) (hz : z ≠ []) : ∀ n, (List.range (n * z.length)).map (fun i => z.toArray[i % z.length]!) = (List.replicate n z).flatten
  | 0 => by simp
  | n + 1 => by
    have hp : 0 < z.length := List.length_pos_iff.2 hz
    rw [Nat.succ_mul, List.range_add, List.map_append, row_flat z hz n, List.replicate_succ', List.flatten_append]
    congr 1
    simp only [List.map_map, List.flatten_cons, List.flatten_nil, List.append_nil]
    apply List.ext_getElem?
    intro j
    by_cases hj : j < z.length
    · simp [hj, Nat.mod_eq_of_lt hj]
    · simp [hj]

theorem madeCells_list {z : Array Value} (hz : 0 < z.size) (n : Nat) : (madeCells z (n * z.size)).toList = (List.replicate n z.toList).flatten := by
  have := row_flat z.toList (by intro e; simp at e; simp [e] at hz) n
  simpa [madeCells] using this

theorem repC_flat {z : List Value} (hz : RepC ι z z) : ∀ n, RepC ι (List.replicate n z).flatten (List.replicate n z).flatten
  | 0 => by simpa using RepC.nil ι
  | n + 1 => by simp only [List.replicate_succ, List.flatten_cons]; exact hz.append (repC_flat hz n)

theorem flat_len (z : List Value) (n : Nat) : (List.replicate n z).flatten.length = n * z.length := by simp

theorem flat_take (z : List Value) {l n : Nat} (h : l ≤ n) : (List.replicate n z).flatten.take (l * z.length) = (List.replicate l z).flatten := by
  obtain ⟨k, rfl⟩ : ∃ k, n = l + k := ⟨n - l, by omega⟩
  rw [← List.replicate_append_replicate, List.flatten_append, List.take_append_of_le_length (by simp)]
  rw [List.take_of_length_le (by simp)]

theorem good_mkmap (hs : Sim C base ι h w) (hb : base ≤ w.heap.size) {t kt et : TypeId} {r : Option Operand} {kk : KK} (hρ : OpdRep ι e ρ) (hu : P.underlying t = some (.map kt et)) (hr : r = none ∨ ∃ k n, r = some (.const (.int k n))) :
    Good C base P ρ (.makeMap t r) ι h w (.map (some h.next)) (h.new (.map kk [])) := by
  obtain ⟨h1, h2⟩ := hs.new (.map kk []) (.map #[] 0) ⟨w.heap.size, 0, 0, 0⟩ rfl (fun ι' hl hi => ⟨hb, by simp, by simp, by simp⟩) (w' := { w with heap := w.heap.push (.map #[] 0) }) rfl rfl rfl rfl
  refine ⟨.map (some w.heap.size), _, _, fun o ho => .inl ?_, h1, h2, (fun h => by cases h), .map (i := ⟨w.heap.size, 0, 0, 0⟩) (ext1_same _ _ _)⟩
  rcases hr with rfl | ⟨k, n, rfl⟩
  · simp [execOp, ho, Instr.makeMap]
  · simp [execOp, ho, Instr.makeMap, hρ.2, run_underlying hu, asInt, asIntOf]

theorem good_lit (hs : Sim C base ι h w) (hb : base ≤ w.heap.size) (hρ : OpdRep ι e ρ) {t el : TypeId} {len s : Nat} {ps : Array (Nat × Operand)} {z : List Value} {qs : List (Nat × Nat × Opd)}
    (hu : P.underlying t = some (.slice el)) (hsz : tsize P el = some s) (hz : zcells P el = some z) (hle : len * s ≤ 16777216) (hq : cparts (fun i => some (i * s, s)) ps.toList = some qs) {cs : List Value}
    (hf : fillL (List.replicate len z).flatten (evps e qs) = some cs) :
    Good C base P ρ (.buildSlice t len ps) ι h w (.slice (some ⟨h.next, 0, none⟩) len len) (h.new (.cells cs true s)) := by
  obtain ⟨i, v, hi, hv, rfl, hl, hr, hcv, hzero⟩ := zcells_spec (ι := ι) hz
  have his : i.size = s := by simp [tsize, hi] at hsz; exact hsz
  obtain ⟨out', h1, h2⟩ := cparts_fill hρ hq (repC_flat hr len) hf
  have hlen : out'.length = len * s := by
    have : cs.length = len * s := by
      have gen : ∀ (qs : List (Nat × Nat × Value)) (a b : List Value), fillL a qs = some b → b.length = a.length := by
        intro qs
        induction qs with
        | nil => intro a b hab; simp [fillL] at hab; rw [hab]
        | cons q qs ih =>
          intro a b hab
          obtain ⟨o, sz, u⟩ := q
          simp only [fillL] at hab
          split at hab
          · split at hab
            · rw [ih _ _ hab, put_length]
            · cases hab
          · cases hab
      rw [gen _ _ _ hf, flat_len, hl, his]
    rw [← h2.1, this]
  refine good_new hs hb (esz := s) (vf := fun n => .slice (some ⟨n, 0, none⟩) len len) (t := el) rfl h2 (fun o ho => ?_) (fun ι' hι => ?_)
  · have hbig : ¬ (16777216 < len * s) := by omega
    by_cases h0 : len * s = 0
    · have hnil : (List.replicate len v.cells.toList).flatten = [] := by
        apply List.length_eq_zero_iff.1
        rw [flat_len, hl, his, h0]
      rw [hnil] at h1
      simp only [execOp, ho, Instr.buildSlice, Sem.run_bind, run_underlying hu, run_sizeOf' hsz, Result.andThen_ok, if_neg hbig, Sem.run_ite, if_pos h0, Sem.run_pure, gt_iff_lt]
      simp only [h0, Array.range_zero', List.map_toArray, List.map_nil, Array.map_empty, Array.toList_map]
      simp only [List.map_nil, List.toArray] at h1
      simp [h1, newRow]
    · have hcells : (Array.range (len * s)).map (v.cells[· % v.cells.size]!) = ((List.replicate len v.cells.toList).flatten).toArray := by
        have hsz' : v.cells.size = s := by simpa [his] using hl
        have hp : 0 < v.cells.size := by
          rw [hsz']; exact Nat.pos_of_ne_zero fun e => h0 (by simp [e])
        apply Array.ext'
        have := madeCells_list hp len
        rw [hsz'] at this ⊢
        simpa [madeCells, hsz'] using this
      simp only [execOp, ho, Instr.buildSlice, Sem.run_bind, run_underlying hu, run_sizeOf' hsz, Result.andThen_ok, gt_iff_lt, if_neg hbig, Sem.run_ite, if_neg h0, Sem.run_pure, hzero]
      simp only [hcells, Array.toList_map]
      simp [h1, newRow]
  · have := Rep.slice (ι := ι') (b := h.next) (o := 0) (l := len) (c := len) (a' := ⟨w.heap.size, 0, none⟩) (c' := len) hι (Nat.le_refl _) (fun _ => rfl) (fun _ => rfl) (fun _ _ => by simp [hlen])
    exact this

theorem good_mkslice (hs : Sim C base ι h w) (hb : base ≤ w.heap.size) (hρ : OpdRep ι e ρ) {t el : TypeId} {i : TypeInfo} {z : List Value} {x y : Operand} {a b : Opd}
    (hu : P.underlying t = some (.slice el)) (hi : P.info? el = some i) (hz : zcells P el = some z) (hp : 0 < i.size) (hby : 0 < i.bytes) (ha : copd x = some a) (hbb : copd y = some b) {v : Value} {h' : Heap}
    (hio : iop (.mkslice i.size i.bytes z a b) e h = some (v, h')) : Good C base P ρ (.makeSlice t x y) ι h w v h' := by
  simp only [iop] at hio
  have hx := hρ.1 _ _ ha
  have hy := hρ.1 _ _ hbb
  generalize ev e a = p at *
  generalize ev e b = q at *
  split at hio
  case h_2 => cases hio
  rename_i l c
  split at hio
  case isFalse => cases hio
  rename_i hc
  obtain ⟨h0, hlc, hbytes⟩ := hc
  cases hio
  have hx' := rep_int hx
  have hy' := rep_int hy
  obtain ⟨i', v, hi', hv, rfl, hl, hr, hcv, hzero⟩ := zcells_spec (ι := ι) hz
  rw [hi] at hi'; cases hi'
  have hcb : c ≤ 140737488355328 := by
    have h1 : (1 : Int) ≤ i.bytes := by omega
    have h2 : c * 1 ≤ c * i.bytes := Int.mul_le_mul_of_nonneg_left h1 (by omega)
    omega
  have hrun := run_make (P := P) w t el i v hu hi hv .i64 .i64 l c h0 hlc (by rw [Int.mul_comm]; omega) (by omega)
  have hsize : v.cells.size = i.size := by simpa using hl
  have hpz : 0 < v.cells.size := by omega
  have hmade := madeCells_list hpz c.toNat
  rw [hsize] at hmade
  have hll : l.toNat ≤ c.toNat := by omega
  obtain ⟨h1, h2⟩ := hs.new (.cells (List.replicate l.toNat v.cells.toList).flatten true i.size) (.cells (madeCells v.cells (c.toNat * i.size)) el) ⟨w.heap.size, 0, c.toNat * i.size, i.size⟩ rfl
    (fun ι' hle hι => ⟨size_madeCells _ _, by
        rw [flat_len, hl]; simp only [Nat.zero_add]; exact Nat.mul_le_mul_right _ hll, by
        rw [hmade, List.drop_zero, flat_len, flat_take _ hll]
        exact repC_flat (hr.mono hle) _, rfl, fun _ => ⟨rfl, hb⟩, fun hq => by cases hq⟩)
    (w' := w.alloc (.cells (madeCells v.cells (c.toNat * i.size)) el)) rfl rfl rfl rfl
  refine ⟨.slice (some ⟨w.heap.size, 0, none⟩) l.toNat c.toNat, _, _, fun o ho => .inl ?_, h1, h2, (fun h => by cases h), ?_⟩
  · simp [execOp, ho, hx', hy', hrun]
  · refine Rep.slice (i := ⟨w.heap.size, 0, c.toNat * i.size, i.size⟩) (ext1_same _ _ _) hll (fun hcl => ?_) (fun _ => rfl) (fun _ _ => by simp)
    split at hcl
    · rename_i e; rw [e]
    · omega

theorem good_range (hs : Sim C base ι h w) (hb : base ≤ w.heap.size) (hρ : OpdRep ι e ρ) {t : TypeId} {x : Operand} {a : Opd} (hu : P.underlying t = some .string) (ha : copd x = some a) {v : Value} {h' : Heap}
    (hi : iop (.range a) e h = some (v, h')) : Good C base P ρ (.range t x) ι h w v h' := by
  simp only [iop] at hi
  have hx := hρ.1 _ _ ha
  generalize ev e a = p at *
  split at hi
  case h_2 => cases hi
  rename_i s
  cases hi
  have hx' := rep_string hx
  obtain ⟨h1, h2⟩ := hs.new (.siter s 0) (.stringIter s 0) ⟨w.heap.size, 0, 0, 0⟩ rfl (fun ι' hl hi => ⟨hb, rfl, rfl, rfl⟩) (w' := { w with heap := w.heap.push (.stringIter s 0) }) rfl rfl rfl rfl
  refine ⟨.pointer (some ⟨w.heap.size, 0, none⟩), _, _, fun o ho => .inl ?_, h1, h2, (fun h => by cases h), rep_newptr (i := ⟨w.heap.size, 0, 0, 0⟩) (ext1_same _ _ _) rfl⟩
  simp [execOp, ho, hx', Instr.range, run_underlying hu]

theorem Sim.setObj (hs : Sim C base ι h w) {b : Nat} {i : BI} (hi : ι b = some i) (hm : mine h b) (o : Blk) {old o' : Obj} (hold : w.heap[i.blk]? = some old) (hnc : ∀ c t f, old ≠ .cells c t f) (hr : BRel C base ι i o o') :
    ∃ w', (Go.setObj i.blk o').run P w = .ok () w' ∧ Sim C base ι (h.set b o) w' ∧ Ext ι h w ι (h.set b o) w' := by
  have hlt : i.blk < w.heap.size := (Array.getElem?_eq_some_iff.1 hold).1
  refine ⟨{ w with heap := w.heap.setIfInBounds i.blk o' }, ?_, ?_⟩
  · simp only [Go.setObj, Sem.run, hold]
  · exact hs.turn hi hm o o' hr (by simp [hlt]) (fun k hk => by simp [Array.getElem?_setIfInBounds, Ne.symm hk]) (by simp) rfl rfl rfl

theorem good_next (hs : Sim C base ι h w) (hρ : OpdRep ι e ρ) {x : Operand} {a : Opd} (ha : copd x = some a) {v : Value} {h' : Heap}
    (hi : iop (.next a) e h = some (v, h')) : Good C base P ρ (.next x true) ι h w v h' := by
  simp only [iop] at hi
  split at hi
  case h_2 => cases hi
  rename_i b hx0
  obtain ⟨i, hι, hx⟩ := rep_ptr (hx0 ▸ hρ.1 _ _ ha)
  split at hi
  case h_2 => cases hi
  rename_i s pos hb
  obtain ⟨o', ho', hr⟩ := hs.blk b _ i hb hι
  cases o' <;> simp only [BRel] at hr
  rename_i s' p'
  obtain ⟨hbase, hsh, rfl, rfl⟩ := hr
  have hg : (getObj i.blk).run P w = .ok (.stringIter s pos) w := by simp [getObj, Sem.run, ho']
  have hx' : ρ x = .pointer (some ⟨i.blk, 0, none⟩) := by rw [hx, hsh]
  split at hi
  · rename_i hlt
    cases hi
    obtain ⟨w', hrun, hs', he'⟩ := hs.setObj (P := P) hι (by unfold mine; rw [hb]; trivial) (.siter s (pos + (Utf8.decode s pos).2)) (o' := .stringIter s (pos + (Utf8.decode s pos).2)) ho' (by simp) ⟨hbase, hsh, rfl, rfl⟩
    refine ⟨_, w', ι, fun o ho => .inl ?_, hs', he', (fun h => by cases h), rep_tup3 (.bool _) (.int _ _) (.int _ _)⟩
    simp [execOp, ho, hx', Instr.next, hg, hlt, hrun, goInt]
  · rename_i hlt
    cases hi
    refine good_pure hs (fun o ho => ?_) (rep_tup1 (.bool _))
    simp [execOp, ho, hx', Instr.next, hg, hlt]

theorem good_store (hs : Sim C base ι h w) (hρ : OpdRep ι e ρ) {t : TypeId} {n : Nat} {x y : Operand} {a b : Opd} (hz : tsize P t = some n) (ha : copd x = some a) (hb : copd y = some b) {v : Value} {h' : Heap}
    (hi : iop (.store n a b) e h = some (v, h')) : Good C base P ρ (.store t x y) ι h w v h' := by
  simp only [iop] at hi
  have hy := hρ.1 _ _ hb
  split at hi
  case h_2 => cases hi
  rename_i bk o hx0
  obtain ⟨i, hι, hx⟩ := rep_ptr (hx0 ▸ hρ.1 _ _ ha)
  split at hi
  case h_2 => cases hi
  rename_i vs hvs
  split at hi
  case isFalse => cases hi
  rename_i hlen
  obtain ⟨h1, hw, hp⟩ := opt_map hi
  cases hp
  have hr := rep_cellsOf hy hvs
  obtain ⟨w', hrun, hs', he'⟩ := hs.write P hι hr hw
  refine ⟨undef, w', ι, fun o ho => .inr ⟨?_, rfl⟩, hs', he', (fun h => by cases h), .tuple rfl (fun k v v' h => by simp at h)⟩
  have hl : (ρ y).cells.size = n := by have := hr.1; simp at this; omega
  simp [execOp, ho, Instr.storeAt, hx, Instr.sureAddr, storeVar, run_sizeOf' hz, hl, hrun]

end Go.Idl
