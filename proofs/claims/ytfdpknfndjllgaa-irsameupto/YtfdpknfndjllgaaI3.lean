/- Each operation: what the ideal one comes to, the model's comes to. First half. -/
import Derived.Test.YtfdpknfndjllgaaI1b
import Derived.Test.YtfdpknfndjllgaaI2
import Derived.ChangeKeysEq
namespace Go.Idl
set_option linter.unusedVariables false
set_option linter.unusedSimpArgs false

variable {C : Nat → IC → Code → Prop} {base : Nat} {ι : Inj} {h : Heap} {w : World} {P : Program} {ρ : Operand → Value} {e : Env}

/-- The model's operation goes through. -/
def Does (P : Program) (ρ : Operand → Value) (op : Op) (w w' : World) (v' : Value) : Prop :=
  ∀ o : Oper, o.op = op → (execOp ρ o).run P w = .ok (.value v') w' ∨ ((execOp ρ o).run P w = .ok .skip w' ∧ v' = undef)

/-- Operations that may turn the world. -/
def loudOp : Op → Bool
  | .alloc _ | .box _ _ | .buildSlice _ _ _ | .store _ _ _ | .makeMap _ _ | .makeSlice _ _ _ | .mapUpdate _ _ _ _ | .insert _ _ _ _ | .range _ _ | .next _ _ => true
  | .call { callee := .builtin .append, .. } => true
  | _ => false

/-- What each lemma gives. -/
def Good (C : Nat → IC → Code → Prop) (base : Nat) (P : Program) (ρ : Operand → Value) (op : Op) (ι : Inj) (h : Heap) (w : World) (v : Value) (h' : Heap) : Prop :=
  ∃ v' w' ι', Does P ρ op w w' v' ∧ Sim C base ι' h' w' ∧ Ext ι h w ι' h' w' ∧ (loudOp op = false → w' = w ∧ ι' = ι) ∧ Rep ι' v v'

def OpdRep (ι : Inj) (e : Env) (ρ : Operand → Value) : Prop := (∀ x a, copd x = some a → Rep ι (ev e a) (ρ x)) ∧ ∀ v, ρ (.const v) = v

theorem good_pure (hs : Sim C base ι h w) {op : Op} {v v' : Value} (hr : ∀ o : Oper, o.op = op → (execOp ρ o).run P w = .ok (.value v') w) (hv : Rep ι v v') : Good C base P ρ op ι h w v h :=
  ⟨v', w, ι, fun o ho => .inl (hr o ho), hs, .refl _ _ _, fun _ => ⟨rfl, rfl⟩, hv⟩

theorem run_v {x : Sem Value} {v : Value} {w w' : World} (h : x.run P w = .ok v w') : (do let a ← x; pure (Next.value a) : Sem Next).run P w = .ok (.value v) w' := by simp [h]
theorem run_u {x : Sem Unit} {w w' : World} (h : x.run P w = .ok () w') : (do x; pure Next.skip : Sem Next).run P w = .ok .skip w' := by simp [h]

theorem underlying_info {t : TypeId} {d : TypeDesc} (h : P.underlying t = some d) : ∃ i, P.info? t = some i := by
  unfold Program.underlying at h
  split at h <;> simp_all

theorem run_sizeOf' {t : TypeId} {n : Nat} (h : tsize P t = some n) (w : World) : (sizeOf t).run P w = .ok n w := by
  unfold tsize at h
  cases hi : P.info? t with
  | none => simp [hi] at h
  | some i => simp [hi] at h; simp [sizeOf, typeInfo, hi, h]

theorem constC_rep {v : Value} (h : constC v = true) : flat v = true ∧ Rep ι v v := by
  unfold constC at h
  split at h
  case h_1 => exact ⟨rfl, .bool _⟩
  case h_2 => exact ⟨rfl, .int _ _⟩
  case h_3 => exact ⟨rfl, .string _⟩
  case h_4 => exact ⟨rfl, .pnil⟩
  case h_5 => exact ⟨rfl, .mnil⟩
  case h_6 => exact ⟨rfl, .nilFunc⟩
  case h_7 => exact ⟨rfl, .nilIface⟩
  case h_8 => exact ⟨rfl, .snil⟩
  case h_9 f a b =>
    simp at h
    obtain ⟨rfl, rfl⟩ := h
    exact ⟨rfl, .func rfl (fun k v v' h => by simp at h) rfl (fun k v v' h => by simp at h)⟩
  case h_10 => cases h

theorem constL_rep {l : List Value} (h : l.all constC = true) : RepC ι l l :=
  ⟨rfl, fun k v v' h1 h2 => by
    rw [h1] at h2; cases h2
    exact constC_rep (List.all_eq_true.1 h v (List.mem_of_getElem? h1))⟩

theorem constOk_rep {v : Value} (h : constOk v = true) : Rep ι v v := by
  unfold constOk at h
  split at h
  · exact rep_agg.2 (constL_rep h)
  · exact (constC_rep h).2

theorem zcells_spec {t : TypeId} {z : List Value} (h : zcells P t = some z) : ∃ i v, P.info? t = some i ∧ i.zero = some v ∧ v.cells.toList = z ∧ z.length = i.size ∧ RepC ι z z ∧ cellsOf v = some z ∧ ∀ w, (zeroValue t).run P w = .ok v w := by
  unfold zcells at h
  split at h
  case h_2 => cases h
  rename_i i hi
  split at h
  case h_2 => cases h
  rename_i v hv
  split at h
  case isFalse => cases h
  rename_i hc
  simp at hc
  cases h
  have hall : RepC ι v.cells.toList v.cells.toList ∧ cellsOf v = some v.cells.toList := by
    have := hc.1
    unfold constOk at this
    split at this
    · exact ⟨constL_rep this, rfl⟩
    · rename_i hn
      have hf := (constC_rep (ι := ι) this)
      have hv' : v.cells = #[v] := by cases v <;> first | rfl | (simp [flat] at hf)
      have hv'' : cellsOf v = some [v] := by cases v <;> first | rfl | (simp [flat] at hf)
      rw [hv']
      exact ⟨RepC.cons hf.1 hf.2 (RepC.nil _), hv''⟩
  exact ⟨i, v, hi, hv, rfl, by simpa using hc.2, hall.1, hall.2, fun w => by simp [zeroValue, typeInfo, hi, hv]⟩

theorem tshape_spec {t : TypeId} {n : Option Nat} (h : tshape P t = some n) :
    (∃ k, n = some k ∧ tsize P t = some k ∧ ∀ w, (isAgg t).run P w = .ok true w) ∨ (n = none ∧ ∀ w, (isAgg t).run P w = .ok false w) := by
  unfold tshape at h
  split at h
  · rename_i fs i hu hi; cases h; exact .inl ⟨_, rfl, by simp [tsize, hi], fun w => by simp [isAgg, run_underlying hu]⟩
  · rename_i a b i hu hi; cases h; exact .inl ⟨_, rfl, by simp [tsize, hi], fun w => by simp [isAgg, run_underlying hu]⟩
  · rename_i d i h1 h2 hu hi
    cases h
    refine .inr ⟨rfl, fun w => ?_⟩
    simp only [isAgg, Sem.run_bind, run_underlying hu, Result.andThen_ok]
    cases d <;> first | rfl | (exfalso; simp_all)
  · cases h

theorem copds_rep (hρ : OpdRep ι e ρ) : ∀ {xs : List Operand} {as : List Opd}, copds xs = some as → RepL ι (as.map (ev e)) (xs.map ρ)
  | [], as, h => by simp [copds] at h; subst h; exact RepL.nil _
  | x :: xs, as, h => by
    simp only [copds] at h
    split at h
    · rename_i a as' h1 h2
      cases h
      exact RepL.cons (hρ.1 _ _ h1) (copds_rep hρ h2)
    · cases h

/-! Values. -/

theorem partL_rep {cs : List Value} {cs' : Array Value} (hr : RepC ι cs cs'.toList) {off : Nat} {t : TypeId} {n : Option Nat} (ht : tshape P t = some n) {v : Value} (hv : partL cs off n = some v) (w : World) :
    ∃ v', (part t cs' off).run P w = .ok v' w ∧ Rep ι v v' := by
  rcases tshape_spec ht with ⟨k, rfl, hk, ha⟩ | ⟨rfl, ha⟩
  · simp only [partL] at hv
    split at hv
    · cases hv
      refine ⟨.agg (cs'.extract off (off + k)), by simp [part, ha, run_sizeOf' hk], ?_⟩
      rw [rep_agg]
      simp only [List.toList_toArray, Array.toList_extract, List.extract_eq_take_drop, Nat.add_sub_cancel_left]
      exact (hr.drop off).take k
    · cases hv
  · simp only [partL] at hv
    obtain ⟨v', h1, _, h2⟩ := hr.get hv
    rw [Array.getElem?_toList] at h1
    exact ⟨v', by simp [part, ha, h1], h2⟩

theorem rep_int {k : IntKind} {n : Int} {v' : Value} (h : Rep ι (.int k n) v') : v' = .int k n := by cases h; rfl
theorem rep_bool {b : Bool} {v' : Value} (h : Rep ι (.bool b) v') : v' = .bool b := by cases h; rfl
theorem rep_string {s : ByteArray} {v' : Value} (h : Rep ι (.string s) v') : v' = .string s := by cases h; rfl
theorem rep_ptr {b o : Nat} {v' : Value} (h : Rep ι (.pointer (some ⟨b, o, none⟩)) v') : ∃ i, ι b = some i ∧ v' = .pointer (some ⟨i.blk, o + i.sh, none⟩) := by
  cases h with
  | ptr hi => exact ⟨_, hi, rfl⟩
theorem rep_slice {b o l c : Nat} {v' : Value} (h : Rep ι (.slice (some ⟨b, o, none⟩) l c) v') : ∃ a' c' i, v' = .slice (some a') l c' ∧ ι b = some i ∧ l ≤ c' ∧ (c = l → c' = l) ∧ (c' ≠ 0 → a' = ⟨i.blk, o + i.sh, none⟩) ∧
    (0 < i.esz → c' ≠ 0 → o + i.sh + c' * i.esz ≤ i.top) := by
  cases h with
  | slice h1 h2 h3 h4 h5 => exact ⟨_, _, _, rfl, h1, h2, h3, h4, h5⟩
theorem rep_nilIface {v' : Value} (h : Rep ι .nilIface v') : v' = .nilIface := by cases h; rfl
theorem rep_nilmap {v' : Value} (h : Rep ι (.map none) v') : v' = .map none := by cases h; rfl
theorem rep_nilsl {l c : Nat} {v' : Value} (h : Rep ι (.slice none l c) v') : v' = .slice none 0 0 ∧ l = 0 ∧ c = 0 := by cases h; exact ⟨rfl, rfl, rfl⟩
theorem rep_iface {t : TypeId} {v v' : Value} (h : Rep ι (.iface t v) v') : ∃ x, v' = .iface t x ∧ Rep ι v x := by
  cases h with
  | iface hx => exact ⟨_, rfl, hx⟩
theorem rep_map {b : Nat} {v' : Value} (h : Rep ι (.map (some b)) v') : ∃ i, ι b = some i ∧ v' = .map (some i.blk) := by
  cases h with
  | map hi => exact ⟨_, hi, rfl⟩
theorem rep_aggL {cs : Array Value} {v' : Value} (h : Rep ι (.agg cs) v') : ∃ cs', v' = .agg cs' ∧ RepC ι cs.toList cs'.toList := by
  cases h with
  | agg h1 h2 h3 => exact ⟨_, rfl, rep_agg.1 (.agg h1 h2 h3)⟩
theorem rep_tupL {cs : Array Value} {v' : Value} (h : Rep ι (.tuple cs) v') : ∃ cs', v' = .tuple cs' ∧ RepL ι cs.toList cs'.toList := by
  cases h with
  | tuple h1 h2 => exact ⟨_, rfl, by simpa using h1, fun k v v' h3 h4 => h2 k v v' (by simpa using h3) (by simpa using h4)⟩

/-! ### mov, pick -/
theorem good_mov (hs : Sim C base ι h w) (hρ : OpdRep ι e ρ) {x : Operand} {a : Opd} (ha : copd x = some a) : Good C base P ρ (.move x) ι h w (ev e a) h :=
  good_pure hs (fun o ho => by simp [execOp, ho]) (hρ.1 _ _ ha)
theorem good_assign (hs : Sim C base ι h w) (hρ : OpdRep ι e ρ) {x : Operand} {a : Opd} (ha : copd x = some a) : Good C base P ρ (.assign x) ι h w (ev e a) h :=
  good_pure hs (fun o ho => by simp [execOp, ho]) (hρ.1 _ _ ha)

theorem good_pick (hs : Sim C base ι h w) (hρ : OpdRep ι e ρ) {x y z : Operand} {a b c : Opd} (ha : copd x = some a) (hb : copd y = some b) (hc : copd z = some c) {t : Bool}
    (ht : ev e a = .bool t) : Good C base P ρ (.pick x y z) ι h w (if t then ev e b else ev e c) h := by
  have h1 := rep_bool (ht ▸ hρ.1 _ _ ha)
  refine good_pure hs (v' := if t then ρ y else ρ z) (fun o ho => by simp [execOp, ho, h1, asBool]) ?_
  cases t
  · exact hρ.1 _ _ hc
  · exact hρ.1 _ _ hb

/-! ### new cells -/
theorem good_new (hs : Sim C base ι h w) (hb : base ≤ w.heap.size) {op : Op} {cs cs' : List Value} {t : TypeId} {esz : Nat} (hloud : loudOp op = true)
    (hr : RepC ι cs cs') {v : Value} {vf : Nat → Value}
    (hrun : ∀ o : Oper, o.op = op → (execOp ρ o).run P w = .ok (.value (vf w.heap.size)) { w with heap := w.heap.push (.cells cs'.toArray t) })
    (hv : ∀ ι', ι'  h.next = some ⟨w.heap.size, 0, cs'.length, esz⟩ → Rep ι' v (vf w.heap.size)) :
    Good C base P ρ op ι h w v (h.new (.cells cs true esz)) := by
  obtain ⟨h1, h2⟩ := hs.new (.cells cs true esz) (.cells cs'.toArray t) ⟨w.heap.size, 0, cs'.length, esz⟩ rfl
    (fun ι' hl hi => ⟨by simp, by simp [hr.1], by
      have := (hr.mono hl)
      simp only [List.toList_toArray, List.drop_zero]
      rw [List.take_of_length_le (by rw [this.1]; exact Nat.le_refl _)]
      exact this, rfl, fun _ => ⟨rfl, hb⟩, fun hq => by cases hq⟩) (w' := { w with heap := w.heap.push (.cells cs'.toArray t) }) rfl rfl rfl rfl
  exact ⟨vf w.heap.size, _, _, fun o ho => .inl (hrun o ho), h1, h2, (fun h => by rw [hloud] at h; cases h), hv _ (ext1_same _ _ _)⟩

theorem rep_newptr {ι : Inj} {n : Nat} {i : BI} (h : ι n = some i) (hz : i.sh = 0) : Rep ι (ptr n 0) (.pointer (some ⟨i.blk, 0, none⟩)) := by
  have := Rep.ptr (ι := ι) (b := n) (o := 0) h
  simpa [hz, ptr] using this

theorem good_alloc (hs : Sim C base ι h w) (hb : base ≤ w.heap.size) {t : TypeId} {z : List Value} (hz : zcells P t = some z) :
    Good C base P ρ (.alloc t) ι h w (ptr h.next 0) (h.new (.cells z true 0)) := by
  obtain ⟨i, v, hi, hv, rfl, hl, hr, hc, hzero⟩ := zcells_spec (ι := ι) hz
  refine good_new hs hb (vf := fun n => .pointer (some ⟨n, 0, none⟩)) (t := t) rfl hr (fun o ho => ?_) fun ι' hι => rep_newptr hι rfl
  simp [execOp, ho, Instr.alloc, hzero, newVar, newRow]

theorem good_box (hs : Sim C base ι h w) (hb : base ≤ w.heap.size) (hρ : OpdRep ι e ρ) {t : TypeId} {x : Operand} {a : Opd} (ha : copd x = some a) {cs : List Value} (hc : cellsOf (ev e a) = some cs) :
    Good C base P ρ (.box t x) ι h w (ptr h.next 0) (h.new (.cells cs true 0)) := by
  have hr := rep_cellsOf (hρ.1 _ _ ha) hc
  refine good_new hs hb (vf := fun n => .pointer (some ⟨n, 0, none⟩)) (t := t) rfl hr (fun o ho => ?_) fun ι' hι => rep_newptr hι rfl
  simp [execOp, ho, Instr.box, newVar, newRow]

/-- The parts of a composite value. -/
theorem cparts_fill (hρ : OpdRep ι e ρ) {place : Nat → Option (Nat × Nat)} : ∀ {ps : List (Nat × Operand)} {qs : List (Nat × Nat × Opd)}, cparts place ps = some qs →
    ∀ {cs cs' : List Value} {out : List Value}, RepC ι cs cs' → fillL cs (evps e qs) = some out →
    ∃ out', Instr.fill place cs'.toArray (ps.map fun p => (p.1, ρ p.2)) = some out'.toArray ∧ RepC ι out out'
  | [], qs, hc, cs, cs', out, hr, hf => by
    simp [cparts] at hc; subst hc
    simp [evps, fillL] at hf; subst hf
    exact ⟨cs', rfl, hr⟩
  | (i, x) :: ps, qs, hc, cs, cs', out, hr, hf => by
    simp only [cparts] at hc
    split at hc
    case h_2 => cases hc
    rename_i o s a as h1 h2 h3
    cases hc
    simp only [evps, List.map_cons, fillL] at hf
    split at hf
    case h_2 => cases hf
    rename_i vs hvs
    split at hf
    case isFalse => cases hf
    rename_i hle
    have hrv := rep_cellsOf (hρ.1 _ _ h2) hvs
    have hlen : (ρ x).cells.size = s := by have := hrv.1; simp at this; omega
    have hput : ((ρ x).cells.zipIdx.foldl (fun cs (c, j) => cs.setIfInBounds (o + j) c) cs'.toArray) = (put cs' o (ρ x).cells.toList).toArray := by
      have gen : ∀ (l : List Value) (k : Nat) (acc : List Value), (l.zipIdx k).foldl (fun (cs : Array Value) (c, j) => cs.setIfInBounds (o + j) c) acc.toArray = (put acc (o + k) l).toArray := by
        intro l
        induction l with
        | nil => intro k acc; simp [put]
        | cons v l ih => intro k acc; simp only [List.zipIdx_cons, List.foldl_cons, put]; rw [show (acc.toArray.setIfInBounds (o + k) v) = (acc.set (o + k) v).toArray by simp, ih (k + 1)]; rfl
      have := gen (ρ x).cells.toList 0 cs'
      rw [← Array.foldl_toList, Array.toList_zipIdx]; simpa using this
    obtain ⟨out', h4, h5⟩ := cparts_fill hρ h3 (RepC.put (o := o) hrv hr) hf
    refine ⟨out', ?_, h5⟩
    simp only [List.map_cons, Instr.fill, h1]
    rw [if_neg (by
      have := hr.1
      simp [hlen]; omega), hput]
    exact h4

theorem places_get {fs : List Field} {pl : List (Nat × Nat)} (h : places P fs = some pl) : ∀ w, (fs.mapM fun (f : Field) => (Prod.mk f.offset <$> sizeOf f.type : Sem (Nat × Nat))).run P w = .ok pl w := by
  induction fs generalizing pl with
  | nil => intro w; simp [places] at h; subst h; rfl
  | cons f fs ih =>
    intro w
    simp only [places] at h
    split at h
    · rename_i s r h1 h2
      cases h
      simp [List.mapM_cons, run_sizeOf' h1, ih h2]
    · cases h

theorem good_build (hs : Sim C base ι h w) (hρ : OpdRep ι e ρ) {t : TypeId} {ps : Array (Nat × Operand)} {z : List Value} {qs : List (Nat × Nat × Opd)}
    (hc : cop P (.build t ps) = some (.build z qs)) {cs : List Value} (hf : fillL z (evps e qs) = some cs) : Good C base P ρ (.build t ps) ι h w (.agg cs.toArray) h := by
  simp only [cop] at hc
  split at hc
  · rename_i fs z' hu hz
    split at hc
    case h_2 => cases hc
    rename_i pl hpl
    cases hq : cparts (pl[·]?) ps.toList with
    | none => simp [hq] at hc
    | some qs' =>
      simp [hq] at hc
      obtain ⟨rfl, rfl⟩ := hc
      obtain ⟨i, v, hi, hv, rfl, hl, hr, hcv, hzero⟩ := zcells_spec (ι := ι) hz
      obtain ⟨out', h1, h2⟩ := cparts_fill hρ hq hr hf
      refine good_pure hs (v' := .agg out'.toArray) (fun o ho => ?_) (rep_agg.2 (by simpa using h2))
      have h3 : (Array.mapM (fun (f : Field) => (Prod.mk f.offset <$> sizeOf f.type : Sem (Nat × Nat))) fs).run P w = .ok pl.toArray w := by
        rw [Array.mapM_eq_mapM_toList, Sem.run_map, places_get hpl w]; rfl
      simp only [Array.toArray_toList] at h1
      simp [execOp, ho, Instr.build, hzero, run_underlying hu, h3]
      rw [h1]
      rfl
  · rename_i n el z' hu hz
    split at hc
    case h_2 => cases hc
    rename_i s hsz
    cases hq : cparts (fun i => some (i * s, s)) ps.toList with
    | none => simp [hq] at hc
    | some qs' =>
      simp [hq] at hc
      obtain ⟨rfl, rfl⟩ := hc
      obtain ⟨i, v, hi, hv, rfl, hl, hr, hcv, hzero⟩ := zcells_spec (ι := ι) hz
      obtain ⟨out', h1, h2⟩ := cparts_fill hρ hq hr hf
      refine good_pure hs (v' := .agg out'.toArray) (fun o ho => ?_) (rep_agg.2 (by simpa using h2))
      simp only [Array.toArray_toList] at h1
      simp [execOp, ho, Instr.build, hzero, run_underlying hu, run_sizeOf' hsz]
      rw [h1]
      rfl
  · cases hc

end Go.Idl
