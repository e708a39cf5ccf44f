/- Pure functions as primitives: what the computable reading gives from nothing. -/
import Derived.Test.YtfdpknfndjllgaaI11
import Derived.Test.YtfdpknfndjllgaaI10
namespace Go.Idl
set_option linter.unusedVariables false
set_option linter.unusedSimpArgs false

/-- Scalars, and rows of scalars. -/
def scal : Value → Bool
  | .bool _ => true
  | .int _ _ => true
  | .string _ => true
  | .nilIface => true
  | _ => false
def pure1 : Value → Bool
  | .agg cs => cs.toList.all scal
  | .tuple cs => cs.toList.all scal
  | v => scal v

theorem scal_eq {ι : Inj} {v v' : Value} (h : Rep ι v v') (hs : scal v = true) : v' = v := by
  cases h <;> first | rfl | cases hs
theorem scal_rep (ι : Inj) {v : Value} (hs : scal v = true) : Rep ι v v ∧ flat v = true := by
  cases v <;> first | exact ⟨.bool _, rfl⟩ | exact ⟨.int _ _, rfl⟩ | exact ⟨.string _, rfl⟩ | exact ⟨.nilIface, rfl⟩ | cases hs

theorem arr_scal {x x' : Array Value} (hl : x.size = x'.size) (h : ∀ (k : Nat) v v', x[k]? = some v → x'[k]? = some v' → v' = v) : x' = x := by
  apply Array.ext
  · exact hl.symm
  · intro i h1 h2
    exact h i _ _ (Array.getElem?_eq_getElem h2) (Array.getElem?_eq_getElem h1)

theorem all_at {x : Array Value} (h : x.toList.all scal = true) {k : Nat} {v : Value} (hv : x[k]? = some v) : scal v = true :=
  List.all_eq_true.1 h v (by rw [← Array.getElem?_toList] at hv; exact List.mem_of_getElem? hv)

theorem pure1_eq {ι : Inj} {v v' : Value} (h : Rep ι v v') (hs : pure1 v = true) : v' = v := by
  cases h with
  | agg h1 h2 h3 => rw [arr_scal h1 fun k u u' e1 e2 => scal_eq (h3 k u u' e1 e2) (all_at hs e1)]
  | tuple h1 h3 => rw [arr_scal h1 fun k u u' e1 e2 => scal_eq (h3 k u u' e1 e2) (all_at hs e1)]
  | _ => first | rfl | cases hs
theorem pure1_rep (ι : Inj) {v : Value} (hs : pure1 v = true) : Rep ι v v := by
  cases v with
  | agg cs => exact .agg rfl (fun k u hu => (scal_rep ι (all_at hs hu)).2) (fun k u u' e1 e2 => by rw [e1] at e2; cases e2; exact (scal_rep ι (all_at hs e1)).1)
  | tuple cs => exact .tuple rfl (fun k u u' e1 e2 => by rw [e1] at e2; cases e2; exact (scal_rep ι (all_at hs e1)).1)
  | bool b => exact .bool b
  | int k n => exact .int k n
  | string s => exact .string s
  | nilIface => exact .nilIface
  | _ => cases hs

theorem args_eq {ι : Inj} {args rargs : List Value} (h : RepL ι args rargs) (hs : args.all pure1 = true) : rargs = args := by
  apply List.ext_getElem?
  intro k
  by_cases hk : k < args.length
  · have e1 := List.getElem?_eq_getElem hk
    have e2 := List.getElem?_eq_getElem (show k < rargs.length by rw [← h.1]; exact hk)
    have := pure1_eq (h.2 k _ _ e1 e2) (List.all_eq_true.1 hs _ (List.getElem_mem hk))
    rw [e1, e2, this]
  · rw [List.getElem?_eq_none (by rw [← h.1]; omega), List.getElem?_eq_none (by omega)]
theorem args_rep (ι : Inj) : ∀ {args : List Value}, args.all pure1 = true → RepL ι args args
  | [], _ => .nil ι
  | a :: l, h => by
    simp only [List.all_cons, Bool.and_eq_true] at h
    exact RepL.cons (pure1_rep ι h.1) (args_rep ι h.2)

/-- What a primitive must be. -/
def PrimOk (P : Program) (f : FuncId) (p : List Value → Option Value) : Prop := CalleeOk P f ∧ ∀ args v, p args = some v → (∀ ι rargs, RepL ι args rargs → rargs = args) ∧ (∀ ι, Rep ι v v) ∧
    ∀ w, Calls P f args.toArray w (fun e w' => e = .returned v ∧ Grew w w' ∧ w'.os = w.os ∧ w'.tape = w.tape ∧ w'.output = w.output)

/-- A function that comes from nothing, at pure arguments, to a pure value. -/
theorem calls_pure {P : Program} {T : Tbl} (hT : TblOk P T) {f : FuncId} {args : List Value} {v : Value} {h' : Heap} {n : Nat} (hi : icall T n (.fn f) args ⟨fun _ => none, 0⟩ = some (.ret v, h')) (ha : args.all pure1 = true) (hv : pure1 v = true) (W : World) :
    Calls P f args.toArray W fun e W' => e = .returned v ∧ Grew W W' ∧ W'.os = W.os ∧ W'.tape = W.tape ∧ W'.output = W.output := by
  have hk : Ok P W.heap.size W (fun _ => none) ⟨fun _ => none, 0⟩ W :=
    ⟨sim_empty (CRel P) _ (fun _ => none) 0 (fun b i h => (by cases h)) W, Nat.le_refl _, fun _ _ => rfl⟩
  refine (calls_old hT hi hk (args_rep _ ha)).mono fun e W' hp => ?_
  obtain ⟨⟨v', rfl, ι', hr⟩, h1, h2, h3, h4, h5⟩ := hp
  exact ⟨by rw [pure1_eq hr hv], ⟨h1, h2⟩, h3, h4, h5⟩

theorem primOk_pure {P : Program} {T : Tbl} (hT : TblOk P T) {f : FuncId} (hok : CalleeOk P f) {p : List Value → Option Value}
    (h : ∀ args v, p args = some v → args.all pure1 = true ∧ pure1 v = true ∧ ∃ n h', icall T n (.fn f) args ⟨fun _ => none, 0⟩ = some (.ret v, h')) : PrimOk P f p := by
  refine ⟨hok, fun args v hv => ?_⟩
  obtain ⟨h1, h2, n, h', hi⟩ := h args v hv
  exact ⟨fun ι rargs hr => args_eq hr h1, fun ι => pure1_rep ι h2, fun w => calls_pure hT hi h1 h2 w⟩

/-- What the computable reading gives, as a primitive. -/
def cprim (T : Tbl) (n : Nat) (f : FuncId) (args : List Value) : Option Value :=
  if args.all pure1 then match ccall T n (.fn f) args ⟨fun _ => none, 0⟩ with
    | some (.ret v, _) => if pure1 v then some v else none
    | _ => none
  else none

theorem primOk_cprim {P : Program} {T : Tbl} (hT : TblOk P T) {f : FuncId} (n : Nat) (hok : CalleeOk P f) : PrimOk P f (cprim T n f) := by
  refine primOk_pure hT hok fun args v h => ?_
  unfold cprim at h
  split at h
  case isFalse => cases h
  rename_i ha
  split at h
  case h_2 => cases h
  rename_i u h' hc
  split at h
  case isFalse => cases h
  rename_i hp
  cases h
  exact ⟨ha, hp, n, h', ccall_ideal T n _ _ _ _ hc⟩

theorem calleeOk_mk {P : Program} {f : FuncId} {F : Func} (h : P.funcs[f]? = some F) (hb : F.body.isSome = true) (hn : (F.name == "runtime.NumGoroutine") = false) : CalleeOk P f := ⟨F, h, hb, hn⟩

def veq2 : Value → Value → Bool
  | .agg a, .agg b => leq a.toList b.toList
  | .tuple a, .tuple b => leq a.toList b.toList
  | a, b => veq a b
theorem veq2_eq {a b : Value} (h : veq2 a b = true) : a = b := by
  unfold veq2 at h
  split at h
  · rw [← Array.toList_inj.1 (leq_eq h)]
  · rw [← Array.toList_inj.1 (leq_eq h)]
  · exact veq_eq h
def optEq : Option Value → Option Value → Bool
  | some a, some b => veq2 a b
  | _, _ => false
theorem optEq_eq {a b : Option Value} (h : optEq a b = true) : ∃ v, a = some v ∧ b = some v := by
  unfold optEq at h
  split at h
  · rename_i a b; exact ⟨b, by rw [veq2_eq h], rfl⟩
  · cases h

/-- A table with one more primitive. -/
def setPrim (T : Tbl) (f : FuncId) (p : List Value → Option Value) : Tbl := { fn := fun g => if g = f then none else T.fn g, prim := fun g => if g = f then some p else T.prim g }

theorem setPrim_ok {P : Program} {T : Tbl} (hT : TblOk P T) {f : FuncId} {p : List Value → Option Value} (hp : PrimOk P f p) : TblOk P (setPrim T f p) := by
  refine ⟨fun g fn h => ?_, fun g q h => ?_⟩
  · simp only [setPrim] at h
    split at h
    · cases h
    · exact hT.fn g fn h
  · simp only [setPrim] at h
    split at h
    · rename_i hg
      subst hg
      cases h
      exact hp
    · exact hT.prim g q h

end Go.Idl
