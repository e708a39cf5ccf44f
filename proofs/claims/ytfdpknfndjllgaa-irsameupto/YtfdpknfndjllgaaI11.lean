/- What the row asks of a call that leaves all old blocks as they were. -/
import Derived.Test.YtfdpknfndjllgaaI8
import Derived.ReadAgain
import Derived.ChangeSame
namespace Go.Idl
set_option linter.unusedVariables false
set_option linter.unusedSimpArgs false

theorem sameAt_old {W W' : World} (hb : ∀ k, k < W.heap.size → W'.heap[k]? = W.heap[k]?) {p : MemPlace} (hp : p.block < W.heap.size) : World.sameAt W W' p := by
  cases p with
  | cell b off =>
    simp only [World.sameAt, World.cell?]
    rw [hb b hp]
  | map b => exact hb b hp

theorem trodAll_carry {H : Type} {enc : TypeId × Value → H} {P : Program} {W W' : World} {base : Nat} {spare : Nat → Bool} {held : Bool} : ∀ {ts : List TypeId} {vs : List Value} {ds : List (DataW H)} {ps : List MemPlace},
    DataW.TrodAll enc P W base spare held ts vs ds ps → (∀ p ∈ ps, W.sameAt W' p) → DataW.TrodAll enc P W' base spare held ts vs ds ps
  | [], [], [], _, h, _ => h
  | _ :: _, _ :: _, _ :: _, _, ⟨p, q, ⟨n, h1⟩, h2, e⟩, hs =>
    ⟨p, q, ⟨n, DataW.trod_carry n _ _ _ h1 fun x hx => hs x (by rw [e]; exact List.mem_append_left _ hx)⟩, trodAll_carry h2 (fun x hx => hs x (by rw [e]; exact List.mem_append_right _ hx)), e⟩

theorem post_old {H : Type} {enc : TypeId × Value → H} {P : Program} {f : Func} {s : ChangeSpec} {W W' : World} {args : Array Value} {ds gs : List (DataW H)} {before : List MemPlace} {tb : TypeId}
    (hW : DataW.Whole enc P f.params.toList s.vars false W args.toList ds gs before) (hvars : s.vars = []) (hrt : f.resultTypes = #[tb]) (htb : P.underlying tb = some .bool)
    (hfn : s.fn H ds = { results := [.lit (.bool true)], args := ds }) {T : TypeId → Prop} (K : Kids P T) (hz : ∀ t e, T t → P.underlying t = some (.slice e) → 0 < P.cellsOf e) (hT : ∀ t ∈ f.params.toList, T t)
    (hsz : W.heap.size ≤ W'.heap.size) (hb : ∀ k, k < W.heap.size → W'.heap[k]? = W.heap[k]?) (hos : W'.os = W.os) (hout : W'.output = W.output) :
    s.post enc P f false true false false W args (.bool true) W' := by
  have hlt : ∀ p ∈ before, p.block < W.heap.size := fun p hp => hW.lt p hp
  have hW' := hW
  obtain ⟨p, q, hA, hV, rfl, hfz, hnd⟩ := hW
  rw [hvars] at hV
  cases gs with
  | cons g gs => exact hV.elim
  | nil =>
  have hq : q = [] := hV
  subst hq
  have hsp : ∀ x ∈ p, (fun b => decide (b < W.heap.size)) x.block = true := fun x hx => by simpa using hlt x (by simp [hx])
  have hA2 := trodAll_carry (W' := W') hA (fun x hx => sameAt_old hb (hlt x (by simp [hx])))
  refine ⟨ds, [], p ++ [], [], p, [], hW', ?_, ?_, ?_, ?_, fun h => by cases h⟩
  · rw [List.append_nil, hfn, hrt]
    refine ⟨[], [], ⟨1, ?_⟩, rfl, rfl⟩
    simp [DataW.trod, htb, Value.cells]
  · rw [List.append_nil, hfn]
    exact hA2.respare K hz hT hsp
  · rw [List.append_nil, hfn, hvars]
    exact rfl
  · refine ⟨hos, hout, fun i hi => ?_⟩
    rw [hb i hi]
    split
    · rename_i h1 h2
      rw [h1] at h2; cases h2
      exact ⟨rfl, rfl, rfl, fun _ _ => rfl⟩
    · rename_i h1 h2
      rw [h1] at h2; cases h2
      exact .inr ⟨rfl, rfl⟩
    · rfl

/-- What an ideal call without panic gives the row. -/
theorem calls_old {P : Program} {T : Tbl} (hT : TblOk P T) {f : FuncId} {args : List Value} {h h' : Heap} {v : Value} {n : Nat} (hi : icall T n (.fn f) args h = some (.ret v, h')) {W : World} {ι : Inj} (hk : Ok P W.heap.size W ι h W) {rargs : List Value} (ha : RepL ι args rargs) :
    Calls P f rargs.toArray W fun e W' => (∃ v', e = .returned v' ∧ ∃ ι', Rep ι' v v') ∧ W.heap.size ≤ W'.heap.size ∧ (∀ k, k < W.heap.size → W'.heap[k]? = W.heap[k]?) ∧ W'.os = W.os ∧ W'.tape = W.tape ∧ W'.output = W.output := by
  obtain ⟨_, hc⟩ := (icall_sound (base := W.heap.size) (w0 := W) hT n).fn f args h _ h' hi
  refine (hc ι W rargs hk ha).mono fun e W' hp => ?_
  obtain ⟨ι', k1, k2, k3⟩ := hp
  cases e with
  | returned v' => exact ⟨⟨v', rfl, ι', k3⟩, k2.keeps.size, k1.old, k2.keeps.os, k2.keeps.tape, k2.keeps.output⟩
  | panicked c => exact k3.elim
  | outgrown => exact k3.elim

/-- A function of no arguments, done from nothing. -/
theorem calls_closed {P : Program} {T : Tbl} (hT : TblOk P T) {f : FuncId} {b : Bool} {h' : Heap} {n : Nat} (hi : icall T n (.fn f) [] ⟨fun _ => none, 0⟩ = some (.ret (.bool b), h')) (W : World) :
    Calls P f #[] W fun e W' => e = .returned (.bool b) ∧ Grew W W' ∧ W'.os = W.os ∧ W'.tape = W.tape ∧ W'.output = W.output := by
  have hk : Ok P W.heap.size W (fun _ => none) ⟨fun _ => none, 0⟩ W :=
    ⟨sim_empty (CRel P) _ (fun _ => none) 0 (fun b i h => (by cases h)) W, Nat.le_refl _, fun _ _ => rfl⟩
  refine (calls_old hT hi hk (.nil _)).mono fun e W' hp => ?_
  obtain ⟨⟨v', rfl, ι', hr⟩, h1, h2, h3, h4, h5⟩ := hp
  exact ⟨by rw [rep_ofbool hr], ⟨h1, h2⟩, h3, h4, h5⟩

theorem calleeOk_of {P : Program} {T : Tbl} (hT : TblOk P T) {f : FuncId} {args : List Value} {h h' : Heap} {out : Out} {n : Nat} (hi : icall T n (.fn f) args h = some (out, h')) : CalleeOk P f :=
  ((icall_sound (base := 0) (w0 := default) hT n).fn f args h _ h' hi).1

end Go.Idl
