/- IrUses: for every instruction the law's call answers true and leaves its argument as it was. -/
import Derived.Test.YtfdpknfndjllgaaRows
import Derived.WalkKit
import Derived.ProofKit
import Derived.OpenShut
import Derived.JoinedCond
import Derived.Test.YtfdpknfndjllgaaK4
import Derived.Test.YtfdpknfndjllgaaK5
import Derived.Test.YtfdpknfndjllgaaI12
namespace Go.Proofs.Ytfdpknfndjllgaa.irUses
open Go.ChangeShapes Go.WideShapes Go.ChangeAt Go.RowKit Go.Idl
set_option linter.unusedVariables false
set_option linter.unusedSimpArgs false
set_option maxRecDepth 100000

theorem own : ownKnob Try.prog.godebug = none := by kernel_rfl

theorem kids : Kids Try.prog (· < Try.prog.types.size) := kids_rows (by kernel_rfl) (by kernel_rfl)
theorem full : ∀ t e, t < Try.prog.types.size → Try.prog.underlying t = some (.slice e) → 0 < Try.prog.cellsOf e := slices_full_of Try.prog (by kernel_rfl)
theorem rowed : (34 : Nat) < Try.prog.types.size := of_decide_eq_true (by kernel_rfl)

theorem insTy : Ty Try.prog insTD 34 := by
  simp only [insTD, Ty, TyL]
  refine ⟨_, Try.underlying34, ⟨_, _, rfl, rfl, Try.underlying3, by kernel_rfl, ⟨_, _, rfl, rfl, Try.underlying3, by kernel_rfl, ⟨_, _, rfl, rfl, Try.underlying3, by kernel_rfl, ⟨_, _, rfl, rfl, Try.underlying3, by kernel_rfl, ⟨_, _, rfl, rfl, Try.underlying2, by kernel_rfl, ⟨_, _, rfl, rfl, ⟨3, Try.underlying32, Try.underlying3, by kernel_rfl, by decide⟩, by kernel_rfl, rfl⟩⟩⟩⟩⟩⟩, by kernel_rfl⟩

theorem contract (H : Type) (enc : TypeId × Value → H) (W : World) (base : Nat) (args : Array Value) (ds gs : List (DataW H)) (before : List MemPlace)
    (hval : ∀ (j : Nat) t v, Try.f4.params[j]? = some t → args[j]? = some v → Value.okWide Try.prog W .any base t v)
    (hW : DataW.Whole enc Try.prog Try.f4.params.toList Rows.irUsesSpec.vars false W args.toList ds gs before) :
    Calls Try.prog 4 args W fun e W' => ∃ v, e = .returned v ∧ Rows.irUsesSpec.post enc Try.prog Try.f4 false true false false W args v W' := by
  have hW' := hW
  obtain ⟨p, q, hA, hV, rfl, hfz, hnd⟩ := hW
  have hpar : Try.f4.params.toList = [34] := by rw [Try.params4]
  rw [hpar] at hA
  have hagg : ∀ (j : Nat) t v, [34][j]? = some t → args.toList[j]? = some v → ((∃ fs, Try.prog.underlying t = some (.struct fs)) ↔ ∃ cs, v = .agg cs) := by
    intro j t v ht hv
    cases j with
    | succ j => simp at ht
    | zero =>
      simp at ht
      subst ht
      refine ⟨fun _ => ?_, fun _ => ⟨_, Try.underlying34⟩⟩
      have := hval 0 34 v (by rw [Try.params4]; rfl) (by simpa using hv)
      cases v <;> first | exact ⟨_, rfl⟩ | (exfalso; simp [Value.okWide, Cell.okWide, Cell.ok, Try.underlying34] at this)
  obtain ⟨ι, h, iargs, hok, hro, hla, hrep⟩ := layArgs0 [insTD] ⟨34, [], rfl, insTy, rfl⟩ hA hagg
  simp only [LaysArgs] at hla
  obtain ⟨d, r, v, vr, rfl, rfl, ⟨cs, hl, hcs⟩, rfl, rfl⟩ := hla
  obtain ⟨x, rfl, hx, _⟩ := ins_of_lays hl
  have hvv : v = x.val := hcs
  subst hvv
  obtain ⟨n, out, h', hi, rfl⟩ := law4 hx.ints
  have hc := calls_old T1ok hi hok hrep
  rw [show args.toList.toArray = args by simp] at hc
  refine hc.mono fun e W' ⟨⟨w, he, ι', hr⟩, h1, h2, h3, h4, h5⟩ => ?_
  have hw : w = .bool true := rep_ofbool hr
  subst hw
  exact ⟨_, he, post_old (tb := 4) hW' rfl (by kernel_rfl) Try.underlying4 rfl kids full (fun t ht => by rw [hpar] at ht; simp at ht; subst ht; exact rowed) h1 h2 h3 h5⟩

theorem lifted (os : Os) (started : os.Started) (H : Type) (enc : TypeId × Value → H) :
    ReturnsInHanded {} Try.checked os 4 .any (Rows.irUsesSpec.pre6 enc Try.prog Try.f4 Rows.irUsesRow.domain false) (Rows.irUsesSpec.post enc Try.prog Try.f4 false true false false) := by
  refine returnsInHanded_of_change (C := Try.checked) own started (by kernel_rfl) Try.func4
    (ChangeSpec.witness6 (enc := enc) (C := Try.checked) false ⟨#[], #[.agg #[.int .i64 0, .int .i64 0, .int .i64 0, .int .i64 0, .int .i64 0, .slice none 0 0]], []⟩ 8 (by kernel_rfl) (by kernel_rfl) (by kernel_rfl) (by kernel_rfl)) ?_
  intro W base args ds gs before hval hW _ _
  exact contract H enc W base args ds gs before hval hW

theorem over : Rows.irUsesRow.holds Try.pinned (OpenSpec.ofChange Rows.irUsesSpec) :=
  OpenClaim.holds_of_wide 4 Try.f4 rfl rfl rfl rfl rfl rfl rfl ⟨rfl, rfl, rfl, rfl, rfl⟩ rfl rfl rfl rfl rfl (by kernel_rfl) Try.func4 (by kernel_rfl)
    (of_decide_eq_true (by kernel_rfl)) (by unfold Func.isWrapper; first | (rw [if_pos (by decide +kernel)]; kernel_rfl) | (rw [if_neg (by decide +kernel)]; exact ⟨rfl, rfl⟩))
    (fun os started H enc _ => lifted os started H enc)

theorem proved : Rows.IrUsesSaid :=
  over

end Go.Proofs.Ytfdpknfndjllgaa.irUses
