/- IrSame: for any two codes (bulk at most 1048576, as the narrowed statement says) the law's call answers true and leaves its arguments as they were. -/
import Derived.Test.YtfdpknfndjllgaaRows
import Derived.WalkKit
import Derived.ProofKit
import Derived.OpenShut
import Derived.JoinedCond
import Derived.Test.YtfdpknfndjllgaaM5
import Derived.Test.YtfdpknfndjllgaaI12
namespace Go.Proofs.Ytfdpknfndjllgaa.irSame
open Go.ChangeShapes Go.WideShapes Go.ChangeAt Go.RowKit Go.Idl
set_option linter.unusedVariables false
set_option linter.unusedSimpArgs false
set_option maxRecDepth 100000

theorem own : ownKnob Try.prog.godebug = none := by kernel_rfl

theorem kids : Kids Try.prog (· < Try.prog.types.size) := kids_rows (by kernel_rfl) (by kernel_rfl)
theorem full : ∀ t e, t < Try.prog.types.size → Try.prog.underlying t = some (.slice e) → 0 < Try.prog.cellsOf e := slices_full_of Try.prog (by kernel_rfl)
theorem rowed : (24 : Nat) < Try.prog.types.size := of_decide_eq_true (by kernel_rfl)

theorem insTy : Ty Try.prog insTD 34 := by
  simp only [insTD, Ty, TyL]
  refine ⟨_, Try.underlying34, ⟨_, _, rfl, rfl, Try.underlying3, by kernel_rfl, ⟨_, _, rfl, rfl, Try.underlying3, by kernel_rfl, ⟨_, _, rfl, rfl, Try.underlying3, by kernel_rfl, ⟨_, _, rfl, rfl, Try.underlying3, by kernel_rfl, ⟨_, _, rfl, rfl, Try.underlying2, by kernel_rfl, ⟨_, _, rfl, rfl, ⟨3, Try.underlying32, Try.underlying3, by kernel_rfl, by decide⟩, by kernel_rfl, rfl⟩⟩⟩⟩⟩⟩, by kernel_rfl⟩
theorem fnTy : Ty Try.prog fnTD 41 := by
  have hv : Ty Try.prog (.sl insTD) 39 := by
    rw [Ty]
    exact ⟨34, Try.underlying39, insTy, by kernel_rfl, by decide⟩
  unfold fnTD
  rw [Ty]
  simp only [TyL]
  exact ⟨_, Try.underlying41, ⟨_, _, rfl, rfl, by rw [Ty]; exact Try.underlying9, by kernel_rfl, ⟨_, _, rfl, rfl, by rw [Ty]; exact Try.underlying3, by kernel_rfl, ⟨_, _, rfl, rfl, by rw [Ty]; exact Try.underlying3, by kernel_rfl, ⟨_, _, rfl, rfl, hv, by kernel_rfl, rfl⟩⟩⟩⟩, by kernel_rfl⟩
theorem codTy : Ty Try.prog codTD 24 := by
  have hv : Ty Try.prog (.sl fnTD) 22 := by
    rw [Ty]
    exact ⟨41, Try.underlying22, fnTy, by kernel_rfl, by decide⟩
  unfold codTD
  rw [Ty]
  simp only [TyL]
  exact ⟨_, Try.underlying24, ⟨_, _, rfl, rfl, hv, by kernel_rfl, ⟨_, _, rfl, rfl, by rw [Ty]; exact Try.underlying3, by kernel_rfl, ⟨_, _, rfl, rfl, by rw [Ty]; exact Try.underlying3, by kernel_rfl, rfl⟩⟩⟩, by kernel_rfl⟩

mutual
theorem bulk_sum {H : Type} : ∀ (ds : List (DataW H)), (ds.map Rows.uptoBulk).sum = Rows.uptoBulkAll ds
  | [] => by simp [Rows.uptoBulkAll]
  | d :: ds => by simp [Rows.uptoBulkAll, bulk_sum ds]
end

theorem meas {H : Type} : Meas (Rows.uptoBulk (H := H)) :=
  ⟨fun b => by simp [Rows.uptoBulk], fun x => by cases x <;> simp [Rows.uptoBulk], fun es sp => by rw [bulk_sum]; simp only [Rows.uptoBulk]; omega, fun ds => by rw [bulk_sum]; simp only [Rows.uptoBulk]; omega⟩

theorem contract (H : Type) (enc : TypeId × Value → H) (W : World) (base : Nat) (args : Array Value) (ds gs : List (DataW H)) (before : List MemPlace)
    (hval : ∀ (j : Nat) t v, Try.f6.params[j]? = some t → args[j]? = some v → Value.okWide Try.prog W .any base t v)
    (hW : DataW.Whole enc Try.prog Try.f6.params.toList Rows.irSameSpec.vars false W args.toList ds gs before) (hk : Rows.uptoSmall H (ds ++ gs) = true) :
    Calls Try.prog 6 args W fun e W' => ∃ v, e = .returned v ∧ Rows.irSameSpec.post enc Try.prog Try.f6 false true false false W args v W' := by
  have hW' := hW
  obtain ⟨p, q, hA, hV, rfl, hfz, hnd⟩ := hW
  have hpar : Try.f6.params.toList = [24, 24] := by rw [Try.params6]
  rw [hpar] at hA
  have hagg : ∀ (j : Nat) t v, [24, 24][j]? = some t → args.toList[j]? = some v → ((∃ fs, Try.prog.underlying t = some (.struct fs)) ↔ ∃ cs, v = .agg cs) := by
    intro j t v ht hv
    have hok := hval j t v (by rw [Try.params6]; rw [← Array.getElem?_toList]; exact ht) (by simpa using hv)
    have h24 : t = 24 := by
      rcases j with _ | _ | j
      · simpa using ht.symm
      · simpa using ht.symm
      · simp at ht
    subst h24
    refine ⟨fun _ => ?_, fun _ => ⟨_, Try.underlying24⟩⟩
    cases v <;> first | exact ⟨_, rfl⟩ | (exfalso; simp [Value.okWide, Cell.okWide, Cell.ok, Try.underlying24] at hok)
  obtain ⟨ι, h, iargs, hok, hro, hla, hrep⟩ := layArgs0 [codTD, codTD] ⟨24, [24], rfl, codTy, ⟨24, [], rfl, codTy, rfl⟩⟩ hA hagg
  simp only [LaysArgs] at hla
  obtain ⟨d, r, v, vr, rfl, rfl, ⟨cs, hl, hcs⟩, d2, r2, v2, vr2, rfl, rfl, ⟨cs2, hl2, hcs2⟩, rfl, rfl⟩ := hla
  obtain ⟨x, rfl, hx, hm⟩ := cod_of_lays hl
  obtain ⟨y, rfl, hy, hm2⟩ := cod_of_lays hl2
  have hvv : v = .agg x.cells.toArray := hcs
  subst hvv
  have hvv2 : v2 = .agg y.cells.toArray := hcs2
  subst hvv2
  have hb := hm _ meas
  have hb2 := hm2 _ meas
  have hbk : Rows.uptoBulkAll ([d, d2] ++ gs) ≤ 1048576 := of_decide_eq_true hk
  have hbd : Rows.uptoBulk d + Rows.uptoBulk d2 ≤ 1048576 := by
    simp only [List.cons_append, List.nil_append, Rows.uptoBulkAll] at hbk; omega
  have sx := codW_size x
  have sy := codW_size y
  obtain ⟨n, out, h', hi, rfl⟩ := law6 hx hy (cod_small (by omega)) (cod_small (by omega)) (by omega) (by omega)
  have hc := calls_old T1ok hi hok hrep
  rw [show args.toList.toArray = args by simp] at hc
  refine hc.mono fun e W' ⟨⟨w, he, ι', hr⟩, h1, h2, h3, h4, h5⟩ => ?_
  have hw : w = .bool true := rep_ofbool hr
  subst hw
  exact ⟨_, he, post_old (tb := 4) hW' rfl (by kernel_rfl) Try.underlying4 rfl kids full (fun t ht => by rw [hpar] at ht; simp at ht; subst ht; exact rowed) h1 h2 h3 h5⟩

theorem lifted (os : Os) (started : os.Started) (H : Type) (enc : TypeId × Value → H) (F : Stop.Interp) :
    ReturnsInHanded {} Try.checked os 6 .any ((Rows.OpenSpec.upto Rows.irSameSpec).pre6 enc Try.prog Try.f6 Rows.irSameUptoRow.domain false) (((Rows.OpenSpec.upto Rows.irSameSpec).at F).post enc Try.prog Try.f6 false true false false) := by
  refine returnsInHanded_of_cond (C := Try.checked) (s := Rows.OpenSpec.upto Rows.irSameSpec) (k := Rows.uptoSmall) rfl own started (by kernel_rfl) Try.func6
    (OpenSpec.witness (enc := enc) (C := Try.checked) (s := Rows.OpenSpec.upto Rows.irSameSpec) (k := Rows.uptoSmall) rfl false ⟨#[], #[.agg #[.slice none 0 0, .int .i64 0, .int .i64 0], .agg #[.slice none 0 0, .int .i64 0, .int .i64 0]], []⟩ 8 (by kernel_rfl) (by kernel_rfl) (by kernel_rfl)
      (x := ([.agg [.nil, .lit (.int .i64 0), .lit (.int .i64 0)], .agg [.nil, .lit (.int .i64 0), .lit (.int .i64 0)]], [], [])) (by kernel_rfl) rfl (by kernel_rfl)) ?_
  intro W base args ds gs before hval hW _ hk _
  exact contract H enc W base args ds gs before hval hW hk

theorem over : Rows.irSameUptoRow.holds Try.pinned (Rows.OpenSpec.upto Rows.irSameSpec) :=
  OpenClaim.holds_of_cond 6 Try.f6 rfl rfl rfl rfl rfl rfl rfl ⟨rfl, rfl, rfl, rfl, rfl⟩ rfl rfl rfl rfl rfl (by kernel_rfl) Try.func6 (by kernel_rfl)
    (of_decide_eq_true (by kernel_rfl)) (by unfold Func.isWrapper; first | (rw [if_pos (by decide +kernel)]; kernel_rfl) | (rw [if_neg (by decide +kernel)]; exact ⟨rfl, rfl⟩))
    (fun os started H enc _ F => lifted os started H enc F)

theorem proved : Rows.IrSameUptoSaid :=
  over

end Go.Proofs.Ytfdpknfndjllgaa.irSame
