/- TreeSame: for any two lists of nodes (bulk at most 1048576, as the narrowed statement says) the law's call answers true and leaves its arguments as they were. -/
import Derived.Test.YtlphecjgkknpnaaRows
import Derived.WalkKit
import Derived.ProofKit
import Derived.OpenShut
import Derived.JoinedCond
import Derived.Test.YtlphecjgkknpnaaS5
import Derived.Test.YtlphecjgkknpnaaI12
namespace Go.Proofs.Ytlphecjgkknpnaa.treeSame
open Go.ChangeShapes Go.WideShapes Go.ChangeAt Go.RowKit Go.Idl
set_option linter.unusedVariables false
set_option linter.unusedSimpArgs false
set_option maxRecDepth 100000

theorem own : ownKnob Try.prog.godebug = none := by kernel_rfl

theorem kids : Kids Try.prog (· < Try.prog.types.size) := kids_rows (by kernel_rfl) (by kernel_rfl)
theorem full : ∀ t e, t < Try.prog.types.size → Try.prog.underlying t = some (.slice e) → 0 < Try.prog.cellsOf e := slices_full_of Try.prog (by kernel_rfl)
theorem rowed : (22 : Nat) < Try.prog.types.size := of_decide_eq_true (by kernel_rfl)

theorem nodeTy : Ty Try.prog nodeTD 22 := by
  simp only [nodeTD, Ty, TyL]
  refine ⟨34, Try.underlying22, ⟨_, Try.underlying34, ⟨_, _, rfl, rfl, Try.underlying3, by kernel_rfl, ⟨_, _, rfl, rfl, Try.underlying9, by kernel_rfl, ⟨_, _, rfl, rfl, ⟨3, Try.underlying32, Try.underlying3, by kernel_rfl, by decide⟩, by kernel_rfl, ⟨_, _, rfl, rfl, Try.underlying3, by kernel_rfl, rfl⟩⟩⟩⟩, by kernel_rfl⟩, by kernel_rfl, by decide⟩

mutual
theorem bulk_sum {H : Type} : ∀ (ds : List (DataW H)), (ds.map Rows.uptoBulk).sum = Rows.uptoBulkAll ds
  | [] => by simp [Rows.uptoBulkAll]
  | d :: ds => by simp [Rows.uptoBulkAll, bulk_sum ds]
end

theorem meas {H : Type} : Meas (Rows.uptoBulk (H := H)) :=
  ⟨fun b => by simp [Rows.uptoBulk], fun x => by cases x <;> simp [Rows.uptoBulk], fun es sp => by rw [bulk_sum]; simp only [Rows.uptoBulk]; omega, fun ds => by rw [bulk_sum]; simp only [Rows.uptoBulk]; omega⟩

theorem contract (H : Type) (enc : TypeId × Value → H) (W : World) (base : Nat) (args : Array Value) (ds gs : List (DataW H)) (before : List MemPlace)
    (hval : ∀ (j : Nat) t v, Try.f5.params[j]? = some t → args[j]? = some v → Value.okWide Try.prog W .any base t v)
    (hW : DataW.Whole enc Try.prog Try.f5.params.toList Rows.treeSameSpec.vars false W args.toList ds gs before) (hk : Rows.uptoSmall H (ds ++ gs) = true) :
    Calls Try.prog 5 args W fun e W' => ∃ v, e = .returned v ∧ Rows.treeSameSpec.post enc Try.prog Try.f5 false true false false W args v W' := by
  have hW' := hW
  obtain ⟨p, q, hA, hV, rfl, hfz, hnd⟩ := hW
  have hpar : Try.f5.params.toList = [22, 22] := by rw [Try.params5]
  rw [hpar] at hA
  have hagg : ∀ (j : Nat) t v, [22, 22][j]? = some t → args.toList[j]? = some v → ((∃ fs, Try.prog.underlying t = some (.struct fs)) ↔ ∃ cs, v = .agg cs) := by
    intro j t v ht hv
    have h22 : t = 22 := by
      rcases j with _ | _ | j
      · simpa using ht.symm
      · simpa using ht.symm
      · simp at ht
    subst h22
    refine ⟨fun ⟨fs, h⟩ => (by rw [Try.underlying22] at h; cases h), fun ⟨cs, h⟩ => ?_⟩
    subst h
    exfalso
    have := hval j 22 (.agg cs) (by rw [Try.params5]; rw [← Array.getElem?_toList]; exact ht) (by simpa using hv)
    simp [Value.okWide, Cell.okWide, Cell.ok, Try.underlying22] at this
  obtain ⟨ι, h, iargs, hok, hro, hla, hrep⟩ := layArgs0 [nodeTD, nodeTD] ⟨22, [22], rfl, nodeTy, ⟨22, [], rfl, nodeTy, rfl⟩⟩ hA hagg
  simp only [LaysArgs] at hla
  obtain ⟨d, r, v, vr, rfl, rfl, ⟨cs, hl, hcs⟩, d2, r2, v2, vr2, rfl, rfl, ⟨cs2, hl2, hcs2⟩, rfl, rfl⟩ := hla
  obtain ⟨l, v', hv', hn, hlm, hall, hm⟩ := nodes_of_lays hl
  obtain ⟨l2, v2', hv2', hn2, hlm2, hall2, hm2⟩ := nodes_of_lays hl2
  have hvv : v' = v := by
    have : cs = [v] := hcs
    rw [this] at hv'; cases hv'; rfl
  subst hvv
  have hvv2 : v2' = v2 := by
    have : cs2 = [v2] := hcs2
    rw [this] at hv2'; cases hv2'; rfl
  subst hvv2
  have hb := hm _ meas
  have hb2 := hm2 _ meas
  have hbk : Rows.uptoBulkAll ([d, d2] ++ gs) ≤ 1048576 := of_decide_eq_true hk
  have hbd : Rows.uptoBulk d + Rows.uptoBulk d2 ≤ 1048576 := by
    simp only [List.cons_append, List.nil_append, Rows.uptoBulkAll] at hbk; omega
  obtain ⟨n, out, h', hi, rfl⟩ := law5 hn hn2 (by omega) (by omega)
  have hc := calls_old T1ok hi hok hrep
  rw [show args.toList.toArray = args by simp] at hc
  refine hc.mono fun e W' ⟨⟨w, he, ι', hr⟩, h1, h2, h3, h4, h5⟩ => ?_
  have hw : w = .bool true := rep_ofbool hr
  subst hw
  exact ⟨_, he, post_old (tb := 4) hW' rfl (by kernel_rfl) Try.underlying4 rfl kids full (fun t ht => by rw [hpar] at ht; simp at ht; subst ht; exact rowed) h1 h2 h3 h5⟩

theorem lifted (os : Os) (started : os.Started) (H : Type) (enc : TypeId × Value → H) (F : Stop.Interp) :
    ReturnsInHanded {} Try.checked os 5 .any ((Rows.OpenSpec.upto Rows.treeSameSpec).pre6 enc Try.prog Try.f5 Rows.treeSameUptoRow.domain false) (((Rows.OpenSpec.upto Rows.treeSameSpec).at F).post enc Try.prog Try.f5 false true false false) := by
  refine returnsInHanded_of_cond (C := Try.checked) (s := Rows.OpenSpec.upto Rows.treeSameSpec) (k := Rows.uptoSmall) rfl own started (by kernel_rfl) Try.func5
    (OpenSpec.witness (enc := enc) (C := Try.checked) (s := Rows.OpenSpec.upto Rows.treeSameSpec) (k := Rows.uptoSmall) rfl false ⟨#[], #[.slice none 0 0, .slice none 0 0], []⟩ 8 (by kernel_rfl) (by kernel_rfl) (by kernel_rfl)
      (x := ([.nil, .nil], [], [])) (by kernel_rfl) rfl (by kernel_rfl)) ?_
  intro W base args ds gs before hval hW _ hk _
  exact contract H enc W base args ds gs before hval hW hk

theorem over : Rows.treeSameUptoRow.holds Try.pinned (Rows.OpenSpec.upto Rows.treeSameSpec) :=
  OpenClaim.holds_of_cond 5 Try.f5 rfl rfl rfl rfl rfl rfl rfl ⟨rfl, rfl, rfl, rfl, rfl⟩ rfl rfl rfl rfl rfl (by kernel_rfl) Try.func5 (by kernel_rfl)
    (of_decide_eq_true (by kernel_rfl)) (by unfold Func.isWrapper; first | (rw [if_pos (by decide +kernel)]; kernel_rfl) | (rw [if_neg (by decide +kernel)]; exact ⟨rfl, rfl⟩))
    (fun os started H enc _ F => lifted os started H enc F)

theorem proved : Rows.TreeSameUptoSaid :=
  over

end Go.Proofs.Ytlphecjgkknpnaa.treeSame
