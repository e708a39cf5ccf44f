/- InterpNone: for every value, number and frames the law's call answers true and leaves its arguments as they were. -/
import Derived.Test.YtaejfnbifbflkaaGreatRows
import Derived.WalkKit
import Derived.ProofKit
import Derived.OpenShut
import Derived.JoinedCond
import Derived.Test.YtaejfnbifbflkaaGreatZ2
import Derived.Test.YtaejfnbifbflkaaGreatI12
namespace Go.Proofs.YtaejfnbifbflkaaGreat.interpNone
open Go.ChangeShapes Go.WideShapes Go.ChangeAt Go.RowKit Go.Idl
set_option linter.unusedVariables false
set_option linter.unusedSimpArgs false
set_option maxRecDepth 100000

theorem own : ownKnob Tryz.prog.godebug = none := by kernel_rfl

theorem kids : Kids Tryz.prog (· < Tryz.prog.types.size) := kids_rows (by kernel_rfl) (by kernel_rfl)
theorem full : ∀ t e, t < Tryz.prog.types.size → Tryz.prog.underlying t = some (.slice e) → 0 < Tryz.prog.cellsOf e := slices_full_of Tryz.prog (by kernel_rfl)
theorem rowed : (58 : Nat) < Tryz.prog.types.size := of_decide_eq_true (by kernel_rfl)

def valTD : TD := .st (.cons (.int .i64) (.cons (.int .i64) .nil))
def frameTD : TD := .st (.cons (.int .i64) (.cons (.int .i64) (.cons (.sl valTD) (.cons (.int .i64) .nil))))

theorem valTy : Ty Tryz.prog valTD 23 := by
  simp only [valTD, Ty, TyL]
  exact ⟨_, Tryz.underlying23, ⟨_, _, rfl, rfl, Tryz.underlying3, by kernel_rfl, ⟨_, _, rfl, rfl, Tryz.underlying2, by kernel_rfl, rfl⟩⟩, by kernel_rfl⟩
theorem frameTy : Ty Tryz.prog frameTD 68 := by
  have hv : Ty Tryz.prog (.sl valTD) 66 := by
    simp only [Ty]
    exact ⟨23, Tryz.underlying66, valTy, by kernel_rfl, by decide⟩
  unfold frameTD
  rw [Ty]
  simp only [TyL]
  exact ⟨_, Tryz.underlying68, ⟨_, _, rfl, rfl, by rw [Ty]; exact Tryz.underlying3, by kernel_rfl, ⟨_, _, rfl, rfl, by rw [Ty]; exact Tryz.underlying3, by kernel_rfl, ⟨_, _, rfl, rfl, hv, by kernel_rfl, ⟨_, _, rfl, rfl, by rw [Ty]; exact Tryz.underlying3, by kernel_rfl, rfl⟩⟩⟩⟩, by kernel_rfl⟩
theorem framesTy : Ty Tryz.prog (.sl frameTD) 24 := by
  rw [Ty]
  exact ⟨68, Tryz.underlying24, frameTy, by kernel_rfl, by decide⟩

theorem contract (H : Type) (enc : TypeId × Value → H) (W : World) (base : Nat) (args : Array Value) (ds gs : List (DataW H)) (before : List MemPlace)
    (hval : ∀ (j : Nat) t v, Tryz.f3.params[j]? = some t → args[j]? = some v → Value.okWide Tryz.prog W .any base t v)
    (hW : DataW.Whole enc Tryz.prog Tryz.f3.params.toList Rows.interpNoneSpec.vars false W args.toList ds gs before) :
    Calls Tryz.prog 3 args W fun e W' => ∃ v, e = .returned v ∧ Rows.interpNoneSpec.post enc Tryz.prog Tryz.f3 false true false false W args v W' := by
  have hW' := hW
  obtain ⟨p, q, hA, hV, rfl, hfz, hnd⟩ := hW
  have hpar : Tryz.f3.params.toList = [23, 3, 24] := by rw [Tryz.params3]
  rw [hpar] at hA
  have hagg : ∀ (j : Nat) t v, [23, 3, 24][j]? = some t → args.toList[j]? = some v → ((∃ fs, Tryz.prog.underlying t = some (.struct fs)) ↔ ∃ cs, v = .agg cs) := by
    intro j t v ht hv
    have hok := hval j t v (by rw [Tryz.params3]; rw [← Array.getElem?_toList]; exact ht) (by simpa using hv)
    rcases j with _ | _ | _ | j
    · simp at ht
      subst ht
      refine ⟨fun _ => ?_, fun _ => ⟨_, Tryz.underlying23⟩⟩
      cases v <;> first | exact ⟨_, rfl⟩ | (exfalso; simp [Value.okWide, Cell.okWide, Cell.ok, Tryz.underlying23] at hok)
    · simp at ht
      subst ht
      refine ⟨fun ⟨fs, h⟩ => (by rw [Tryz.underlying3] at h; cases h), fun ⟨cs, h⟩ => ?_⟩
      subst h
      exfalso; simp [Value.okWide, Cell.okWide, Cell.ok, Tryz.underlying3] at hok
    · simp at ht
      subst ht
      refine ⟨fun ⟨fs, h⟩ => (by rw [Tryz.underlying24] at h; cases h), fun ⟨cs, h⟩ => ?_⟩
      subst h
      exfalso; simp [Value.okWide, Cell.okWide, Cell.ok, Tryz.underlying24] at hok
    · simp at ht
  obtain ⟨ι, h, iargs, hok, hro, hla, hrep⟩ := layArgs0 [valTD, .int .i64, .sl frameTD] ⟨23, [3, 24], rfl, valTy, ⟨3, [24], rfl, by rw [Ty]; exact Tryz.underlying3, ⟨24, [], rfl, framesTy, rfl⟩⟩⟩ hA hagg
  simp only [LaysArgs] at hla
  obtain ⟨d, r, v, vr, rfl, rfl, ⟨cs, hl, hcs⟩, d2, r2, v2, vr2, rfl, rfl, ⟨cs2, hl2, hcs2⟩, d3, r3, v3, vr3, rfl, rfl, ⟨cs3, hl3, hcs3⟩, rfl, rfl⟩ := hla
  have hv1 : ∃ kv nv, v = .agg #[kv, nv] ∧ cellsOf (.agg #[kv, nv]) = some [kv, nv] := by
    simp only [valTD, Lays] at hl
    obtain ⟨ds', rfl, hl⟩ := hl
    simp only [LaysL] at hl
    obtain ⟨d1, r1, a1, b1, rfl, rfl, h1, d2, r2, a2, b2, rfl, rfl, h2, rfl, rfl⟩ := hl
    simp only [Lays] at h1 h2
    obtain ⟨n1, rfl, w1, rfl⟩ := h1
    obtain ⟨n2, rfl, w2, rfl⟩ := h2
    exact ⟨_, _, hcs, rfl⟩
  obtain ⟨kv, nv, rfl, hcells⟩ := hv1
  have hv3 : ∃ a len c, v3 = .slice a len c := by
    have he : cs3 = [v3] := hcs3
    rw [Lays] at hl3
    rcases hl3 with ⟨_, h1⟩ | ⟨ds', spare, b, _, _, _, h1, _⟩
    · rw [he] at h1; cases h1; exact ⟨none, 0, 0, rfl⟩
    · rw [he] at h1; cases h1; exact ⟨_, _, _, rfl⟩
  obtain ⟨n, out, h', hi, rfl⟩ := law3 (n := v2) hv3 hcells
  have hc := calls_old T1ok hi hok hrep
  rw [show args.toList.toArray = args by simp] at hc
  refine hc.mono fun e W' ⟨⟨w, he, ι', hr⟩, h1, h2, h3, h4, h5⟩ => ?_
  have hw : w = .bool true := rep_ofbool hr
  subst hw
  exact ⟨_, he, post_old (tb := 4) hW' rfl (by kernel_rfl) Tryz.underlying4 rfl kids full (fun t ht => by
    rw [hpar] at ht
    simp only [List.mem_cons, List.not_mem_nil, or_false] at ht
    rcases ht with rfl | rfl | rfl <;> exact Nat.lt_trans (by decide) rowed) h1 h2 h3 h5⟩

theorem lifted (os : Os) (started : os.Started) (H : Type) (enc : TypeId × Value → H) :
    ReturnsInHanded {} Tryz.checked os 3 .any (Rows.interpNoneSpec.pre6 enc Tryz.prog Tryz.f3 Rows.interpNoneRow.domain false) (Rows.interpNoneSpec.post enc Tryz.prog Tryz.f3 false true false false) := by
  refine returnsInHanded_of_change (C := Tryz.checked) own started (by kernel_rfl) Tryz.func3
    (ChangeSpec.witness6 (enc := enc) (C := Tryz.checked) false ⟨#[], #[.agg #[.int .i64 0, .int .i64 0], .int .i64 0, .slice none 0 0], []⟩ 8 (by kernel_rfl) (by kernel_rfl) (by kernel_rfl) (by kernel_rfl)) ?_
  intro W base args ds gs before hval hW _ _
  exact contract H enc W base args ds gs before hval hW

theorem over : Rows.interpNoneRow.holds Tryz.pinned (OpenSpec.ofChange Rows.interpNoneSpec) :=
  OpenClaim.holds_of_wide 3 Tryz.f3 rfl rfl rfl rfl rfl rfl rfl ⟨rfl, rfl, rfl, rfl, rfl⟩ rfl rfl rfl rfl rfl (by kernel_rfl) Tryz.func3 (by kernel_rfl)
    (of_decide_eq_true (by kernel_rfl)) (by unfold Func.isWrapper; first | (rw [if_pos (by decide +kernel)]; kernel_rfl) | (rw [if_neg (by decide +kernel)]; exact ⟨rfl, rfl⟩))
    (fun os started H enc _ => lifted os started H enc)

theorem proved : Rows.InterpNoneSaid :=
  over

end Go.Proofs.YtaejfnbifbflkaaGreat.interpNone
