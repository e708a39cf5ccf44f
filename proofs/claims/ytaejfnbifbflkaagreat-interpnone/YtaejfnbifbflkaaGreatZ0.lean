/- Seat of chapter 13 (InterpNone): the tables. -/
import Derived.Test.YtaejfnbifbflkaaGreatI14
import Derived.Test.YtaejfnbifbflkaaGreatFnone
import Derived.Test.YtaejfnbifbflkaaGreatI15
import Derived.Test.YtaejfnbifbflkaaGreatChecked
import Derived.KernelRfl
import Derived.Lib.Strings
import Derived.Lib.Slices
import Derived.Lib.Walk
import Derived.Lib.Bytealg
namespace Go.Proofs
set_option linter.unusedVariables false

set_option maxHeartbeats 1000000 in
set_option maxRecDepth 100000 in
/-- The library's search for a byte. -/
theorem YtaejfnbifbflkaaGreat.idxByte (s : ByteArray) (c : Int) (w : World) :
    Calls Tryz.prog 100 #[.string s, .int .u8 c] w fun e w' => e = .returned (.int .i64 (Lib.indexByte s.data.toList c.toNat.toUInt8)) ∧ w' = w := by
  go_enter Tryz.func100, Tryz.ntmps100
  go_wp2
  rw [run_callFunc_extern Tryz.func104 (by kernel_rfl) (by kernel_rfl) (by kernel_rfl) (e := Extern.BytealgIndexByte.indexByte) (by kernel_rfl), Lib.run_indexByteString]
  simp only [Result.andThen]
  rw [Oper.upon_value]
  go_wp2
  go_ret
  exact ⟨rfl, rfl⟩
end Go.Proofs

namespace Go.Idl
set_option linter.unusedVariables false
set_option linter.unusedSimpArgs false
set_option maxRecDepth 100000
open Go.Proofs

noncomputable def Tb0 : Tbl := { fn := fun f => (Tryz.prog.funcs[f]?).bind (cfn Tryz.prog), prim := fun _ => none }
theorem Tb0ok : TblOk Tryz.prog Tb0 := ⟨fun f fn h => by
  obtain ⟨F, h1, h2⟩ := Option.bind_eq_some_iff.1 h
  exact ⟨F, h1, h2⟩, fun f p h => by cases h⟩

def idxP : List Value → Option Value
  | [.string s, .int .u8 c] => some (.int .i64 (Lib.indexByte s.data.toList c.toNat.toUInt8))
  | _ => none

theorem idxP_ok : PrimOk Tryz.prog 100 idxP := by
  refine ⟨calleeOk_mk Tryz.func100 (by kernel_rfl) (by kernel_rfl), fun args v h => ?_⟩
  unfold idxP at h
  split at h
  case h_2 => cases h
  cases h
  exact ⟨fun ι rargs hr => args_eq hr rfl, fun ι => .int _ _, fun w => ((YtaejfnbifbflkaaGreat.idxByte _ _ w).mono fun e w' ⟨h1, h2⟩ => by subst h2; exact ⟨h1, ⟨Nat.le_refl _, fun _ _ => rfl⟩, rfl, rfl, rfl⟩)⟩

noncomputable def T0 : Tbl := setPrim Tb0 100 idxP
theorem T0ok : TblOk Tryz.prog T0 := setPrim_ok Tb0ok idxP_ok

def isTV : Option Value → Bool
  | some (.bool true) => true
  | _ => false
theorem isTV_eq {o : Option Value} (h : isTV o = true) : o = some (.bool true) := by
  unfold isTV at h
  split at h
  · rfl
  · cases h

theorem awake_run : isTV (cprim T0 300 4 []) = true := by kernel_rfl

theorem awakeP_ok : PrimOk Tryz.prog 4 (cprim T0 300 4) := primOk_cprim T0ok 300 (calleeOk_mk Tryz.func4 (by kernel_rfl) (by kernel_rfl))

noncomputable def T1 : Tbl := setPrim T0 4 (cprim T0 300 4)
theorem T1ok : TblOk Tryz.prog T1 := setPrim_ok T0ok awakeP_ok
theorem wake4 {h : Heap} {K : Out → Heap → Prop} (hK : K (.ret (.bool true)) h) : Wk T1 (.fn 4) [] h K := Wk_prim (p := cprim T0 300 4) (v := .bool true) rfl rfl (isTV_eq awake_run) hK

theorem T1_3 : T1.fn 3 = some C3 := by
  have h : cfn Tryz.prog Tryz.f3 = some C3 := by kernel_rfl
  simp only [T1, T0, Tb0, setPrim, Tryz.func3, Option.bind_some, h]; rfl
theorem T1_5 : T1.fn 5 = some C5 := by
  have h : cfn Tryz.prog Tryz.f5 = some C5 := by kernel_rfl
  simp only [T1, T0, Tb0, setPrim, Tryz.func5, Option.bind_some, h]; rfl
theorem T1_6 : T1.fn 6 = some C6 := by
  have h : cfn Tryz.prog Tryz.f6 = some C6 := by kernel_rfl
  simp only [T1, T0, Tb0, setPrim, Tryz.func6, Option.bind_some, h]; rfl
theorem T1_7 : T1.fn 7 = some C7 := by
  have h : cfn Tryz.prog Tryz.f7 = some C7 := by kernel_rfl
  simp only [T1, T0, Tb0, setPrim, Tryz.func7, Option.bind_some, h]; rfl
theorem T1_8 : T1.fn 8 = some C8 := by
  have h : cfn Tryz.prog Tryz.f8 = some C8 := by kernel_rfl
  simp only [T1, T0, Tb0, setPrim, Tryz.func8, Option.bind_some, h]; rfl
theorem T1_9 : T1.fn 9 = some C9 := by
  have h : cfn Tryz.prog Tryz.f9 = some C9 := by kernel_rfl
  simp only [T1, T0, Tb0, setPrim, Tryz.func9, Option.bind_some, h]; rfl
theorem T1_10 : T1.fn 10 = some C10 := by
  have h : cfn Tryz.prog Tryz.f10 = some C10 := by kernel_rfl
  simp only [T1, T0, Tb0, setPrim, Tryz.func10, Option.bind_some, h]; rfl
theorem T1_11 : T1.fn 11 = some C11 := by
  have h : cfn Tryz.prog Tryz.f11 = some C11 := by kernel_rfl
  simp only [T1, T0, Tb0, setPrim, Tryz.func11, Option.bind_some, h]; rfl
theorem T1_12 : T1.fn 12 = some C12 := by
  have h : cfn Tryz.prog Tryz.f12 = some C12 := by kernel_rfl
  simp only [T1, T0, Tb0, setPrim, Tryz.func12, Option.bind_some, h]; rfl
theorem T1_13 : T1.fn 13 = some C13 := by
  have h : cfn Tryz.prog Tryz.f13 = some C13 := by kernel_rfl
  simp only [T1, T0, Tb0, setPrim, Tryz.func13, Option.bind_some, h]; rfl
theorem T1_14 : T1.fn 14 = some C14 := by
  have h : cfn Tryz.prog Tryz.f14 = some C14 := by kernel_rfl
  simp only [T1, T0, Tb0, setPrim, Tryz.func14, Option.bind_some, h]; rfl
theorem T1_15 : T1.fn 15 = some C15 := by
  have h : cfn Tryz.prog Tryz.f15 = some C15 := by kernel_rfl
  simp only [T1, T0, Tb0, setPrim, Tryz.func15, Option.bind_some, h]; rfl
theorem T1_19 : T1.fn 19 = some C19 := by
  have h : cfn Tryz.prog Tryz.f19 = some C19 := by kernel_rfl
  simp only [T1, T0, Tb0, setPrim, Tryz.func19, Option.bind_some, h]; rfl

end Go.Idl
