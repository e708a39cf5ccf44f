/- Seat of chapter 10: the tables. -/
import Derived.Test.YtfdpknfndjllgaaI14
import Derived.Test.YtfdpknfndjllgaaI15
import Derived.Test.YtfdpknfndjllgaaChecked
import Derived.KernelRfl
import Derived.Lib.Strings
import Derived.Lib.Slices
import Derived.Lib.Walk
import Derived.Lib.Bytealg
namespace Go.Proofs
set_option linter.unusedVariables false

set_option maxHeartbeats 1000000 in
set_option maxRecDepth 100000 in
/-- The library's search for a byte. -/
theorem Ytfdpknfndjllgaa.idxByte (s : ByteArray) (c : Int) (w : World) :
    Calls Try.prog 68 #[.string s, .int .u8 c] w fun e w' => e = .returned (.int .i64 (Lib.indexByte s.data.toList c.toNat.toUInt8)) ∧ w' = w := by
  go_enter Try.func68, Try.ntmps68
  go_wp2
  rw [run_callFunc_extern Try.func72 (by kernel_rfl) (by kernel_rfl) (by kernel_rfl) (e := Extern.BytealgIndexByte.indexByte) (by kernel_rfl), Lib.run_indexByteString]
  simp only [Result.andThen]
  rw [Oper.upon_value]
  go_wp2
  go_ret
  exact ⟨rfl, rfl⟩
end Go.Proofs

namespace Go.Idl
set_option linter.unusedVariables false
set_option linter.unusedSimpArgs false
set_option maxRecDepth 100000
open Go.Proofs

noncomputable def Tb0 : Tbl := { fn := fun f => (Try.prog.funcs[f]?).bind (cfn Try.prog), prim := fun _ => none }
theorem Tb0ok : TblOk Try.prog Tb0 := ⟨fun f fn h => by
  obtain ⟨F, h1, h2⟩ := Option.bind_eq_some_iff.1 h
  exact ⟨F, h1, h2⟩, fun f p h => by cases h⟩

def idxP : List Value → Option Value
  | [.string s, .int .u8 c] => some (.int .i64 (Lib.indexByte s.data.toList c.toNat.toUInt8))
  | _ => none

theorem idxP_ok : PrimOk Try.prog 68 idxP := by
  refine ⟨calleeOk_mk Try.func68 (by kernel_rfl) (by kernel_rfl), fun args v h => ?_⟩
  unfold idxP at h
  split at h
  case h_2 => cases h
  cases h
  exact ⟨fun ι rargs hr => args_eq hr rfl, fun ι => .int _ _, fun w => ((Ytfdpknfndjllgaa.idxByte _ _ w).mono fun e w' ⟨h1, h2⟩ => by subst h2; exact ⟨h1, ⟨Nat.le_refl _, fun _ _ => rfl⟩, rfl, rfl, rfl⟩)⟩

noncomputable def T0 : Tbl := setPrim Tb0 68 idxP
theorem T0ok : TblOk Try.prog T0 := setPrim_ok Tb0ok idxP_ok

def isTV : Option Value → Bool
  | some (.bool true) => true
  | _ => false
theorem isTV_eq {o : Option Value} (h : isTV o = true) : o = some (.bool true) := by
  unfold isTV at h
  split at h
  · rfl
  · cases h

theorem awake_run : isTV (cprim T0 200 7 []) = true := by kernel_rfl

end Go.Idl
