/-
  No cell of these rows narrows 'for every input' (looked for: loops, veiled, ifaces, maps, wideKeys, modest, calm, conditions, laid).
  DERIVED. THE GIVEN ROWS OF THIS SEAT. 4 by the template 'for every input the law returns true; each argument reads behind the call as it read before'; 0 by the template 'total and deterministic' (their statements: YtfdpknfndjllgaaTotals.lean).
  GIVEN WITH THE SEED: the statements are not yours to turn. If you find one false, say at which input.
  Laid BY PROGRAM, IN A SANDBOX (cutbox-rows.mjs): the forced cells as the released guide's own fill.sh prints them over the translation bb82cb961bcde9ab… (all of the seat's roots in one cut). By AI agents, Wed Nov 11 2026. No macro, syntax, notation, axiom, sorry.
-/
import Derived.Test.YtfdpknfndjllgaaChecked
import GoSem.Claim
import GoSem.ClaimJoined
import GoSem.ClaimMapViews
import Derived.JoinedTies
import Derived.KernelRfl
namespace Go.Proofs.Ytfdpknfndjllgaa
/- THE CELL 'sum', in the pinned program and in every row, IS THE sha256 OF THE DUMP (.gsa) THAT YtfdpknfndjllgaaProg.lean LOADS. Nothing in Lean hashes anything: it is a label: what it is worth is what the hold of that sum in a sandbox is worth. -/
noncomputable def Try.pinned : Pinned := { name := "ytfdpknfndjllgaa", sum := "bb82cb961bcde9ab163b622a3e4799678fef5b9c1467caa7d1ba8277aff9c797", checked := Try.checked }
namespace Rows
def none {H : Type} : Left H := { results := [], args := [] }

/-- 'swathlaw10.IrChecks': WHATEVER THE INPUT: true; the input reads as it did. -/
def irChecksSpec : ChangeSpec := { name := "irChecks", fn := fun _ => fun
  | [d] => { results := [.lit (.bool true)], args := [d] }
  | _ => none }
def irChecksRow : OpenClaim := { program := "ytfdpknfndjllgaa", sum := "bb82cb961bcde9ab163b622a3e4799678fef5b9c1467caa7d1ba8277aff9c797", func := "swath/swathlaw10.IrChecks", spec := "irChecks", inPlace := ["internal/bytealg.IndexByteString", "internal/bytealg.IndexString"], unfollowed := true, recurses := true, named := ["internal/bytealg.MaxLen"], apart := false }
def IrChecksSaid : Prop := irChecksRow.holds Try.pinned (OpenSpec.ofChange irChecksSpec)

/-- ITS FALSE NEIGHBOUR: 'it returns false'. Refute it at one input. -/
def irChecksWrong : ChangeSpec := { name := "irChecks", fn := fun _ => fun
  | [d] => { results := [.lit (.bool false)], args := [d] }
  | _ => none }
def IrChecksWrongFalsely : Prop := irChecksRow.holds Try.pinned (OpenSpec.ofChange irChecksWrong)

/-- 'swathlaw10.IrUses': WHATEVER THE INPUT: true; the input reads as it did. -/
def irUsesSpec : ChangeSpec := { name := "irUses", fn := fun _ => fun
  | [d] => { results := [.lit (.bool true)], args := [d] }
  | _ => none }
def irUsesRow : OpenClaim := { program := "ytfdpknfndjllgaa", sum := "bb82cb961bcde9ab163b622a3e4799678fef5b9c1467caa7d1ba8277aff9c797", func := "swath/swathlaw10.IrUses", spec := "irUses", inPlace := ["internal/bytealg.IndexByteString", "internal/bytealg.IndexString"], unfollowed := true, recurses := true, named := ["internal/bytealg.MaxLen"], apart := false }
def IrUsesSaid : Prop := irUsesRow.holds Try.pinned (OpenSpec.ofChange irUsesSpec)

/-- ITS FALSE NEIGHBOUR: 'it returns false'. Refute it at one input. -/
def irUsesWrong : ChangeSpec := { name := "irUses", fn := fun _ => fun
  | [d] => { results := [.lit (.bool false)], args := [d] }
  | _ => none }
def IrUsesWrongFalsely : Prop := irUsesRow.holds Try.pinned (OpenSpec.ofChange irUsesWrong)

/-- 'swathlaw10.IrNext': WHATEVER THE INPUT: true; the input reads as it did. -/
def irNextSpec : ChangeSpec := { name := "irNext", fn := fun _ => fun
  | [d1, d2] => { results := [.lit (.bool true)], args := [d1, d2] }
  | _ => none }
def irNextRow : OpenClaim := { program := "ytfdpknfndjllgaa", sum := "bb82cb961bcde9ab163b622a3e4799678fef5b9c1467caa7d1ba8277aff9c797", func := "swath/swathlaw10.IrNext", spec := "irNext", inPlace := ["internal/bytealg.IndexByteString", "internal/bytealg.IndexString"], unfollowed := true, recurses := true, named := ["internal/bytealg.MaxLen"], apart := false }
def IrNextSaid : Prop := irNextRow.holds Try.pinned (OpenSpec.ofChange irNextSpec)

/-- ITS FALSE NEIGHBOUR: 'it returns false'. Refute it at one input. -/
def irNextWrong : ChangeSpec := { name := "irNext", fn := fun _ => fun
  | [d1, d2] => { results := [.lit (.bool false)], args := [d1, d2] }
  | _ => none }
def IrNextWrongFalsely : Prop := irNextRow.holds Try.pinned (OpenSpec.ofChange irNextWrong)

/-- 'swathlaw10.IrSame': WHATEVER THE INPUT: true; the input reads as it did. -/
def irSameSpec : ChangeSpec := { name := "irSame", fn := fun _ => fun
  | [d1, d2] => { results := [.lit (.bool true)], args := [d1, d2] }
  | _ => none }
def irSameRow : OpenClaim := { program := "ytfdpknfndjllgaa", sum := "bb82cb961bcde9ab163b622a3e4799678fef5b9c1467caa7d1ba8277aff9c797", func := "swath/swathlaw10.IrSame", spec := "irSame", inPlace := ["internal/bytealg.IndexByteString", "internal/bytealg.IndexString"], unfollowed := true, recurses := true, named := ["internal/bytealg.MaxLen"], apart := false }
def IrSameSaid : Prop := irSameRow.holds Try.pinned (OpenSpec.ofChange irSameSpec)

/-- ITS FALSE NEIGHBOUR: 'it returns false'. Refute it at one input. -/
def irSameWrong : ChangeSpec := { name := "irSame", fn := fun _ => fun
  | [d1, d2] => { results := [.lit (.bool false)], args := [d1, d2] }
  | _ => none }
def IrSameWrongFalsely : Prop := irSameRow.holds Try.pinned (OpenSpec.ofChange irSameWrong)

/- THE SECOND FORM. 'bulk': how many values and letters a reading holds, each counted each time it is reached (what is shared counts as often as it is met; a slice's spare places count too). A statement '..UptoSaid' is the law's where the arguments, and the package variables that the reading takes, are together of bulk at most 1048576: NARROWER than '..Said'. Prove '..Said' where nothing that the law and all that it calls make is longer than what came in: it says more and counts as full. Else prove '..UptoSaid'. A law counts once. -/
mutual
def uptoBulk {H : Type} : DataW H → Nat
  | .lit (.string bytes) => bytes.length + 1
  | .lit _ => 1
  | .nil => 1
  | .ptr d => uptoBulk d + 1
  | .slice elems spare => uptoBulkAll elems + uptoBulkAll spare + 1
  | .agg parts => uptoBulkAll parts + 1
  | .iface _ d => uptoBulk d + 1
  | .map entries => uptoBulkEntries entries + 1
  | .held _ => 1
def uptoBulkAll {H : Type} : List (DataW H) → Nat
  | [] => 0
  | d :: r => uptoBulk d + uptoBulkAll r
def uptoBulkEntries {H : Type} : List (Lit × DataW H) → Nat
  | [] => 0
  | x :: r => uptoBulkEntry x + uptoBulkEntries r
def uptoBulkEntry {H : Type} : Lit × DataW H → Nat
  | (.string bytes, d) => bytes.length + uptoBulk d + 1
  | (_, d) => uptoBulk d + 1
 end
def uptoSmall : (H : Type) → List (DataW H) → Bool := fun _ ds => decide (uptoBulkAll ds ≤ 1048576)
def OpenSpec.upto (s : _root_.Go.ChangeSpec) : _root_.Go.OpenSpec := { _root_.Go.OpenSpec.ofChange s with cond := some uptoSmall }

/-- 'swathlaw10.IrChecks', WHERE WHAT IT READS IS OF BULK AT MOST 1048576: true; the input reads as it did. -/
def irChecksUptoRow : OpenClaim := { program := "ytfdpknfndjllgaa", sum := "bb82cb961bcde9ab163b622a3e4799678fef5b9c1467caa7d1ba8277aff9c797", func := "swath/swathlaw10.IrChecks", spec := "irChecks", inPlace := ["internal/bytealg.IndexByteString", "internal/bytealg.IndexString"], unfollowed := true, recurses := true, named := ["internal/bytealg.MaxLen"], apart := false, narrowed := true }
def IrChecksUptoSaid : Prop := irChecksUptoRow.holds Try.pinned (OpenSpec.upto irChecksSpec)

/-- 'swathlaw10.IrUses', WHERE WHAT IT READS IS OF BULK AT MOST 1048576: true; the input reads as it did. -/
def irUsesUptoRow : OpenClaim := { program := "ytfdpknfndjllgaa", sum := "bb82cb961bcde9ab163b622a3e4799678fef5b9c1467caa7d1ba8277aff9c797", func := "swath/swathlaw10.IrUses", spec := "irUses", inPlace := ["internal/bytealg.IndexByteString", "internal/bytealg.IndexString"], unfollowed := true, recurses := true, named := ["internal/bytealg.MaxLen"], apart := false, narrowed := true }
def IrUsesUptoSaid : Prop := irUsesUptoRow.holds Try.pinned (OpenSpec.upto irUsesSpec)

/-- 'swathlaw10.IrNext', WHERE WHAT IT READS IS OF BULK AT MOST 1048576: true; the input reads as it did. -/
def irNextUptoRow : OpenClaim := { program := "ytfdpknfndjllgaa", sum := "bb82cb961bcde9ab163b622a3e4799678fef5b9c1467caa7d1ba8277aff9c797", func := "swath/swathlaw10.IrNext", spec := "irNext", inPlace := ["internal/bytealg.IndexByteString", "internal/bytealg.IndexString"], unfollowed := true, recurses := true, named := ["internal/bytealg.MaxLen"], apart := false, narrowed := true }
def IrNextUptoSaid : Prop := irNextUptoRow.holds Try.pinned (OpenSpec.upto irNextSpec)

/-- 'swathlaw10.IrSame', WHERE WHAT IT READS IS OF BULK AT MOST 1048576: true; the input reads as it did. -/
def irSameUptoRow : OpenClaim := { program := "ytfdpknfndjllgaa", sum := "bb82cb961bcde9ab163b622a3e4799678fef5b9c1467caa7d1ba8277aff9c797", func := "swath/swathlaw10.IrSame", spec := "irSame", inPlace := ["internal/bytealg.IndexByteString", "internal/bytealg.IndexString"], unfollowed := true, recurses := true, named := ["internal/bytealg.MaxLen"], apart := false, narrowed := true }
def IrSameUptoSaid : Prop := irSameUptoRow.holds Try.pinned (OpenSpec.upto irSameSpec)

end Rows
end Go.Proofs.Ytfdpknfndjllgaa
