/- The seat's table; TreeDeep at the ideal level. -/
import Derived.Test.YtlphecjgkknpnaaN7
import Derived.Test.YtlphecjgkknpnaaFsame
import Derived.Test.YtlphecjgkknpnaaI10
import Derived.Test.YtlphecjgkknpnaaChecked
import Derived.KernelRfl
namespace Go.Idl
set_option linter.unusedVariables false
set_option linter.unusedSimpArgs false
set_option maxRecDepth 100000
open Go.Proofs

noncomputable def T0 : Tbl := { fn := fun f => (Try.prog.funcs[f]?).bind (cfn Try.prog), prim := fun _ => none }
def wake : List Value → Option Value
  | [] => some (.bool true)
  | _ => none
noncomputable def T1 : Tbl := { fn := fun f => if f = 9 then none else T0.fn f, prim := fun f => if f = 9 then some wake else none }

theorem T0ok : TblOk Try.prog T0 := ⟨fun f fn h => by
  obtain ⟨F, h1, h2⟩ := Option.bind_eq_some_iff.1 h
  exact ⟨F, h1, h2⟩, fun f p h => by cases h⟩

def isTrue (o : Option (Out × Heap)) : Bool := match o with | some (.ret (.bool true), _) => true | _ => false
theorem isTrue_of {o : Option (Out × Heap)} (h : isTrue o = true) : ∃ h', o = some (.ret (.bool true), h') := by
  unfold isTrue at h
  split at h
  · exact ⟨_, rfl⟩
  · cases h

theorem awake_run : isTrue (ccall T0 100 (.fn 9) [] ⟨fun _ => none, 0⟩) = true := by kernel_rfl

theorem T1ok : TblOk Try.prog T1 := by
  obtain ⟨h', hc⟩ := isTrue_of awake_run
  have hi := ccall_ideal T0 100 _ _ _ _ hc
  refine ⟨fun f fn h => ?_, fun f p h => ?_⟩
  · simp only [T1] at h
    split at h
    · cases h
    · exact T0ok.fn f fn h
  · simp only [T1] at h
    split at h
    · rename_i hf
      subst hf
      cases h
      refine ⟨calleeOk_of T0ok hi, fun args v hv => ?_⟩
      cases args with
      | cons a rest => simp [wake] at hv
      | nil =>
        simp only [wake, Option.some.injEq] at hv
        subst hv
        refine ⟨fun ι rargs hr => List.eq_nil_of_length_eq_zero (by have := hr.1; simpa using this.symm), fun ι => .bool true, fun w => ?_⟩
        exact calls_closed T0ok hi w
    · cases h

theorem T1_4 : T1.fn 4 = some C4 := by
  have h : cfn Try.prog Try.f4 = some C4 := by kernel_rfl
  simp only [T1, T0, Try.func4, Option.bind_some, h]; rfl
theorem T1_10 : T1.fn 10 = some C10 := by
  have h : cfn Try.prog Try.f10 = some C10 := by kernel_rfl
  simp only [T1, T0, Try.func10, Option.bind_some, h]; rfl
theorem T1_13 : T1.fn 13 = some C13 := by
  have h : cfn Try.prog Try.f13 = some C13 := by kernel_rfl
  simp only [T1, T0, Try.func13, Option.bind_some, h]; rfl
theorem T1_14 : T1.fn 14 = some C14 := by
  have h : cfn Try.prog Try.f14 = some C14 := by kernel_rfl
  simp only [T1, T0, Try.func14, Option.bind_some, h]; rfl

theorem T1_5 : T1.fn 5 = some C5 := by
  have h : cfn Try.prog Try.f5 = some C5 := by kernel_rfl
  simp only [T1, T0, Try.func5, Option.bind_some, h]; rfl
theorem T1_15 : T1.fn 15 = some C15 := by
  have h : cfn Try.prog Try.f15 = some C15 := by kernel_rfl
  simp only [T1, T0, Try.func15, Option.bind_some, h]; rfl
theorem T1_16 : T1.fn 16 = some C16 := by
  have h : cfn Try.prog Try.f16 = some C16 := by kernel_rfl
  simp only [T1, T0, Try.func16, Option.bind_some, h]; rfl
theorem T1_17 : T1.fn 17 = some C17 := by
  have h : cfn Try.prog Try.f17 = some C17 := by kernel_rfl
  simp only [T1, T0, Try.func17, Option.bind_some, h]; rfl

theorem weight_mem : ∀ {l : List Nd} {x : Nd}, x ∈ l → x.kids.length + x.text.size / 20 ≤ weight l
  | y :: l, x, h => by
    have hc : weight (y :: l) = (y.kids.length + y.text.size / 20) + weight l := by simp [weight]
    rcases List.mem_cons.1 h with rfl | h
    · omega
    · have := weight_mem h
      omega

theorem law4 {h : Heap} {v : Value} {l : List Nd} (hn : nodesAt h v l) (hw : l.length + weight l < 4611686018427387904) : Wk T1 (.fn 4) [v] h (fun o h' => o = .ret (.bool true)) := by
  refine Wk_fn T1_4 (by simp [C4]) ?_
  simp only [C4]
  refine Wc_seq (Wc_ops (Wo_run (fun call => by simp only [iops_nil, iops_op, iK_some, iop, ev, upd, dstUpd, reduceIte]; rfl) ?_))
  show Wc _ _ _ _
  refine Wc_seq (Wc_seq (Wc_ops (Wo_call (Wk_prim (p := wake) (v := .bool true) rfl rfl rfl ?_))))
  show Wo _ _ _ _
  refine Wo_run (fun call => by simp only [iops_nil, iops_op, iK_some, iop, ev, upd, dstUpd, unV, reduceIte, Nat.reduceEqDiff, Option.map_some]; rfl) ?_
  show Wc _ _ _ _
  refine Wc_cond false (by simp [ev, upd]) (fun h => by cases h) (fun _ => Wc_skip ?_)
  show Wc _ _ _ _
  refine Wc_seq (Wc_ops (Wo_op (by simp only [iop, ev, upd, dstUpd, args0, reduceIte, Nat.reduceEqDiff, List.getD_cons_zero]; rfl) (Wo_call ?_)))
  simp only [List.map_cons, List.map_nil, ev, dstUpd, upd, reduceIte]
  refine (few_spec T1_10 hn hw).mono fun o h1 ⟨hk1, ho⟩ => ?_
  subst ho
  show Wo _ _ _ _
  by_cases hfew : l.length + weight l ≤ 3000
  · refine Wo_op (by simp only [iop, ev, upd, dstUpd, hfew, decide_true, unV, Option.map_some, reduceIte]; rfl) ?_
    refine Wo_op (by simp only [iop, ev, upd, dstUpd, reduceIte, Nat.reduceEqDiff]; rfl) ?_
    refine Wo_take (by simp only [dstUpd, upd, reduceIte, gval_bool]; rfl) (Wo_op (by simp only [iop, ev, upd, dstUpd, args0, reduceIte, Nat.reduceEqDiff, List.getD_cons_zero]; rfl) ?_)
    refine Wo_take (by simp only [dstUpd, upd, reduceIte, Nat.reduceEqDiff, gval_bool]; rfl) (Wo_call ?_)
    simp only [List.map_cons, List.map_nil, ev, dstUpd, upd, reduceIte]
    have hK : ∀ x ∈ l, x.kids.length ≤ 3000 := by
      intro x hx
      have := weight_mem hx
      omega
    refine (deep13 T1_13 (hn.keep hk1) (by omega) hK).mono fun o h2 ⟨hk2, ho⟩ => ?_
    subst ho
    show Wo _ _ _ _
    refine Wo_take (by simp only [dstUpd, upd, reduceIte, Nat.reduceEqDiff, gval_bool]; rfl) (Wo_op (by simp only [iop, ev, upd, dstUpd, args0, reduceIte, Nat.reduceEqDiff, List.getD_cons_zero]; rfl) ?_)
    refine Wo_take (by simp only [dstUpd, upd, reduceIte, Nat.reduceEqDiff, gval_bool]; rfl) (Wo_call ?_)
    simp only [List.map_cons, List.map_nil, ev, dstUpd, upd, reduceIte]
    refine (deep14 T1_14 ((hn.keep hk1).keep hk2) (by omega) hK).mono fun o h3 ⟨hk3, ho⟩ => ?_
    subst ho
    show Wo _ _ _ _
    refine Wo_run (fun call => by
      simp only [iops_nil, iops_op, iops_grd, iK_some, iG_true, gval_bool, beq_true, beq_false, Bool.not_true, Bool.not_false, iop, ev, upd, dstUpd, binV, binI, reduceIte, Nat.reduceEqDiff, Option.map_some, beq_self_eq_true, Bool.false_eq_true]
      rfl) ?_
    show Wc _ _ _ _
    exact Wc_ret ⟨.inr rfl, rfl, [.bool true], by simp only [C4, resAll, resV, upd, Nat.reduceEqDiff, reduceIte], rfl⟩
  · refine Wo_run (fun call => by
      simp only [iops_nil, iops_op, iops_grd, iK_some, iG_true, iG_false, gval_bool, beq_true, beq_false, Bool.not_true, Bool.not_false, iop, ev, upd, dstUpd, unV, hfew, decide_false, reduceIte, Nat.reduceEqDiff, Option.map_some]
      rfl) ?_
    show Wc _ _ _ _
    exact Wc_ret ⟨.inr rfl, rfl, [.bool true], by simp only [C4, resAll, resV, upd, Nat.reduceEqDiff, reduceIte], rfl⟩

end Go.Idl
