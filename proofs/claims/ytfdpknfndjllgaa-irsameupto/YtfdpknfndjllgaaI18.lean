/- Open regions whose effects leave all old blocks as they are, and whose reads are of blocks from before. -/
import Derived.Test.YtfdpknfndjllgaaI14
namespace Go.Idl
set_option linter.unusedVariables false
set_option linter.unusedSimpArgs false

variable {T : Tbl}

def Below (n : Nat) : Loc → Prop
  | .cells b _ _ => b < n
  | .blk b => b < n
  | .sz b _ => b < n
  | .none => True

theorem Below.le {n m : Nat} (h : n ≤ m) {l : Loc} (hb : Below n l) : Below m l := by
  cases l <;> simp only [Below] at hb ⊢ <;> omega

theorem sameAt_below {h h' : Heap} (hk : Kept h h') {l : Loc} (hb : Below h.next l) : sameAt h h' l := by
  cases l with
  | cells b o n => simp only [sameAt, Heap.cells, hk.get b hb]
  | blk b => exact (hk.get b hb).symm
  | sz b n => simp only [sameAt, okSz, hk.get b hb]
  | none => trivial

structure CalmR (n0 : Nat) (rs : List (Nat × Loc)) (es : List (Nat × Heap × Heap)) (hp : Heap) : Prop where
  base : n0 ≤ hp.next
  rs : ∀ p ∈ rs, Below hp.next p.2
  es : ∀ p ∈ es, Kept p.2.1 p.2.2 ∧ n0 ≤ p.2.1.next

def WdK (T : Tbl) (anc : List (List Nat)) (ds : List Nat) (l : List Step) (i n0 : Nat) (s : St) (Q : Option Value → St → Prop) : Prop := ∀ rs es, CalmR n0 rs es s.h → Wd T anc ds l i rs es s Q

theorem Wc_drawK {l : List Step} {anc : List (List Nat)} {e : Env} {hp : Heap} {d : Option (List Dfr)} {Q : Ex → St → Prop} (h : WdK T anc (l.filterMap (·.dst)) l 0 hp.next ⟨e, hp, d⟩ (To Q)) : Wc T (.draw l anc) ⟨e, hp, d⟩ Q :=
  Wc_draw (h [] [] ⟨Nat.le_refl _, fun p hp => (by cases hp), fun p hp => (by cases hp)⟩)

section
variable {anc : List (List Nat)} {ds : List Nat} {dst : Option Nat} {o : IOp} {m : Stm} {l : List Step} {i n0 : Nat} {e : Env} {hp h' : Heap} {d : Option (List Dfr)} {v : Value} {Q : Option Value → St → Prop}

theorem WdK_nil {s : St} (h : Q none s) : WdK T anc ds [] i n0 s Q := fun _ _ _ => Wd_nil h
theorem WdK_P (hk : kdOp o = .P) (hi : iop o e hp = some (v, hp)) (k : WdK T anc ds l (i + 1) n0 ⟨dstUpd e dst v, hp, d⟩ Q) : WdK T anc ds (⟨dst, .op o, none⟩ :: l) i n0 ⟨e, hp, d⟩ Q :=
  fun rs es hc => Wd_P hk hi (k rs es hc)
theorem WdK_R (hk : kdOp o = .R) (hi : iop o e hp = some (v, hp)) (hb : Below n0 (locOp o e)) (k : WdK T anc ds l (i + 1) n0 ⟨dstUpd e dst v, hp, d⟩ Q) : WdK T anc ds (⟨dst, .op o, none⟩ :: l) i n0 ⟨e, hp, d⟩ Q :=
  fun rs es hc => Wd_R hk hi (fun p hp => .inr (sameAt_below (hc.es p hp).1 (hb.le (hc.es p hp).2))) (k _ _ ⟨hc.base, fun p hp => by
    rcases List.mem_cons.1 hp with rfl | hp
    · exact hb.le hc.base
    · exact hc.rs p hp, hc.es⟩)
theorem WdK_A (hk : kdOp o = .A) (hi : iop o e hp = some (v, h')) (hn : h'.next = hp.next + 1) (k : WdK T anc ds l (i + 1) n0 ⟨dstUpd e dst v, h', d⟩ Q) : WdK T anc ds (⟨dst, .op o, none⟩ :: l) i n0 ⟨e, hp, d⟩ Q :=
  fun rs es hc => Wd_A hk hi (k _ _ ⟨show n0 ≤ h'.next by rw [hn]; exact Nat.le_succ_of_le hc.base, fun p hp => by
    show Below h'.next p.2
    rw [hn]
    rcases List.mem_cons.1 hp with rfl | hp
    · exact Nat.lt_succ_self _
    · exact (hc.rs p hp).le (Nat.le_succ _), hc.es⟩)
theorem WdK_call {f : FuncId} {args : List Opd} (h : Wk T (.fn f) (args.map (ev e)) hp (fun out h' => match out with
    | .ret v => Kept hp h' ∧ WdK T anc ds l (i + 1) n0 ⟨dstUpd e dst v, h', d⟩ Q | .pan v => False)) : WdK T anc ds (⟨dst, .call f args, none⟩ :: l) i n0 ⟨e, hp, d⟩ Q :=
  fun rs es hc => Wd_call (h.mono fun o h' ho => by
    cases o with
    | pan v => exact ho
    | ret v =>
      refine ⟨fun p hp => .inr (sameAt_below ho.1 (hc.rs p hp)), ho.2 _ _ ⟨Nat.le_trans hc.base ho.1.next, fun p hp => (hc.rs p hp).le ho.1.next, fun p hp => ?_⟩⟩
      rcases List.mem_cons.1 hp with rfl | hp
      · exact ⟨ho.1, hc.base⟩
      · exact hc.es p hp)
theorem WdK_take {j : Nat} {w : Bool} (hg : gval (e j) w = true) (h : WdK T anc ds (⟨dst, m, none⟩ :: l) i n0 ⟨e, hp, d⟩ Q) : WdK T anc ds (⟨dst, m, some (j, w)⟩ :: l) i n0 ⟨e, hp, d⟩ Q :=
  fun rs es hc => Wd_take hg (h rs es hc)
theorem WdK_leave {j : Nat} {w : Bool} (hg : gval (e j) w = false) (h : WdK T anc ds l (i + 1) n0 ⟨dstUpd e dst undef, hp, d⟩ Q) : WdK T anc ds (⟨dst, m, some (j, w)⟩ :: l) i n0 ⟨e, hp, d⟩ Q :=
  fun rs es hc => Wd_leave hg (h rs es hc)
end

end Go.Idl
