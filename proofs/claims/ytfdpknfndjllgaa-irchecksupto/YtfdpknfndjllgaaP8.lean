/- The reference: an instruction. -/
import Derived.Test.YtfdpknfndjllgaaP3
import Derived.Test.YtfdpknfndjllgaaI20
section
/- The checker over all code. -/
namespace Go.Idl
set_option linter.unusedVariables false
set_option linter.unusedSimpArgs false
set_option maxRecDepth 100000

inductive Res where
  | ok (seen : List Int)
  | bad (n at' : Nat)

def stepC (c : Cod) (f : Fn) (n : Nat) : Nat → List Int → List Ins → Res
  | _, seen, [] => .ok seen
  | at', seen, x :: l => if (insB c f x at' && newB x seen) = true then stepC c f n (at' + 1) (seenNow x seen) l else .bad n at'
def headF (f : Fn) : Bool := decide (0 ≤ f.params ∧ f.params ≤ f.regs ∧ f.regs ≤ 1000 ∧ 0 < f.code.length ∧ f.code.length ≤ 100000)
def stepF (c : Cod) : Nat → List Int → List Fn → Res
  | _, seen, [] => .ok seen
  | n, seen, f :: l => if headF f = true then match stepC c f n 0 seen f.code with
      | .ok s => stepF c (n + 1) s l
      | .bad n' k => .bad n' k
    else .bad n 0
def headC (c : Cod) : Bool := decide (0 < c.funcs.length ∧ 0 ≤ c.main ∧ c.main < c.funcs.length ∧ 0 ≤ c.merges) && ((c.funcs[c.main.toNat]?).map fun f => decide (f.params = 0)).getD false
def chk (c : Cod) : Res := if headC c = true then stepF c 0 [] c.funcs else .bad 0 0

theorem drop_at {α : Type} {l : List α} {i : Nat} {x : α} (h : l[i]? = some x) : l.drop i = x :: l.drop (i + 1) := by
  have hlt := (List.getElem?_eq_some_iff.1 h).1
  rw [List.drop_eq_getElem_cons hlt, (List.getElem?_eq_some_iff.1 h).2]

/-- All blocks stay but two. -/
structure KB (p q : Nat) (h h' : Heap) : Prop where
  next : h.next ≤ h'.next
  get : ∀ b, b < h.next → b ≠ p → b ≠ q → h'.get b = h.get b
theorem KB.refl (p q : Nat) (h : Heap) : KB p q h h := ⟨Nat.le_refl _, fun _ _ _ _ => rfl⟩
theorem KB.trans {p q : Nat} {a b c : Heap} (x : KB p q a b) (y : KB p q b c) : KB p q a c := ⟨Nat.le_trans x.next y.next, fun k hk h1 h2 => (y.get k (Nat.lt_of_lt_of_le hk x.next) h1 h2).trans (x.get k hk h1 h2)⟩
theorem Kept.kb {a b : Heap} (x : Kept a b) (p q : Nat) : KB p q a b := ⟨x.next, fun k hk _ _ => x.get k hk⟩
theorem KeptBut.kb {q : Nat} {a b : Heap} (x : KeptBut q a b) (p : Nat) : KB p q a b := ⟨x.next, fun k hk _ h => x.get k hk h⟩
theorem KB.set {p q : Nat} (h : Heap) (o : Blk) : KB p q h (h.set p o) := ⟨Nat.le_refl _, fun k _ h1 _ => set_get_ne' _ _ h1⟩
theorem KB.kept {p q : Nat} {h0 h h' : Heap} (hk : Kept h0 h) (x : KB p q h h') (hp : h0.next ≤ p) (hq : h0.next ≤ q) : Kept h0 h' := ⟨Nat.le_trans hk.next x.next, fun b hb => by rw [x.get b (Nat.lt_of_lt_of_le hb hk.next) (by omega) (by omega)]; exact hk.get b hb⟩

abbrev InsK39 (T : Tbl) (c : Cod) : Prop := ∀ {h : Heap} {f : Fn} {x : Ins} {n at' bm mb : Nat} {seen : List Int}, Mach h c n at' bm mb seen → c.Ok h → f.Ok h → x.Ok h →
    Wk T (.fn 39) [ptr bm 0, .agg f.cells.toArray, .agg x.cells.toArray] h (fun o h' => KeptBut mb h h' ∧ o = mustO n at' (insB c f x at' && newB x seen) ∧ ((insB c f x at' && newB x seen) = true → h'.get mb = some (.map (.one (.int .i64)) (seenES (seenNow x seen)))))

theorem code22 {T : Tbl} {c : Cod} (h39 : InsK39 T c) {h0 hp0 : Heap} {f : Fn} {e : Env} {n a0 bm mb b4 : Nat} {seen : List Int} {Q : Ex → St → Prop} (hc : c.Ok h0) (hf : f.Ok h0) (hk0 : Kept h0 hp0) (hbm : h0.next ≤ bm) (hmb : h0.next ≤ mb) (hne : bm ≠ mb) (hM : Mach hp0 c n a0 bm mb seen)
    (h4b : b4 < hp0.next) (h4m : b4 ≠ bm) (h4q : b4 ≠ mb) (hg4 : hp0.get b4 = some (.cells f.cells true 0)) (g0 : e 0 = ptr bm 0) (g4 : e 4 = ptr b4 0) (g90 : e 90 = f.cv) (g91 : e 91 = .int .i64 f.code.length) (g92 : e 92 = .int .i64 0)
    (hok : ∀ seen', stepC c f n 0 seen f.code = .ok seen' → ∀ (e' : Env) (hp : Heap) (a : Nat), (∀ t, t < 90 → t ≠ 5 → t ≠ 6 → e' t = e t) → KB bm mb hp0 hp → Mach hp c n a bm mb seen' → Q (.brk 2) ⟨e', hp, some []⟩)
    (hbad : ∀ k, stepC c f n 0 seen f.code = .bad n k → ∀ (e' : Env) (hp : Heap), KB bm mb hp0 hp → Q (.pan (wrongV n k)) ⟨e', hp, some []⟩) : Wc T (.loop C22L0) ⟨e, hp0, some []⟩ Q := by
  refine Wc_loop (fun s => s.d = some [] ∧ KB bm mb hp0 s.h ∧ (∀ t, t < 92 → t ≠ 5 → t ≠ 6 → s.e t = e t) ∧ ∃ (i a : Nat) (sn : List Int), i ≤ f.code.length ∧ s.e 92 = .int .i64 i ∧ Mach s.h c n a bm mb sn ∧ stepC c f n 0 seen f.code = stepC c f n i sn (f.code.drop i))
    (fun s => match s.e 92 with | .int _ i => (f.code.length - i).toNat | _ => 0) ?_ ?_
  · exact ⟨rfl, .refl _ _ _, fun _ _ _ _ => rfl, 0, a0, seen, Nat.zero_le _, g92, hM, rfl⟩
  rintro ⟨e1, hp, d⟩ ⟨hd, hk, hfr, i, a, sn, hi, k92, hMi, hst⟩
  simp only at hd hk hfr k92 hMi
  subst hd
  have k0 : e1 0 = ptr bm 0 := by rw [hfr 0 (by omega) (by omega) (by omega)]; exact g0
  have k4 : e1 4 = ptr b4 0 := by rw [hfr 4 (by omega) (by omega) (by omega)]; exact g4
  have k90 : e1 90 = f.cv := by rw [hfr 90 (by omega) (by omega) (by omega)]; exact g90
  have k91 : e1 91 = .int .i64 f.code.length := by rw [hfr 91 (by omega) (by omega) (by omega)]; exact g91
  have kg4 : ∀ {hq : Heap}, KB bm mb hp0 hq → hq.get b4 = some (.cells f.cells true 0) := fun k => by rw [k.get _ h4b h4m h4q]; exact hg4
  rw [C22L0]
  refine Wc_seq (Wc_ops (Wo_run (fun call => by simp only [List.drop_succ_cons, List.drop_zero, iops_nil, iops_op, iops_grd, iK_some, iG_true, iG_false, gval_bool, beq_true, beq_false, Bool.not_true, Bool.not_false, iop, ev, upd, dstUpd, binV, binI, unV, ptr, Heap.cell, Heap.write, cellsOf, put, args0, partL, List.getD_cons_zero, List.getD_cons_succ, List.length_cons, List.length_nil, List.set_cons_zero, List.set_cons_succ, List.getElem?_cons_zero, List.getElem?_cons_succ, reduceIte, Nat.reduceEqDiff, Nat.reduceAdd, Nat.reduceMul, Nat.reduceLeDiff, Nat.zero_add, Nat.add_zero, Option.map_some, Int.reduceEq, Int.reduceLT, Int.reduceLE, Bool.false_eq_true, decide_true, decide_false, ge_iff_le, gt_iff_lt, set_get', k91, k92]; rfl) ?_))
  show Wc T _ _ _
  refine Wc_seq (Wc_cond (decide ((i : Int) < f.code.length)) (by simp [ev, upd]) (fun hlt => Wc_skip ?_) (fun hge => Wc_exit ?_))
  case refine_2 =>
    have : i = f.code.length := by simp at hge; omega
    subst this
    rw [List.drop_length] at hst
    refine hok sn hst _ hp a (fun t h1 h2 h3 => ?_) hk hMi
    simp only [upd]
    rw [if_neg (by omega)]
    exact hfr t (by omega) h2 h3
  show Wc T _ _ _
  have hil : i < f.code.length := by simpa using hlt
  obtain ⟨x, hxi⟩ : ∃ x, f.code[i]? = some x := ⟨_, List.getElem?_eq_getElem hil⟩
  rw [drop_at hxi] at hst
  simp only [stepC] at hst
  have hk0p := hk.kept hk0 hbm hmb
  obtain ⟨bx, cx, hva, hbx, _, hcx, hxin⟩ := ((hf.keep hk0p).code).load insCells_len hxi
  have e1' : IntKind.i64.wrap ((i : Int) + 1) = ((i + 1 : Nat) : Int) := by
    have := hf.len
    unfold maxLen at this
    rw [wrap64] <;> omega
  refine Wc_seq (Wc_block (Wc_seq (Wc_ops ?_)))
  refine Wo_op rfl (Wo_op (iop_iaddr (b := bx) (len := f.code.length) (c := cx) (i := i) (by simp only [upd, dstUpd, reduceIte, Nat.reduceEqDiff, k90]; exact hva) (by simp only [upd, dstUpd, reduceIte, Nat.reduceEqDiff, k92]) hil) (Wo_op (iop_load (b := bx) (o := i * 6) (cs := x.cells) (by simp only [upd, dstUpd, reduceIte, Nat.reduceEqDiff]) hcx) (Wo_op rfl (Wo_op rfl (Wo_op (iop_store (b := hp.next) (esz := 0) (cs := x.cells) (z := [(.int .i64 0), (.int .i64 0), (.int .i64 0), (.int .i64 0), (.int .i64 0), (.slice none 0 0)]) (by simp only [upd, dstUpd, reduceIte, Nat.reduceEqDiff]) (by simp only [upd, dstUpd, reduceIte, Nat.reduceEqDiff]) rfl (new_get' _ _) rfl) (Wo_nil ?_))))))
  show Wc T _ _ _
  have hkA : Kept hp ((hp.new (.cells [(.int .i64 0), (.int .i64 0), (.int .i64 0), (.int .i64 0), (.int .i64 0), (.slice none 0 0)] true 0)).set hp.next (.cells x.cells true 0)) := ((Kept.refl hp).new _).set (Nat.le_refl _) _
  have hgA : ((hp.new (.cells [(.int .i64 0), (.int .i64 0), (.int .i64 0), (.int .i64 0), (.int .i64 0), (.slice none 0 0)] true 0)).set hp.next (.cells x.cells true 0)).get hp.next = some (.cells x.cells true 0) := set_get' _ _ _
  have hnA : ((hp.new (.cells [(.int .i64 0), (.int .i64 0), (.int .i64 0), (.int .i64 0), (.int .i64 0), (.slice none 0 0)] true 0)).set hp.next (.cells x.cells true 0)).next = hp.next + 1 := rfl
  generalize (hp.new (.cells [(.int .i64 0), (.int .i64 0), (.int .i64 0), (.int .i64 0), (.int .i64 0), (.slice none 0 0)] true 0)).set hp.next (.cells x.cells true 0) = hpA at hkA hgA hnA ⊢
  have hmA : hpA.get bm = some (.cells (mCells c n a mb) true 0) := by rw [hkA.get _ hMi.bm]; exact hMi.m
  refine Wc_seq (Wc_ops (Wo_run (fun call => by simp only [List.drop_succ_cons, List.drop_zero, iops_nil, iops_op, iops_grd, iK_some, iG_true, iG_false, gval_bool, beq_true, beq_false, Bool.not_true, Bool.not_false, iop, ev, upd, dstUpd, binV, binI, unV, ptr, Heap.cell, Heap.write, cellsOf, put, args0, partL, List.getD_cons_zero, List.getD_cons_succ, List.length_cons, List.length_nil, List.set_cons_zero, List.set_cons_succ, List.getElem?_cons_zero, List.getElem?_cons_succ, reduceIte, Nat.reduceEqDiff, Nat.reduceAdd, Nat.reduceMul, Nat.reduceLeDiff, Nat.zero_add, Nat.add_zero, Option.map_some, Int.reduceEq, Int.reduceLT, Int.reduceLE, Bool.false_eq_true, decide_true, decide_false, ge_iff_le, gt_iff_lt, set_get', k0, k92, hmA, mCells]; rfl) ?_))
  show Wc T _ _ _
  have hkB : KB bm mb hpA (hpA.set bm (.cells (mCells c n i mb) true 0)) := KB.set _ _
  have hgB : (hpA.set bm (.cells (mCells c n i mb) true 0)).get hp.next = some (.cells x.cells true 0) := by rw [set_get_ne' _ _ (by have := hMi.bm; omega)]; exact hgA
  have hmB : (hpA.set bm (.cells (mCells c n i mb) true 0)).get bm = some (.cells (mCells c n i mb) true 0) := set_get' _ _ _
  have hpB' : (hpA.set bm (.cells (mCells c n i mb) true 0)).get mb = some (.map (.one (.int .i64)) (seenES sn)) := by rw [set_get_ne' _ _ (fun h => hne h.symm), hkA.get _ hMi.mb]; exact hMi.mp
  have hnB : (hpA.set bm (.cells (mCells c n i mb) true 0)).next = hp.next + 1 := hnA
  change Wc T _ ⟨_, hpA.set bm (.cells (mCells c n i mb) true 0), _⟩ _
  generalize hpA.set bm (.cells (mCells c n i mb) true 0) = hpB at hkB hgB hmB hpB' hnB ⊢
  have hkAB : KB bm mb hp0 hpB := (hk.trans (hkA.kb bm mb)).trans hkB
  have hk0B := hkAB.kept hk0 hbm hmb
  refine Wc_ops ?_
  refine Wo_op rfl (Wo_op (iop_load (b := b4) (o := 0) (cs := f.cells) (by simp only [upd, dstUpd, reduceIte, Nat.reduceEqDiff, k4]) (cells_all (kg4 hkAB) rfl)) (Wo_op (iop_load (b := hp.next) (o := 0) (cs := x.cells) (by simp only [upd, dstUpd, reduceIte, Nat.reduceEqDiff, ptr]) (cells_all hgB rfl)) (Wo_call ?_)))
  simp only [List.map_cons, List.map_nil, ev, dstUpd, upd, reduceIte, Nat.reduceEqDiff, k0]
  have hMB : Mach hpB c n i bm mb sn := ⟨hmB, hpB', hne, by have := hMi.bm; omega, by have := hMi.mb; omega⟩
  refine (h39 hMB (hc.keep hk0B) (hf.keep hk0B) ?_).mono fun o h' ⟨u1, u2, u3⟩ => ?_
  · exact ((hf.keep hk0B).code.2 x (List.mem_of_getElem? hxi))
  subst u2
  have hkC : KB bm mb hp0 h' := hkAB.trans (u1.kb bm)
  by_cases hB : (insB c f x i && newB x sn) = true
  case neg =>
    have hB' : (insB c f x i && newB x sn) = false := by simpa using hB
    rw [if_neg hB] at hst
    rw [hB']
    exact hbad i hst _ h' hkC
  rw [if_pos hB] at hst
  rw [hB] at u3 ⊢
  show Wo T _ _ _
  refine Wo_nil ?_
  show Wc T _ _ _
  refine Wc_ops (Wo_run (fun call => by simp only [List.drop_succ_cons, List.drop_zero, iops_nil, iops_op, iops_grd, iK_some, iG_true, iG_false, gval_bool, beq_true, beq_false, Bool.not_true, Bool.not_false, iop, ev, upd, dstUpd, binV, binI, unV, ptr, Heap.cell, Heap.write, cellsOf, put, args0, partL, List.getD_cons_zero, List.getD_cons_succ, List.length_cons, List.length_nil, List.set_cons_zero, List.set_cons_succ, List.getElem?_cons_zero, List.getElem?_cons_succ, reduceIte, Nat.reduceEqDiff, Nat.reduceAdd, Nat.reduceMul, Nat.reduceLeDiff, Nat.zero_add, Nat.add_zero, Option.map_some, Int.reduceEq, Int.reduceLT, Int.reduceLE, Bool.false_eq_true, decide_true, decide_false, ge_iff_le, gt_iff_lt, set_get', k92, e1']; rfl) ?_)
  refine ⟨⟨rfl, hkC, fun t h1 h2 h3 => ?_, i + 1, i, seenNow x sn, by omega, by simp [upd, dstUpd], ?_, hst⟩, ?_⟩
  · simp only [upd, dstUpd]
    repeat rw [if_neg (by omega)]
    exact hfr t h1 h2 h3
  · exact ⟨by rw [u1.get _ hMB.bm hne]; exact hmB, u3 rfl, hne, Nat.lt_of_lt_of_le hMB.bm u1.next, Nat.lt_of_lt_of_le hMB.mb u1.next⟩
  · simp only [upd, dstUpd, Nat.reduceEqDiff, reduceIte, k92]
    show ((f.code.length : Int) - ((i + 1 : Nat) : Int)).toNat < ((f.code.length : Int) - (i : Int)).toNat
    omega

end Go.Idl
end

section
/- The checker over all functions. -/
namespace Go.Idl
set_option linter.unusedVariables false
set_option linter.unusedSimpArgs false
set_option maxRecDepth 100000

def ResPost (c : Cod) (h : Heap) (bm mb : Nat) (o : Out) (h' : Heap) : Prop := KB bm mb h h' ∧ match chk c with
  | .ok _ => o = .ret (.tuple #[])
  | .bad n k => o = .pan (wrongV n k)

theorem all22 {T : Tbl} (hT : T.fn 22 = some C22) (h38 : T.fn 38 = some C38) {c : Cod} (h39 : InsK39 T c) {h0 h : Heap} {bm mb : Nat} (hc : c.Ok h0) (hk0 : Kept h0 h) (hbm : h0.next ≤ bm) (hmb : h0.next ≤ mb) (hM : Mach h c 0 0 bm mb []) :
    Wk T (.fn 22) [ptr bm 0] h (ResPost c h bm mb) := by
  have hne := hM.ne
  refine Wk_fn2 hT (by simp [C22]) ?_
  simp only [C22]
  have hl10 : iop (.load (some 3) (.t 9)) (dstUpd (dstUpd (dstUpd (args0 [ptr bm 0]) (some 7) (ptr bm 0)) (some 8) (ptr bm 0)) (some 9) (ptr bm 0)) h = some (.agg c.cells.toArray, h) := by
    refine iop_load (b := bm) (o := 0) (by simp only [upd, dstUpd, reduceIte, Nat.reduceEqDiff]) ?_
    simp only [Heap.cells, hM.m]
    rfl
  refine Wc_seq (Wc_ops (Wo_op rfl (Wo_op (show iop (.nilck (.t 7)) _ h = some (ptr bm 0, h) from rfl) (Wo_op (show iop (.faddr 0 (.t 8)) _ h = some (ptr bm 0, h) from rfl) (Wo_op hl10 (Wo_op rfl (Wo_op (iop_store (b := h.next) (esz := 0) (cs := c.cells) (z := [(.slice none 0 0), (.int .i64 0), (.int .i64 0)]) (by simp only [upd, dstUpd, reduceIte, Nat.reduceEqDiff, ev]) (by simp only [upd, dstUpd, reduceIte, Nat.reduceEqDiff]) rfl (new_get' _ _) rfl) (Wo_nil ?_))))))))
  show Wc T _ _ _
  have hk1 : Kept h ((h.new (.cells [(.slice none 0 0), (.int .i64 0), (.int .i64 0)] true 0)).set h.next (.cells c.cells true 0)) := ((Kept.refl h).new _).set (Nat.le_refl _) _
  have hg1 : ((h.new (.cells [(.slice none 0 0), (.int .i64 0), (.int .i64 0)] true 0)).set h.next (.cells c.cells true 0)).get h.next = some (.cells c.cells true 0) := set_get' _ _ _
  have hn1 : ((h.new (.cells [(.slice none 0 0), (.int .i64 0), (.int .i64 0)] true 0)).set h.next (.cells c.cells true 0)).next = h.next + 1 := rfl
  generalize (h.new (.cells [(.slice none 0 0), (.int .i64 0), (.int .i64 0)] true 0)).set h.next (.cells c.cells true 0) = h1 at hk1 hg1 hn1 ⊢
  have hm1 : h1.get bm = some (.cells (mCells c 0 0 mb) true 0) := by rw [hk1.get _ hM.bm]; exact hM.m
  have hp1 : h1.get mb = some (.map (.one (.int .i64)) (seenES [])) := by rw [hk1.get _ hM.mb]; exact hM.mp
  have hk01 : Kept h0 h1 := hk0.trans hk1
  obtain ⟨pf, cf, hfv⟩ := hc.funcs.len
  have badE : ∀ (e' : Env) (hq : Heap) (n k : Nat), KB bm mb h1 hq → chk c = .bad n k → Fin2 C22 (ResPost c h bm mb) (.pan (wrongV n k)) ⟨e', hq, some []⟩ := by
    intro e' hq n k hkq hC
    exact ⟨rfl, (hk1.kb bm mb).trans hkq, by rw [hC]⟩
  by_cases q0 : 0 < c.funcs.length
  case neg =>
    have z0 : decide ((0 : Int) < (c.funcs.length : Int)) = false := by simp only [decide_eq_false_iff_not]; omega
    refine Wc_seq (Wc_ops (Wo_pre 23 (fun call => by simp only [List.take_succ_cons, List.take_zero, List.drop_succ_cons, List.drop_zero, iops_nil, iops_op, iops_grd, iK_some, iG_true, iG_false, gval_bool, beq_true, beq_false, Bool.not_true, Bool.not_false, iop, ev, upd, dstUpd, binV, binI, unV, ptr, Heap.cell, Heap.write, cellsOf, put, args0, partL, List.getD_cons_zero, List.getD_cons_succ, List.length_cons, List.length_nil, List.set_cons_zero, List.set_cons_succ, List.getElem?_cons_zero, List.getElem?_cons_succ, reduceIte, Nat.reduceEqDiff, Nat.reduceAdd, Nat.reduceMul, Nat.reduceLeDiff, Nat.zero_add, Nat.add_zero, Option.map_some, Int.reduceEq, Int.reduceLT, Int.reduceLE, Bool.false_eq_true, decide_true, decide_false, ge_iff_le, gt_iff_lt, set_get', hg1, Cod.cells, hfv, z0]; rfl) ?_))
    refine Wo_must h38 false hm1 (by simp only [upd, dstUpd, reduceIte, Nat.reduceEqDiff, ev, args0]; rfl) (by simp only [upd, dstUpd, reduceIte, Nat.reduceEqDiff, ev]) (fun h => by cases h) (fun _ => ?_)
    refine badE _ _ 0 0 (.refl _ _ _) ?_
    have : headC c = false := by simp only [headC, show decide (0 < c.funcs.length ∧ 0 ≤ c.main ∧ c.main < c.funcs.length ∧ 0 ≤ c.merges) = false from by simp only [decide_eq_false_iff_not]; omega, Bool.false_and]
    simp [chk, this]
  have p0 : decide ((0 : Int) < (c.funcs.length : Int)) = true := by simp only [decide_eq_true_eq]; omega
  by_cases q1 : 0 ≤ c.main
  case neg =>
    have z1 : decide (0 ≤ c.main) = false := by simp only [decide_eq_false_iff_not]; omega
    refine Wc_seq (Wc_ops (Wo_pre 23 (fun call => by simp only [List.take_succ_cons, List.take_zero, List.drop_succ_cons, List.drop_zero, iops_nil, iops_op, iops_grd, iK_some, iG_true, iG_false, gval_bool, beq_true, beq_false, Bool.not_true, Bool.not_false, iop, ev, upd, dstUpd, binV, binI, unV, ptr, Heap.cell, Heap.write, cellsOf, put, args0, partL, List.getD_cons_zero, List.getD_cons_succ, List.length_cons, List.length_nil, List.set_cons_zero, List.set_cons_succ, List.getElem?_cons_zero, List.getElem?_cons_succ, reduceIte, Nat.reduceEqDiff, Nat.reduceAdd, Nat.reduceMul, Nat.reduceLeDiff, Nat.zero_add, Nat.add_zero, Option.map_some, Int.reduceEq, Int.reduceLT, Int.reduceLE, Bool.false_eq_true, decide_true, decide_false, ge_iff_le, gt_iff_lt, set_get', hg1, Cod.cells, hfv, z1, p0]; rfl) ?_))
    refine Wo_must h38 false hm1 (by simp only [upd, dstUpd, reduceIte, Nat.reduceEqDiff, ev, args0]; rfl) (by simp only [upd, dstUpd, reduceIte, Nat.reduceEqDiff, ev]) (fun h => by cases h) (fun _ => ?_)
    refine badE _ _ 0 0 (.refl _ _ _) ?_
    have : headC c = false := by simp only [headC, show decide (0 < c.funcs.length ∧ 0 ≤ c.main ∧ c.main < c.funcs.length ∧ 0 ≤ c.merges) = false from by simp only [decide_eq_false_iff_not]; omega, Bool.false_and]
    simp [chk, this]
  have p1 : decide (0 ≤ c.main) = true := by simp only [decide_eq_true_eq]; omega
  by_cases q2 : c.main < c.funcs.length
  case neg =>
    have z2 : decide (c.main < (c.funcs.length : Int)) = false := by simp only [decide_eq_false_iff_not]; omega
    refine Wc_seq (Wc_ops (Wo_pre 23 (fun call => by simp only [List.take_succ_cons, List.take_zero, List.drop_succ_cons, List.drop_zero, iops_nil, iops_op, iops_grd, iK_some, iG_true, iG_false, gval_bool, beq_true, beq_false, Bool.not_true, Bool.not_false, iop, ev, upd, dstUpd, binV, binI, unV, ptr, Heap.cell, Heap.write, cellsOf, put, args0, partL, List.getD_cons_zero, List.getD_cons_succ, List.length_cons, List.length_nil, List.set_cons_zero, List.set_cons_succ, List.getElem?_cons_zero, List.getElem?_cons_succ, reduceIte, Nat.reduceEqDiff, Nat.reduceAdd, Nat.reduceMul, Nat.reduceLeDiff, Nat.zero_add, Nat.add_zero, Option.map_some, Int.reduceEq, Int.reduceLT, Int.reduceLE, Bool.false_eq_true, decide_true, decide_false, ge_iff_le, gt_iff_lt, set_get', hg1, Cod.cells, hfv, z2, p0, p1]; rfl) ?_))
    refine Wo_must h38 false hm1 (by simp only [upd, dstUpd, reduceIte, Nat.reduceEqDiff, ev, args0]; rfl) (by simp only [upd, dstUpd, reduceIte, Nat.reduceEqDiff, ev]) (fun h => by cases h) (fun _ => ?_)
    refine badE _ _ 0 0 (.refl _ _ _) ?_
    have : headC c = false := by simp only [headC, show decide (0 < c.funcs.length ∧ 0 ≤ c.main ∧ c.main < c.funcs.length ∧ 0 ≤ c.merges) = false from by simp only [decide_eq_false_iff_not]; omega, Bool.false_and]
    simp [chk, this]
  have p2 : decide (c.main < (c.funcs.length : Int)) = true := by simp only [decide_eq_true_eq]; omega
  by_cases q3 : 0 ≤ c.merges
  case neg =>
    have z3 : decide (0 ≤ c.merges) = false := by simp only [decide_eq_false_iff_not]; omega
    refine Wc_seq (Wc_ops (Wo_pre 23 (fun call => by simp only [List.take_succ_cons, List.take_zero, List.drop_succ_cons, List.drop_zero, iops_nil, iops_op, iops_grd, iK_some, iG_true, iG_false, gval_bool, beq_true, beq_false, Bool.not_true, Bool.not_false, iop, ev, upd, dstUpd, binV, binI, unV, ptr, Heap.cell, Heap.write, cellsOf, put, args0, partL, List.getD_cons_zero, List.getD_cons_succ, List.length_cons, List.length_nil, List.set_cons_zero, List.set_cons_succ, List.getElem?_cons_zero, List.getElem?_cons_succ, reduceIte, Nat.reduceEqDiff, Nat.reduceAdd, Nat.reduceMul, Nat.reduceLeDiff, Nat.zero_add, Nat.add_zero, Option.map_some, Int.reduceEq, Int.reduceLT, Int.reduceLE, Bool.false_eq_true, decide_true, decide_false, ge_iff_le, gt_iff_lt, set_get', hg1, Cod.cells, hfv, z3, p0, p1, p2]; rfl) ?_))
    refine Wo_must h38 false hm1 (by simp only [upd, dstUpd, reduceIte, Nat.reduceEqDiff, ev, args0]; rfl) (by simp only [upd, dstUpd, reduceIte, Nat.reduceEqDiff, ev]) (fun h => by cases h) (fun _ => ?_)
    refine badE _ _ 0 0 (.refl _ _ _) ?_
    have : headC c = false := by simp only [headC, show decide (0 < c.funcs.length ∧ 0 ≤ c.main ∧ c.main < c.funcs.length ∧ 0 ≤ c.merges) = false from by simp only [decide_eq_false_iff_not]; omega, Bool.false_and]
    simp [chk, this]
  have p3 : decide (0 ≤ c.merges) = true := by simp only [decide_eq_true_eq]; omega
  refine Wc_seq (Wc_ops (Wo_pre 23 (fun call => by simp only [List.take_succ_cons, List.take_zero, List.drop_succ_cons, List.drop_zero, iops_nil, iops_op, iops_grd, iK_some, iG_true, iG_false, gval_bool, beq_true, beq_false, Bool.not_true, Bool.not_false, iop, ev, upd, dstUpd, binV, binI, unV, ptr, Heap.cell, Heap.write, cellsOf, put, args0, partL, List.getD_cons_zero, List.getD_cons_succ, List.length_cons, List.length_nil, List.set_cons_zero, List.set_cons_succ, List.getElem?_cons_zero, List.getElem?_cons_succ, reduceIte, Nat.reduceEqDiff, Nat.reduceAdd, Nat.reduceMul, Nat.reduceLeDiff, Nat.zero_add, Nat.add_zero, Option.map_some, Int.reduceEq, Int.reduceLT, Int.reduceLE, Bool.false_eq_true, decide_true, decide_false, ge_iff_le, gt_iff_lt, set_get', hg1, Cod.cells, hfv, p0, p1, p2, p3]; rfl) ?_))
  refine Wo_must h38 true hm1 (by simp only [upd, dstUpd, reduceIte, Nat.reduceEqDiff, ev, args0]; rfl) (by simp only [upd, dstUpd, reduceIte, Nat.reduceEqDiff, ev]) (fun _ => Wo_nil ?_) (fun h => by cases h)
  show Wc T _ _ _
  obtain ⟨g, hg⟩ : ∃ g, c.funcs[c.main.toNat]? = some g := ⟨_, List.getElem?_eq_getElem (by omega)⟩
  obtain ⟨bf, cf2, hfv2, hbf, ⟨of, zf, hgf⟩, _, hgin⟩ := ((hc.keep hk01).funcs).load fnCells_len hg
  have hidx : idxV c.funcs.length (.int .i64 c.main) = some c.main.toNat := by simp only [idxV]; rw [if_pos (by omega)]
  have hgq : (c.funcs.flatMap Fn.cells)[c.main.toNat * 4 + 1]? = some (.int .i64 g.params) := by
    have := flat_drop fnCells_len c.funcs c.main.toNat g hg
    have h2 : ((c.funcs.flatMap Fn.cells).drop (c.main.toNat * 4))[1]? = (((c.funcs.flatMap Fn.cells).drop (c.main.toNat * 4)).take 4)[1]? := by rw [List.getElem?_take_of_lt (by omega)]
    rw [this, List.getElem?_drop] at h2
    rw [h2]; rfl
  have hhead : headC c = decide (g.params = 0) := by
    simp only [headC, show decide (0 < c.funcs.length ∧ 0 ≤ c.main ∧ c.main < c.funcs.length ∧ 0 ≤ c.merges) = true from by simp only [decide_eq_true_eq]; omega, Bool.true_and, hg, Option.map_some, Option.getD_some]
  by_cases q4 : g.params = 0
  case neg =>
    have z4 : (g.params == 0) = false := by simpa using q4
    refine Wc_seq (Wc_ops (Wo_pre 9 (fun call => by simp only [List.take_succ_cons, List.take_zero, List.drop_succ_cons, List.drop_zero, iops_nil, iops_op, iops_grd, iK_some, iG_true, iG_false, gval_bool, beq_true, beq_false, Bool.not_true, Bool.not_false, iop, ev, upd, dstUpd, binV, binI, unV, ptr, Heap.cell, Heap.write, cellsOf, put, args0, partL, List.getD_cons_zero, List.getD_cons_succ, List.length_cons, List.length_nil, List.set_cons_zero, List.set_cons_succ, List.getElem?_cons_zero, List.getElem?_cons_succ, reduceIte, Nat.reduceEqDiff, Nat.reduceAdd, Nat.reduceMul, Nat.reduceLeDiff, Nat.zero_add, Nat.add_zero, Option.map_some, Int.reduceEq, Int.reduceLT, Int.reduceLE, Bool.false_eq_true, decide_true, decide_false, ge_iff_le, gt_iff_lt, set_get', hg1, Cod.cells, hfv2, hidx, hgf, hgq, z4]; rfl) ?_))
    refine Wo_must h38 false hm1 (by simp only [upd, dstUpd, reduceIte, Nat.reduceEqDiff, ev, args0]; rfl) (by simp only [upd, dstUpd, reduceIte, Nat.reduceEqDiff, ev]) (fun h => by cases h) (fun _ => ?_)
    exact badE _ _ 0 0 (.refl _ _ _) (by simp [chk, hhead, q4])
  have p4 : (g.params == 0) = true := by simpa using q4
  refine Wc_seq (Wc_ops (Wo_pre 9 (fun call => by simp only [List.take_succ_cons, List.take_zero, List.drop_succ_cons, List.drop_zero, iops_nil, iops_op, iops_grd, iK_some, iG_true, iG_false, gval_bool, beq_true, beq_false, Bool.not_true, Bool.not_false, iop, ev, upd, dstUpd, binV, binI, unV, ptr, Heap.cell, Heap.write, cellsOf, put, args0, partL, List.getD_cons_zero, List.getD_cons_succ, List.length_cons, List.length_nil, List.set_cons_zero, List.set_cons_succ, List.getElem?_cons_zero, List.getElem?_cons_succ, reduceIte, Nat.reduceEqDiff, Nat.reduceAdd, Nat.reduceMul, Nat.reduceLeDiff, Nat.zero_add, Nat.add_zero, Option.map_some, Int.reduceEq, Int.reduceLT, Int.reduceLE, Bool.false_eq_true, decide_true, decide_false, ge_iff_le, gt_iff_lt, set_get', hg1, Cod.cells, hfv2, hidx, hgf, hgq, p4]; rfl) ?_))
  refine Wo_must h38 true hm1 (by simp only [upd, dstUpd, reduceIte, Nat.reduceEqDiff, ev, args0]; rfl) (by simp only [upd, dstUpd, reduceIte, Nat.reduceEqDiff, ev]) (fun _ => Wo_nil ?_) (fun h => by cases h)
  show Wc T _ _ _
  have hchk : chk c = stepF c 0 [] c.funcs := by simp [chk, hhead, q4]
  refine Wc_seq (Wc_ops (Wo_run (fun call => by simp only [List.drop_succ_cons, List.drop_zero, iops_nil, iops_op, iops_grd, iK_some, iG_true, iG_false, gval_bool, beq_true, beq_false, Bool.not_true, Bool.not_false, iop, ev, upd, dstUpd, binV, binI, unV, ptr, Heap.cell, Heap.write, cellsOf, put, args0, partL, List.getD_cons_zero, List.getD_cons_succ, List.length_cons, List.length_nil, List.set_cons_zero, List.set_cons_succ, List.getElem?_cons_zero, List.getElem?_cons_succ, reduceIte, Nat.reduceEqDiff, Nat.reduceAdd, Nat.reduceMul, Nat.reduceLeDiff, Nat.zero_add, Nat.add_zero, Option.map_some, Int.reduceEq, Int.reduceLT, Int.reduceLE, Bool.false_eq_true, decide_true, decide_false, ge_iff_le, gt_iff_lt, set_get', hg1, Cod.cells, hfv]; rfl) ?_))
  show Wc T _ _ _
  refine Wc_block (Wc_loop (fun s => s.d = some [] ∧ KB bm mb h1 s.h ∧ s.e 0 = ptr bm 0 ∧ s.e 46 = c.fv ∧ s.e 47 = .int .i64 c.funcs.length ∧ ∃ (i n a : Nat) (sn : List Int), i ≤ c.funcs.length ∧ s.e 48 = .int .i64 i ∧ Mach s.h c n a bm mb sn ∧ chk c = stepF c i sn (c.funcs.drop i))
    (fun s => match s.e 48 with | .int _ i => (c.funcs.length - i).toNat | _ => 0) ?_ ?_)
  · exact ⟨rfl, .refl _ _ _, by simp [upd, dstUpd, args0, ptr], by simp [upd, dstUpd, hfv], by simp [upd, dstUpd], 0, 0, 0, [], Nat.zero_le _, by simp [upd, dstUpd], ⟨hm1, hp1, hne, by show bm < h1.next; have := hM.bm; omega, by show mb < h1.next; have := hM.mb; omega⟩, hchk⟩
  rintro ⟨e, hp, d⟩ ⟨hd, hk, k0, k46, k47, i, n, a, sn, hi, k48, hMi, hst⟩
  simp only at hd hk k0 k46 k47 k48 hMi
  subst hd
  rw [C22L1]
  refine Wc_seq (Wc_ops (Wo_run (fun call => by simp only [List.drop_succ_cons, List.drop_zero, iops_nil, iops_op, iops_grd, iK_some, iG_true, iG_false, gval_bool, beq_true, beq_false, Bool.not_true, Bool.not_false, iop, ev, upd, dstUpd, binV, binI, unV, ptr, Heap.cell, Heap.write, cellsOf, put, args0, partL, List.getD_cons_zero, List.getD_cons_succ, List.length_cons, List.length_nil, List.set_cons_zero, List.set_cons_succ, List.getElem?_cons_zero, List.getElem?_cons_succ, reduceIte, Nat.reduceEqDiff, Nat.reduceAdd, Nat.reduceMul, Nat.reduceLeDiff, Nat.zero_add, Nat.add_zero, Option.map_some, Int.reduceEq, Int.reduceLT, Int.reduceLE, Bool.false_eq_true, decide_true, decide_false, ge_iff_le, gt_iff_lt, set_get', k47, k48]; rfl) ?_))
  show Wc T _ _ _
  refine Wc_seq (Wc_cond (decide ((i : Int) < c.funcs.length)) (by simp [ev, upd]) (fun hlt => Wc_skip ?_) (fun hge => Wc_exit ?_))
  case refine_2 =>
    have : i = c.funcs.length := by simp at hge; omega
    subst this
    rw [List.drop_length] at hst
    exact ⟨rfl, [], rfl, (hk1.kb bm mb).trans hk, by rw [hst]; rfl⟩
  show Wc T _ _ _
  have hil : i < c.funcs.length := by simpa using hlt
  obtain ⟨f, hfi⟩ : ∃ f, c.funcs[i]? = some f := ⟨_, List.getElem?_eq_getElem hil⟩
  rw [drop_at hfi] at hst
  simp only [stepF] at hst
  have hk0p := hk.kept hk01 hbm hmb
  obtain ⟨bx, cx, hva, hbx, _, hcx, hxin⟩ := ((hc.keep hk0p).funcs).load fnCells_len hfi
  obtain ⟨qc, rc, hcv⟩ := hxin.code.len
  have hf0 : f.Ok h0 := hc.funcs.2 f (List.mem_of_getElem? hfi)
  have e1' : IntKind.i64.wrap ((i : Int) + 1) = ((i + 1 : Nat) : Int) := by
    have := hc.len
    unfold maxLen at this
    rw [wrap64] <;> omega
  refine Wc_seq (Wc_block (Wc_seq (Wc_ops ?_)))
  refine Wo_op rfl (Wo_op (iop_iaddr (b := bx) (len := c.funcs.length) (c := cx) (i := i) (by simp only [upd, dstUpd, reduceIte, Nat.reduceEqDiff, k46]; exact hva) (by simp only [upd, dstUpd, reduceIte, Nat.reduceEqDiff, k48]) hil) (Wo_op (iop_load (b := bx) (o := i * 4) (cs := f.cells) (by simp only [upd, dstUpd, reduceIte, Nat.reduceEqDiff]) hcx) (Wo_op rfl (Wo_op rfl (Wo_op (iop_store (b := hp.next) (esz := 0) (cs := f.cells) (z := [(.string ⟨#[]⟩), (.int .i64 0), (.int .i64 0), (.slice none 0 0)]) (by simp only [upd, dstUpd, reduceIte, Nat.reduceEqDiff]) (by simp only [upd, dstUpd, reduceIte, Nat.reduceEqDiff]) rfl (new_get' _ _) rfl) (Wo_nil ?_))))))
  show Wc T _ _ _
  have hkA : Kept hp ((hp.new (.cells [(.string ⟨#[]⟩), (.int .i64 0), (.int .i64 0), (.slice none 0 0)] true 0)).set hp.next (.cells f.cells true 0)) := ((Kept.refl hp).new _).set (Nat.le_refl _) _
  have hgA : ((hp.new (.cells [(.string ⟨#[]⟩), (.int .i64 0), (.int .i64 0), (.slice none 0 0)] true 0)).set hp.next (.cells f.cells true 0)).get hp.next = some (.cells f.cells true 0) := set_get' _ _ _
  have hnA : ((hp.new (.cells [(.string ⟨#[]⟩), (.int .i64 0), (.int .i64 0), (.slice none 0 0)] true 0)).set hp.next (.cells f.cells true 0)).next = hp.next + 1 := rfl
  generalize (hp.new (.cells [(.string ⟨#[]⟩), (.int .i64 0), (.int .i64 0), (.slice none 0 0)] true 0)).set hp.next (.cells f.cells true 0) = hpA at hkA hgA hnA ⊢
  have hmA : hpA.get bm = some (.cells (mCells c n a mb) true 0) := by rw [hkA.get _ hMi.bm]; exact hMi.m
  have hs1 : (hpA.set bm (.cells [c.fv, .int .i64 c.main, .int .i64 c.merges, .int .i64 i, .int .i64 a, .map (some mb)] true 0)).get bm = some (.cells [c.fv, .int .i64 c.main, .int .i64 c.merges, .int .i64 i, .int .i64 a, .map (some mb)] true 0) := set_get' _ _ _
  refine Wc_seq (Wc_ops (Wo_run (fun call => by simp only [List.drop_succ_cons, List.drop_zero, iops_nil, iops_op, iops_grd, iK_some, iG_true, iG_false, gval_bool, beq_true, beq_false, Bool.not_true, Bool.not_false, iop, ev, upd, dstUpd, binV, binI, unV, ptr, Heap.cell, Heap.write, cellsOf, put, args0, partL, List.getD_cons_zero, List.getD_cons_succ, List.length_cons, List.length_nil, List.set_cons_zero, List.set_cons_succ, List.getElem?_cons_zero, List.getElem?_cons_succ, reduceIte, Nat.reduceEqDiff, Nat.reduceAdd, Nat.reduceMul, Nat.reduceLeDiff, Nat.zero_add, Nat.add_zero, Option.map_some, Int.reduceEq, Int.reduceLT, Int.reduceLE, Bool.false_eq_true, decide_true, decide_false, ge_iff_le, gt_iff_lt, set_get', k0, k48, hmA, mCells, hs1]; rfl) ?_))
  show Wc T _ _ _
  have hset2 : (hpA.set bm (.cells [c.fv, .int .i64 c.main, .int .i64 c.merges, .int .i64 i, .int .i64 a, .map (some mb)] true 0)).set bm (.cells [c.fv, .int .i64 c.main, .int .i64 c.merges, .int .i64 i, .int .i64 0, .map (some mb)] true 0) = (hpA.set bm (.cells [c.fv, .int .i64 c.main, .int .i64 c.merges, .int .i64 i, .int .i64 a, .map (some mb)] true 0)).set bm (.cells (mCells c i 0 mb) true 0) := rfl
  rw [hset2]
  have hkB : KB bm mb hpA ((hpA.set bm (.cells [c.fv, .int .i64 c.main, .int .i64 c.merges, .int .i64 i, .int .i64 a, .map (some mb)] true 0)).set bm (.cells (mCells c i 0 mb) true 0)) := (KB.set _ _).trans (KB.set _ _)
  have hgB : ((hpA.set bm (.cells [c.fv, .int .i64 c.main, .int .i64 c.merges, .int .i64 i, .int .i64 a, .map (some mb)] true 0)).set bm (.cells (mCells c i 0 mb) true 0)).get hp.next = some (.cells f.cells true 0) := by rw [set_get_ne' _ _ (by have := hMi.bm; omega), set_get_ne' _ _ (by have := hMi.bm; omega)]; exact hgA
  have hmB : ((hpA.set bm (.cells [c.fv, .int .i64 c.main, .int .i64 c.merges, .int .i64 i, .int .i64 a, .map (some mb)] true 0)).set bm (.cells (mCells c i 0 mb) true 0)).get bm = some (.cells (mCells c i 0 mb) true 0) := set_get' _ _ _
  have hpB' : ((hpA.set bm (.cells [c.fv, .int .i64 c.main, .int .i64 c.merges, .int .i64 i, .int .i64 a, .map (some mb)] true 0)).set bm (.cells (mCells c i 0 mb) true 0)).get mb = some (.map (.one (.int .i64)) (seenES sn)) := by rw [set_get_ne' _ _ (fun h => hne h.symm), set_get_ne' _ _ (fun h => hne h.symm), hkA.get _ hMi.mb]; exact hMi.mp
  have hnB : ((hpA.set bm (.cells [c.fv, .int .i64 c.main, .int .i64 c.merges, .int .i64 i, .int .i64 a, .map (some mb)] true 0)).set bm (.cells (mCells c i 0 mb) true 0)).next = hp.next + 1 := hnA
  generalize (hpA.set bm (.cells [c.fv, .int .i64 c.main, .int .i64 c.merges, .int .i64 i, .int .i64 a, .map (some mb)] true 0)).set bm (.cells (mCells c i 0 mb) true 0) = hpB at hkB hgB hmB hpB' hnB ⊢
  have hkAB : KB bm mb h1 hpB := (hk.trans (hkA.kb bm mb)).trans hkB
  have hk0B := hkAB.kept hk01 hbm hmb
  by_cases v0 : 0 ≤ f.params
  case neg =>
    have z0 : decide (0 ≤ f.params) = false := by simp only [decide_eq_false_iff_not]; omega
    refine Wc_seq (Wc_ops (Wo_pre 28 (fun call => by simp only [List.take_succ_cons, List.take_zero, List.drop_succ_cons, List.drop_zero, iops_nil, iops_op, iops_grd, iK_some, iG_true, iG_false, gval_bool, beq_true, beq_false, Bool.not_true, Bool.not_false, iop, ev, upd, dstUpd, binV, binI, unV, ptr, Heap.cell, Heap.write, cellsOf, put, args0, partL, List.getD_cons_zero, List.getD_cons_succ, List.length_cons, List.length_nil, List.set_cons_zero, List.set_cons_succ, List.getElem?_cons_zero, List.getElem?_cons_succ, reduceIte, Nat.reduceEqDiff, Nat.reduceAdd, Nat.reduceMul, Nat.reduceLeDiff, Nat.zero_add, Nat.add_zero, Option.map_some, Int.reduceEq, Int.reduceLT, Int.reduceLE, Bool.false_eq_true, decide_true, decide_false, ge_iff_le, gt_iff_lt, set_get', k0, hgB, Fn.cells, hcv, z0]; rfl) ?_))
    refine Wo_must h38 false hmB (by simp only [upd, dstUpd, reduceIte, Nat.reduceEqDiff, ev, k0, ptr]) (by simp only [upd, dstUpd, reduceIte, Nat.reduceEqDiff, ev]) (fun h => by cases h) (fun _ => ?_)
    refine badE _ _ i 0 hkAB ?_
    have : headF f = false := by simp only [headF, decide_eq_false_iff_not]; omega
    rw [hst, if_neg (by rw [this]; exact Bool.false_ne_true)]
  have w0 : decide (0 ≤ f.params) = true := by simp only [decide_eq_true_eq]; omega
  by_cases v1 : f.params ≤ f.regs
  case neg =>
    have z1 : decide (f.params ≤ f.regs) = false := by simp only [decide_eq_false_iff_not]; omega
    refine Wc_seq (Wc_ops (Wo_pre 28 (fun call => by simp only [List.take_succ_cons, List.take_zero, List.drop_succ_cons, List.drop_zero, iops_nil, iops_op, iops_grd, iK_some, iG_true, iG_false, gval_bool, beq_true, beq_false, Bool.not_true, Bool.not_false, iop, ev, upd, dstUpd, binV, binI, unV, ptr, Heap.cell, Heap.write, cellsOf, put, args0, partL, List.getD_cons_zero, List.getD_cons_succ, List.length_cons, List.length_nil, List.set_cons_zero, List.set_cons_succ, List.getElem?_cons_zero, List.getElem?_cons_succ, reduceIte, Nat.reduceEqDiff, Nat.reduceAdd, Nat.reduceMul, Nat.reduceLeDiff, Nat.zero_add, Nat.add_zero, Option.map_some, Int.reduceEq, Int.reduceLT, Int.reduceLE, Bool.false_eq_true, decide_true, decide_false, ge_iff_le, gt_iff_lt, set_get', k0, hgB, Fn.cells, hcv, z1, w0]; rfl) ?_))
    refine Wo_must h38 false hmB (by simp only [upd, dstUpd, reduceIte, Nat.reduceEqDiff, ev, k0, ptr]) (by simp only [upd, dstUpd, reduceIte, Nat.reduceEqDiff, ev]) (fun h => by cases h) (fun _ => ?_)
    refine badE _ _ i 0 hkAB ?_
    have : headF f = false := by simp only [headF, decide_eq_false_iff_not]; omega
    rw [hst, if_neg (by rw [this]; exact Bool.false_ne_true)]
  have w1 : decide (f.params ≤ f.regs) = true := by simp only [decide_eq_true_eq]; omega
  by_cases v2 : f.regs ≤ 1000
  case neg =>
    have z2 : decide (f.regs ≤ 1000) = false := by simp only [decide_eq_false_iff_not]; omega
    refine Wc_seq (Wc_ops (Wo_pre 28 (fun call => by simp only [List.take_succ_cons, List.take_zero, List.drop_succ_cons, List.drop_zero, iops_nil, iops_op, iops_grd, iK_some, iG_true, iG_false, gval_bool, beq_true, beq_false, Bool.not_true, Bool.not_false, iop, ev, upd, dstUpd, binV, binI, unV, ptr, Heap.cell, Heap.write, cellsOf, put, args0, partL, List.getD_cons_zero, List.getD_cons_succ, List.length_cons, List.length_nil, List.set_cons_zero, List.set_cons_succ, List.getElem?_cons_zero, List.getElem?_cons_succ, reduceIte, Nat.reduceEqDiff, Nat.reduceAdd, Nat.reduceMul, Nat.reduceLeDiff, Nat.zero_add, Nat.add_zero, Option.map_some, Int.reduceEq, Int.reduceLT, Int.reduceLE, Bool.false_eq_true, decide_true, decide_false, ge_iff_le, gt_iff_lt, set_get', k0, hgB, Fn.cells, hcv, z2, w0, w1]; rfl) ?_))
    refine Wo_must h38 false hmB (by simp only [upd, dstUpd, reduceIte, Nat.reduceEqDiff, ev, k0, ptr]) (by simp only [upd, dstUpd, reduceIte, Nat.reduceEqDiff, ev]) (fun h => by cases h) (fun _ => ?_)
    refine badE _ _ i 0 hkAB ?_
    have : headF f = false := by simp only [headF, decide_eq_false_iff_not]; omega
    rw [hst, if_neg (by rw [this]; exact Bool.false_ne_true)]
  have w2 : decide (f.regs ≤ 1000) = true := by simp only [decide_eq_true_eq]; omega
  by_cases v3 : 0 < f.code.length
  case neg =>
    have z3 : decide ((0 : Int) < (f.code.length : Int)) = false := by simp only [decide_eq_false_iff_not]; omega
    refine Wc_seq (Wc_ops (Wo_pre 28 (fun call => by simp only [List.take_succ_cons, List.take_zero, List.drop_succ_cons, List.drop_zero, iops_nil, iops_op, iops_grd, iK_some, iG_true, iG_false, gval_bool, beq_true, beq_false, Bool.not_true, Bool.not_false, iop, ev, upd, dstUpd, binV, binI, unV, ptr, Heap.cell, Heap.write, cellsOf, put, args0, partL, List.getD_cons_zero, List.getD_cons_succ, List.length_cons, List.length_nil, List.set_cons_zero, List.set_cons_succ, List.getElem?_cons_zero, List.getElem?_cons_succ, reduceIte, Nat.reduceEqDiff, Nat.reduceAdd, Nat.reduceMul, Nat.reduceLeDiff, Nat.zero_add, Nat.add_zero, Option.map_some, Int.reduceEq, Int.reduceLT, Int.reduceLE, Bool.false_eq_true, decide_true, decide_false, ge_iff_le, gt_iff_lt, set_get', k0, hgB, Fn.cells, hcv, z3, w0, w1, w2]; rfl) ?_))
    refine Wo_must h38 false hmB (by simp only [upd, dstUpd, reduceIte, Nat.reduceEqDiff, ev, k0, ptr]) (by simp only [upd, dstUpd, reduceIte, Nat.reduceEqDiff, ev]) (fun h => by cases h) (fun _ => ?_)
    refine badE _ _ i 0 hkAB ?_
    have : headF f = false := by simp only [headF, decide_eq_false_iff_not]; omega
    rw [hst, if_neg (by rw [this]; exact Bool.false_ne_true)]
  have w3 : decide ((0 : Int) < (f.code.length : Int)) = true := by simp only [decide_eq_true_eq]; omega
  by_cases v4 : f.code.length ≤ 100000
  case neg =>
    have z4 : decide ((f.code.length : Int) ≤ 100000) = false := by simp only [decide_eq_false_iff_not]; omega
    refine Wc_seq (Wc_ops (Wo_pre 28 (fun call => by simp only [List.take_succ_cons, List.take_zero, List.drop_succ_cons, List.drop_zero, iops_nil, iops_op, iops_grd, iK_some, iG_true, iG_false, gval_bool, beq_true, beq_false, Bool.not_true, Bool.not_false, iop, ev, upd, dstUpd, binV, binI, unV, ptr, Heap.cell, Heap.write, cellsOf, put, args0, partL, List.getD_cons_zero, List.getD_cons_succ, List.length_cons, List.length_nil, List.set_cons_zero, List.set_cons_succ, List.getElem?_cons_zero, List.getElem?_cons_succ, reduceIte, Nat.reduceEqDiff, Nat.reduceAdd, Nat.reduceMul, Nat.reduceLeDiff, Nat.zero_add, Nat.add_zero, Option.map_some, Int.reduceEq, Int.reduceLT, Int.reduceLE, Bool.false_eq_true, decide_true, decide_false, ge_iff_le, gt_iff_lt, set_get', k0, hgB, Fn.cells, hcv, z4, w0, w1, w2, w3]; rfl) ?_))
    refine Wo_must h38 false hmB (by simp only [upd, dstUpd, reduceIte, Nat.reduceEqDiff, ev, k0, ptr]) (by simp only [upd, dstUpd, reduceIte, Nat.reduceEqDiff, ev]) (fun h => by cases h) (fun _ => ?_)
    refine badE _ _ i 0 hkAB ?_
    have : headF f = false := by simp only [headF, decide_eq_false_iff_not]; omega
    rw [hst, if_neg (by rw [this]; exact Bool.false_ne_true)]
  have w4 : decide ((f.code.length : Int) ≤ 100000) = true := by simp only [decide_eq_true_eq]; omega
  have hhf : headF f = true := by simp only [headF, decide_eq_true_eq]; omega
  rw [if_pos hhf] at hst
  refine Wc_seq (Wc_ops (Wo_pre 28 (fun call => by simp only [List.take_succ_cons, List.take_zero, List.drop_succ_cons, List.drop_zero, iops_nil, iops_op, iops_grd, iK_some, iG_true, iG_false, gval_bool, beq_true, beq_false, Bool.not_true, Bool.not_false, iop, ev, upd, dstUpd, binV, binI, unV, ptr, Heap.cell, Heap.write, cellsOf, put, args0, partL, List.getD_cons_zero, List.getD_cons_succ, List.length_cons, List.length_nil, List.set_cons_zero, List.set_cons_succ, List.getElem?_cons_zero, List.getElem?_cons_succ, reduceIte, Nat.reduceEqDiff, Nat.reduceAdd, Nat.reduceMul, Nat.reduceLeDiff, Nat.zero_add, Nat.add_zero, Option.map_some, Int.reduceEq, Int.reduceLT, Int.reduceLE, Bool.false_eq_true, decide_true, decide_false, ge_iff_le, gt_iff_lt, set_get', k0, hgB, Fn.cells, hcv, w0, w1, w2, w3, w4]; rfl) ?_))
  refine Wo_must h38 true hmB (by simp only [upd, dstUpd, reduceIte, Nat.reduceEqDiff, ev, k0, ptr]) (by simp only [upd, dstUpd, reduceIte, Nat.reduceEqDiff, ev]) (fun _ => Wo_nil ?_) (fun h => by cases h)
  show Wc T _ _ _
  refine Wc_seq (Wc_ops (Wo_run (fun call => by simp only [List.drop_succ_cons, List.drop_zero, iops_nil, iops_op, iops_grd, iK_some, iG_true, iG_false, gval_bool, beq_true, beq_false, Bool.not_true, Bool.not_false, iop, ev, upd, dstUpd, binV, binI, unV, ptr, Heap.cell, Heap.write, cellsOf, put, args0, partL, List.getD_cons_zero, List.getD_cons_succ, List.length_cons, List.length_nil, List.set_cons_zero, List.set_cons_succ, List.getElem?_cons_zero, List.getElem?_cons_succ, reduceIte, Nat.reduceEqDiff, Nat.reduceAdd, Nat.reduceMul, Nat.reduceLeDiff, Nat.zero_add, Nat.add_zero, Option.map_some, Int.reduceEq, Int.reduceLT, Int.reduceLE, Bool.false_eq_true, decide_true, decide_false, ge_iff_le, gt_iff_lt, set_get', hgB, Fn.cells, hcv]; rfl) ?_))
  show Wc T _ _ _
  refine Wc_block (code22 h39 hc hf0 hk0B hbm hmb hne (n := i) (a0 := 0) (seen := sn) (b4 := hp.next) ⟨hmB, hpB', hne, by have := hMi.bm; omega, by have := hMi.mb; omega⟩ (by omega) (by have := hMi.bm; omega) (by have := hMi.mb; omega) hgB (by simp [upd, dstUpd, k0]) (by simp [upd, dstUpd, ptr]) (by simp [upd, dstUpd, hcv]) (by simp [upd, dstUpd]) (by simp [upd, dstUpd]) ?_ ?_)
  · intro seen' hC e' hq a' hfr hkq hMq
    show Wc T _ _ _
    have f48 : e' 48 = .int .i64 i := by rw [hfr 48 (by omega) (by omega) (by omega)]; simp only [upd, dstUpd, Nat.reduceEqDiff, reduceIte]; exact k48
    refine Wc_ops (Wo_run (fun call => by simp only [List.drop_succ_cons, List.drop_zero, iops_nil, iops_op, iops_grd, iK_some, iG_true, iG_false, gval_bool, beq_true, beq_false, Bool.not_true, Bool.not_false, iop, ev, upd, dstUpd, binV, binI, unV, ptr, Heap.cell, Heap.write, cellsOf, put, args0, partL, List.getD_cons_zero, List.getD_cons_succ, List.length_cons, List.length_nil, List.set_cons_zero, List.set_cons_succ, List.getElem?_cons_zero, List.getElem?_cons_succ, reduceIte, Nat.reduceEqDiff, Nat.reduceAdd, Nat.reduceMul, Nat.reduceLeDiff, Nat.zero_add, Nat.add_zero, Option.map_some, Int.reduceEq, Int.reduceLT, Int.reduceLE, Bool.false_eq_true, decide_true, decide_false, ge_iff_le, gt_iff_lt, set_get', f48, e1']; rfl) ?_)
    rw [hC] at hst
    refine ⟨⟨rfl, hkAB.trans hkq, ?_, ?_, ?_, i + 1, i, a', seen', by omega, ?_, hMq, hst⟩, ?_⟩
    · simp only [upd, dstUpd, Nat.reduceEqDiff, reduceIte]; rw [hfr 0 (by omega) (by omega) (by omega)]; simp only [upd, dstUpd, Nat.reduceEqDiff, reduceIte]; exact k0
    · simp only [upd, dstUpd, Nat.reduceEqDiff, reduceIte]; rw [hfr 46 (by omega) (by omega) (by omega)]; simp only [upd, dstUpd, Nat.reduceEqDiff, reduceIte]; exact k46
    · simp only [upd, dstUpd, Nat.reduceEqDiff, reduceIte]; rw [hfr 47 (by omega) (by omega) (by omega)]; simp only [upd, dstUpd, Nat.reduceEqDiff, reduceIte]; exact k47
    · simp only [upd, dstUpd, Nat.reduceEqDiff, reduceIte]
    · simp only [upd, dstUpd, Nat.reduceEqDiff, reduceIte, f48]
      have : e 48 = .int .i64 i := k48
      show ((c.funcs.length : Int) - ((i + 1 : Nat) : Int)).toNat < (match e 48 with | .int _ i => ((c.funcs.length : Int) - i).toNat | _ => 0)
      rw [this]
      show ((c.funcs.length : Int) - ((i + 1 : Nat) : Int)).toNat < ((c.funcs.length : Int) - (i : Int)).toNat
      omega
  · intro k hC e' hq hkq
    rw [hC] at hst
    exact badE e' hq i k (hkAB.trans hkq) hst

end Go.Idl
end

section
/- ir.Check: the checker's end, whether it panics or not. -/
namespace Go.Idl
set_option linter.unusedVariables false
set_option linter.unusedSimpArgs false
set_option maxRecDepth 100000

/-- A cell with a number. -/
abbrev iCell (n : Int) : Blk := .cells [.int .i64 n] true 0

theorem defer21_none {T : Tbl} {args : List Value} {h : Heap} {Q : Ex → Option Value → St → Prop} (k : ∀ e, Q .normal none ⟨e, h, some []⟩) : WcD T C21.code none ⟨args0 args, h, some []⟩ Q := by
  simp only [C21]
  refine WcD_seq (WcD_rec rfl rfl ?_)
  show WcD T _ _ _ _
  refine WcD_seq (WcD_ops rfl (Wc_ops (Wo_run (fun call => by simp only [List.drop_succ_cons, List.drop_zero, iops_nil, iops_op, iops_grd, iK_some, iG_true, iG_false, gval_bool, beq_true, beq_false, Bool.not_true, Bool.not_false, iop, ev, upd, dstUpd, binV, binI, unV, ptr, Heap.cell, Heap.write, cellsOf, put, args0, partL, List.getD_cons_zero, List.getD_cons_succ, List.length_cons, List.length_nil, List.set_cons_zero, List.set_cons_succ, List.getElem?_cons_zero, List.getElem?_cons_succ, reduceIte, Nat.reduceEqDiff, Nat.reduceAdd, Nat.reduceMul, Nat.reduceLeDiff, Nat.zero_add, Nat.add_zero, Option.map_some, Int.reduceEq, Int.reduceLT, Int.reduceLE, Bool.false_eq_true, decide_true, decide_false, ge_iff_le, gt_iff_lt, set_get']; rfl) ?_)))
  show WcD T _ _ _ _
  refine WcD_cond false (by simp [ev, upd, dstUpd]) (fun h => by cases h) (fun _ => WcD_skip (k _))

theorem defer21_some {T : Tbl} {h : Heap} {n k a b c : Nat} {x y z : Value} {Q : Ex → Option Value → St → Prop} (ha : h.get a = some (.cells [x] true 0)) (hb : h.get b = some (.cells [y] true 0)) (hc : h.get c = some (.cells [z] true 0)) (hab : a ≠ b) (hac : a ≠ c) (hbc : b ≠ c) (la : a < h.next) (lb : b < h.next) (lc : c < h.next)
    (q : ∀ e h', KB h.next h.next h h' ∨ True → (∀ d, d < h.next → d ≠ a → d ≠ b → d ≠ c → h'.get d = h.get d) → h.next ≤ h'.next → h'.get a = some (iCell n) → h'.get b = some (iCell k) → h'.get c = some (iCell 100) → Q .normal none ⟨e, h', some []⟩) :
    WcD T C21.code (some (wrongV n k)) ⟨args0 [ptr a 0, ptr b 0, ptr c 0], h, some []⟩ Q := by
  simp only [C21]
  refine WcD_seq (WcD_rec rfl rfl ?_)
  show WcD T _ _ _ _
  refine WcD_seq (WcD_ops rfl (Wc_ops (Wo_run (fun call => by simp only [List.drop_succ_cons, List.drop_zero, iops_nil, iops_op, iops_grd, iK_some, iG_true, iG_false, gval_bool, beq_true, beq_false, Bool.not_true, Bool.not_false, iop, ev, upd, dstUpd, binV, binI, unV, ptr, Heap.cell, Heap.write, cellsOf, put, args0, partL, List.getD_cons_zero, List.getD_cons_succ, List.length_cons, List.length_nil, List.set_cons_zero, List.set_cons_succ, List.getElem?_cons_zero, List.getElem?_cons_succ, reduceIte, Nat.reduceEqDiff, Nat.reduceAdd, Nat.reduceMul, Nat.reduceLeDiff, Nat.zero_add, Nat.add_zero, Option.map_some, Int.reduceEq, Int.reduceLT, Int.reduceLE, Bool.false_eq_true, decide_true, decide_false, ge_iff_le, gt_iff_lt, set_get', wrongV]; rfl) ?_)))
  show WcD T _ _ _ _
  refine WcD_cond true (by simp [ev, upd, dstUpd]) (fun _ => ?_) (fun h => by cases h)
  refine WcD_seq (WcD_ops rfl (Wc_ops (Wo_pre 6 (fun call => by simp only [List.take_succ_cons, List.take_zero, List.drop_succ_cons, List.drop_zero, iops_nil, iops_op, iops_grd, iK_some, iG_true, iG_false, gval_bool, beq_true, beq_false, Bool.not_true, Bool.not_false, iop, ev, upd, dstUpd, binV, binI, unV, ptr, Heap.cell, Heap.write, cellsOf, put, args0, partL, List.getD_cons_zero, List.getD_cons_succ, List.length_cons, List.length_nil, List.set_cons_zero, List.set_cons_succ, List.getElem?_cons_zero, List.getElem?_cons_succ, reduceIte, Nat.reduceEqDiff, Nat.reduceAdd, Nat.reduceMul, Nat.reduceLeDiff, Nat.zero_add, Nat.add_zero, Option.map_some, Int.reduceEq, Int.reduceLT, Int.reduceLE, Bool.false_eq_true, decide_true, decide_false, ge_iff_le, gt_iff_lt, set_get']; rfl) ?_)))
  refine Wo_op (iop_store (b := h.next) (esz := 0) (cs := [.int .i64 n, .int .i64 k]) (z := [.int .i64 0, .int .i64 0]) (by simp only [upd, dstUpd, reduceIte, Nat.reduceEqDiff, ptr]) (by simp only [upd, dstUpd, reduceIte, Nat.reduceEqDiff]) rfl (new_get' _ _) rfl) ?_
  have hg0 : ∀ d, d < h.next → ((h.new (.cells [.int .i64 0, .int .i64 0] true 0)).set h.next (.cells [.int .i64 n, .int .i64 k] true 0)).get d = h.get d := by
    intro d hd
    rw [set_get_ne' _ _ (by omega), new_get_ne' _ _ (by omega)]
  have hn0 : ((h.new (.cells [.int .i64 0, .int .i64 0] true 0)).set h.next (.cells [.int .i64 n, .int .i64 k] true 0)).next = h.next + 1 := rfl
  have hgm : ((h.new (.cells [.int .i64 0, .int .i64 0] true 0)).set h.next (.cells [.int .i64 n, .int .i64 k] true 0)).get h.next = some (.cells [.int .i64 n, .int .i64 k] true 0) := set_get' _ _ _
  generalize (h.new (.cells [.int .i64 0, .int .i64 0] true 0)).set h.next (.cells [.int .i64 n, .int .i64 k] true 0) = h1 at hg0 hn0 hgm ⊢
  refine (Wo_run (fun call => by simp only [List.drop_succ_cons, List.drop_zero, iops_nil, iops_op, iops_grd, iK_some, iG_true, iG_false, gval_bool, beq_true, beq_false, Bool.not_true, Bool.not_false, iop, ev, upd, dstUpd, binV, binI, unV, ptr, Heap.cell, Heap.write, cellsOf, put, args0, partL, List.getD_cons_zero, List.getD_cons_succ, List.length_cons, List.length_nil, List.set_cons_zero, List.set_cons_succ, List.getElem?_cons_zero, List.getElem?_cons_succ, reduceIte, Nat.reduceEqDiff, Nat.reduceAdd, Nat.reduceMul, Nat.reduceLeDiff, Nat.zero_add, Nat.add_zero, Option.map_some, Int.reduceEq, Int.reduceLT, Int.reduceLE, Bool.false_eq_true, decide_true, decide_false, ge_iff_le, gt_iff_lt, set_get']; rfl) ?_)
  show WcD T _ _ _ _
  refine WcD_seq (WcD_seq (WcD_ops rfl (Wc_ops (Wo_run (fun call => by simp only [List.drop_succ_cons, List.drop_zero, iops_nil, iops_op, iops_grd, iK_some, iG_true, iG_false, gval_bool, beq_true, beq_false, Bool.not_true, Bool.not_false, iop, ev, upd, dstUpd, binV, binI, unV, ptr, Heap.cell, Heap.write, cellsOf, put, args0, partL, List.getD_cons_zero, List.getD_cons_succ, List.length_cons, List.length_nil, List.set_cons_zero, List.set_cons_succ, List.getElem?_cons_zero, List.getElem?_cons_succ, reduceIte, Nat.reduceEqDiff, Nat.reduceAdd, Nat.reduceMul, Nat.reduceLeDiff, Nat.zero_add, Nat.add_zero, Option.map_some, Int.reduceEq, Int.reduceLT, Int.reduceLE, Bool.false_eq_true, decide_true, decide_false, ge_iff_le, gt_iff_lt, set_get']; rfl) ?_))))
  show WcD T _ _ _ _
  refine WcD_cond false (by simp [ev, upd, dstUpd]) (fun h => by cases h) (fun _ => WcD_skip ?_)
  show WcD T _ _ _ _
  refine WcD_draw (Wc_draw ?_)
  refine Wd_P rfl (by simp only [iop, ev, upd, dstUpd, ptr, Nat.reduceEqDiff, reduceIte]; rfl) ?_
  refine Wd_R rfl (v := .int .i64 n) (h' := h1) (by simp only [iop, ev, upd, dstUpd, ptr, Nat.reduceEqDiff, reduceIte, Heap.cell, hgm]; rfl) (by intro p hp; cases hp) ?_
  refine Wd_P rfl (by simp only [iop, ev, upd, dstUpd, ptr, Nat.reduceEqDiff, reduceIte]; rfl) ?_
  refine Wd_R rfl (v := .int .i64 k) (h' := h1) (by simp only [iop, ev, upd, dstUpd, ptr, Nat.reduceEqDiff, reduceIte, Heap.cell, hgm]; rfl) (by intro p hp; cases hp) ?_
  have hL1 : ∀ e : Env, e 17 = ptr h.next 0 → locOp (.load none (.t 17)) e = .cells h.next 0 1 := fun e he => by simp only [locOp, ev, he, ptr]
  have hL2 : ∀ e : Env, e 19 = ptr h.next 1 → locOp (.load none (.t 19)) e = .cells h.next 1 1 := fun e he => by simp only [locOp, ev, he, ptr]
  rw [hL1 _ (by simp only [upd, dstUpd, reduceIte, Nat.reduceEqDiff, ptr]), hL2 _ (by simp only [upd, dstUpd, reduceIte, Nat.reduceEqDiff, ptr])]
  have side : ∀ (hh : Heap) (d i : Nat) (bk : Blk), d < h.next → ∀ p ∈ [(3, Loc.cells h.next 1 1), (1, Loc.cells h.next 0 1)], p.1 ∈ ([[], [0], [], [2], [1, 0], [4, 1, 0, 3, 2], [5, 4, 1, 0, 3, 2]] : List (List Nat)).getD i [] ∨ sameAt hh (hh.set d bk) p.2 := by
    intro hh d i bk hd p hp
    rcases List.mem_cons.1 hp with rfl | hp
    · exact .inr (sameAt_cells (by omega))
    · rw [List.mem_singleton] at hp; subst hp; exact .inr (sameAt_cells (by omega))
  refine Wd_E rfl (iop_store1 (b := a) (esz := 0) (v := .int .i64 n) (x := x) (by simp only [upd, dstUpd, reduceIte, Nat.reduceEqDiff, args0]; rfl) (by simp only [upd, dstUpd, reduceIte, Nat.reduceEqDiff, ev, cellsOf]) (by rw [hg0 _ la]; exact ha)) (side _ _ 4 _ la) ?_
  refine Wd_E rfl (iop_store1 (b := b) (esz := 0) (v := .int .i64 k) (x := y) (by simp only [upd, dstUpd, reduceIte, Nat.reduceEqDiff, args0]; rfl) (by simp only [upd, dstUpd, reduceIte, Nat.reduceEqDiff, ev, cellsOf]) (by rw [set_get_ne' _ _ hab.symm, hg0 _ lb]; exact hb)) (side _ _ 5 _ lb) ?_
  refine Wd_E rfl (iop_store1 (b := c) (esz := 0) (v := .int .i64 100) (x := z) (by simp only [upd, dstUpd, reduceIte, Nat.reduceEqDiff, args0]; rfl) (by simp only [upd, dstUpd, reduceIte, Nat.reduceEqDiff, ev, cellsOf]) (by rw [set_get_ne' _ _ hbc.symm, set_get_ne' _ _ hac.symm, hg0 _ lc]; exact hc)) (side _ _ 6 _ lc) ?_
  refine Wd_nil (q _ _ (.inr trivial) ?_ ?_ ?_ ?_ ?_)
  · intro d hd h1' h2' h3'
    rw [set_get_ne' _ _ h3', set_get_ne' _ _ h2', set_get_ne' _ _ h1', hg0 d hd]
  · show h.next ≤ h1.next; omega
  · rw [set_get_ne' _ _ hac, set_get_ne' _ _ hab, set_get']
  · rw [set_get_ne' _ _ hbc, set_get']
  · rw [set_get']

def resC : Res → Value
  | .ok _ => .tuple #[.int .i64 0, .int .i64 0, .int .i64 0]
  | .bad n k => .tuple #[.int .i64 n, .int .i64 k, .int .i64 100]

theorem check9 {T : Tbl} (hT : T.fn 9 = some C9) (h21 : T.fn 21 = some C21) (h22 : T.fn 22 = some C22) (h38 : T.fn 38 = some C38) {c : Cod} (h39 : InsK39 T c) {h : Heap} (hc : c.Ok h) : Wk T (.fn 9) [.agg c.cells.toArray] h (fun o h' => Kept h h' ∧ o = .ret (resC (chk c))) := by
  refine Wk_fnL hT (by simp [C9]) ?_
  simp only [C9]
  have hbx : iop (.box (.t 0)) (args0 [.agg c.cells.toArray]) h = some (ptr h.next 0, h.new (.cells c.cells true 0)) := by simp [iop, ev, args0, cellsOf]
  refine Wc_seq (Wc_ops (Wo_op hbx (Wo_run (fun call => by simp only [List.drop_succ_cons, List.drop_zero, iops_nil, iops_op, iops_grd, iK_some, iG_true, iG_false, gval_bool, beq_true, beq_false, Bool.not_true, Bool.not_false, iop, ev, upd, dstUpd, binV, binI, unV, ptr, Heap.cell, Heap.write, cellsOf, put, args0, partL, List.getD_cons_zero, List.getD_cons_succ, List.length_cons, List.length_nil, List.set_cons_zero, List.set_cons_succ, List.getElem?_cons_zero, List.getElem?_cons_succ, reduceIte, Nat.reduceEqDiff, Nat.reduceAdd, Nat.reduceMul, Nat.reduceLeDiff, Nat.zero_add, Nat.add_zero, Option.map_some, Int.reduceEq, Int.reduceLT, Int.reduceLE, Bool.false_eq_true, decide_true, decide_false, ge_iff_le, gt_iff_lt, set_get']; rfl) ?_)))
  show Wc T _ _ _
  have hk : Kept h ((((h.new (.cells c.cells true 0)).new (iCell 0)).new (iCell 0)).new (iCell 0)) := (((((Kept.refl h).new _).new _).new _).new _)
  have hn : ((((h.new (.cells c.cells true 0)).new (iCell 0)).new (iCell 0)).new (iCell 0)).next = h.next + 4 := rfl
  have hg : ((((h.new (.cells c.cells true 0)).new (iCell 0)).new (iCell 0)).new (iCell 0)).get h.next = some (.cells c.cells true 0) := by
    rw [new_get_ne' _ _ (by simp only [new_next]; omega), new_get_ne' _ _ (by simp only [new_next]; omega), new_get_ne' _ _ (by simp only [new_next]; omega), new_get']
  have hg1 : ((((h.new (.cells c.cells true 0)).new (iCell 0)).new (iCell 0)).new (iCell 0)).get (h.next + 1) = some (iCell 0) := by
    rw [new_get_ne' _ _ (by simp only [new_next]; omega), new_get_ne' _ _ (by simp only [new_next]; omega)]; exact new_get' _ _
  have hg2 : ((((h.new (.cells c.cells true 0)).new (iCell 0)).new (iCell 0)).new (iCell 0)).get (h.next + 2) = some (iCell 0) := by
    rw [new_get_ne' _ _ (by simp only [new_next]; omega)]; exact new_get' _ _
  have hg3 : ((((h.new (.cells c.cells true 0)).new (iCell 0)).new (iCell 0)).new (iCell 0)).get (h.next + 3) = some (iCell 0) := new_get' _ _
  generalize hh1 : (((h.new (.cells c.cells true 0)).new (iCell 0)).new (iCell 0)).new (iCell 0) = h1 at hk hn hg hg1 hg2 hg3 ⊢
  refine Wc_seq (Wc_ops (Wo_op rfl (Wo_defer (f := 21) (vs := [ptr (h.next + 1) 0, ptr (h.next + 2) 0, ptr (h.next + 3) 0]) (by simp only [ev, upd, dstUpd, reduceIte]; rfl) (Wo_nil ?_))))
  show Wc T _ _ _
  refine Wc_seq (Wc_ops (Wo_op (iop_load (b := h.next) (o := 0) (cs := c.cells) (by simp only [upd, dstUpd, reduceIte, Nat.reduceEqDiff, ptr]) (cells_all hg rfl)) (Wo_op (h' := h1.new (.map (.one (.int .i64)) [])) (v := .map (some h1.next)) rfl (Wo_op (v := .agg (mCells c 0 0 h1.next).toArray) (h' := h1.new (.map (.one (.int .i64)) [])) (by simp only [iop, ev, upd, dstUpd, Nat.reduceEqDiff, reduceIte, evps, List.map, fillL, cellsOf]; rfl) (Wo_op (v := ptr (h1.next + 1) 0) (h' := (h1.new (.map (.one (.int .i64)) [])).new (.cells (mCells c 0 0 h1.next) true 0)) (by simp only [iop, ev, upd, dstUpd, Nat.reduceEqDiff, reduceIte, cellsOf]; rfl) (Wo_run (fun call => by simp only [List.drop_succ_cons, List.drop_zero, iops_nil, iops_op, iops_grd, iK_some, iG_true, iG_false, gval_bool, beq_true, beq_false, Bool.not_true, Bool.not_false, iop, ev, upd, dstUpd, binV, binI, unV, ptr, Heap.cell, Heap.write, cellsOf, put, args0, partL, List.getD_cons_zero, List.getD_cons_succ, List.length_cons, List.length_nil, List.set_cons_zero, List.set_cons_succ, List.getElem?_cons_zero, List.getElem?_cons_succ, reduceIte, Nat.reduceEqDiff, Nat.reduceAdd, Nat.reduceMul, Nat.reduceLeDiff, Nat.zero_add, Nat.add_zero, Option.map_some, Int.reduceEq, Int.reduceLT, Int.reduceLE, Bool.false_eq_true, decide_true, decide_false, ge_iff_le, gt_iff_lt, set_get']; rfl) ?_))))))
  show Wc T _ _ _
  have hk2 : Kept h1 ((h1.new (.map (.one (.int .i64)) [])).new (.cells (mCells c 0 0 h1.next) true 0)) := ((Kept.refl h1).new _).new _
  have hn2 : ((h1.new (.map (.one (.int .i64)) [])).new (.cells (mCells c 0 0 h1.next) true 0)).next = h1.next + 2 := rfl
  have hM : Mach ((h1.new (.map (.one (.int .i64)) [])).new (.cells (mCells c 0 0 h1.next) true 0)) c 0 0 (h1.next + 1) h1.next [] :=
    ⟨new_get' _ _, by rw [new_get_ne' _ _ (by simp only [new_next]; omega)]; exact new_get' _ _, by omega, by simp only [new_next]; omega, by simp only [new_next]; omega⟩
  generalize (h1.new (.map (.one (.int .i64)) [])).new (.cells (mCells c 0 0 h1.next) true 0) = h2 at hk2 hn2 hM ⊢
  refine Wc_seq (Wc_ops (Wo_pre 1 (fun call => by simp only [List.take_succ_cons, List.take_zero, iops_nil, iops_op, iK_some, iop, ev, upd, dstUpd, Nat.reduceEqDiff, reduceIte]; rfl) (Wo_call ?_)))
  show Wk T (.fn 22) [ptr (h1.next + 1) 0] h2 _
  refine (all22 h22 h38 h39 hc (hk.trans hk2) (by omega) (by omega) hM).mono fun o h3 ⟨hkb, hres⟩ => ?_
  have o1 : h3.get (h.next + 1) = some (iCell 0) := by rw [hkb.get _ (by omega) (by omega) (by omega), hk2.get _ (by omega)]; exact hg1
  have o2 : h3.get (h.next + 2) = some (iCell 0) := by rw [hkb.get _ (by omega) (by omega) (by omega), hk2.get _ (by omega)]; exact hg2
  have o3 : h3.get (h.next + 3) = some (iCell 0) := by rw [hkb.get _ (by omega) (by omega) (by omega), hk2.get _ (by omega)]; exact hg3
  have hk3 : Kept h h3 := hkb.kept (hk.trans hk2) (by omega) (by omega)
  have hn3 := hkb.next
  cases hch : chk c with
  | ok sn =>
    rw [hch] at hres
    simp only at hres
    subst hres
    show Wo T _ _ _
    refine Wo_nil ?_
    show Wc T _ _ _
    refine Wc_seq (Wc_ops (Wo_op (iop_store1 (b := h.next + 1) (esz := 0) (v := .int .i64 0) (x := .int .i64 0) (by simp only [upd, dstUpd, reduceIte, Nat.reduceEqDiff]; rfl) rfl o1) (Wo_op (iop_store1 (b := h.next + 2) (esz := 0) (v := .int .i64 0) (x := .int .i64 0) (by simp only [upd, dstUpd, reduceIte, Nat.reduceEqDiff]; rfl) rfl (by rw [set_get_ne' _ _ (by omega)]; exact o2)) (Wo_op (iop_store1 (b := h.next + 3) (esz := 0) (v := .int .i64 0) (x := .int .i64 0) (by simp only [upd, dstUpd, reduceIte, Nat.reduceEqDiff]; rfl) rfl (by rw [set_get_ne' _ _ (by omega), set_get_ne' _ _ (by omega)]; exact o3)) (Wo_nil ?_)))))
    show Wc T _ _ _
    refine Wc_ret ?_
    show Lv T _ none _ _
    have hk4 : Kept h (((h3.set (h.next + 1) (iCell 0)).set (h.next + 2) (iCell 0)).set (h.next + 3) (iCell 0)) := ((hk3.set (by omega) _).set (by omega) _).set (by omega) _
    have q1 : (((h3.set (h.next + 1) (iCell 0)).set (h.next + 2) (iCell 0)).set (h.next + 3) (iCell 0)).get (h.next + 1) = some (iCell 0) := by rw [set_get_ne' _ _ (by omega), set_get_ne' _ _ (by omega), set_get']
    have q2 : (((h3.set (h.next + 1) (iCell 0)).set (h.next + 2) (iCell 0)).set (h.next + 3) (iCell 0)).get (h.next + 2) = some (iCell 0) := by rw [set_get_ne' _ _ (by omega), set_get']
    have q3 : (((h3.set (h.next + 1) (iCell 0)).set (h.next + 2) (iCell 0)).set (h.next + 3) (iCell 0)).get (h.next + 3) = some (iCell 0) := by rw [set_get']
    generalize ((h3.set (h.next + 1) (iCell 0)).set (h.next + 2) (iCell 0)).set (h.next + 3) (iCell 0) = h4 at hk4 q1 q2 q3 ⊢
    refine Lv_one (g := 21) (args := [ptr (h.next + 1) 0, ptr (h.next + 2) 0, ptr (h.next + 3) 0]) rfl h21 (by simp [C21]) (defer21_none fun e => ?_)
    refine ⟨.inl rfl, rfl, ⟨[], rfl⟩, [.int .i64 0, .int .i64 0, .int .i64 0], ?_, hk4, rfl⟩
    simp only [resAll, resV, upd, dstUpd, Nat.reduceEqDiff, reduceIte, ptr, Heap.cell, new_next, Nat.add_assoc, Nat.reduceAdd, q1, q2, q3]
    rfl
  | bad n k =>
    rw [hch] at hres
    simp only at hres
    subst hres
    show Lv T _ (some _) _ _
    refine Lv_one (g := 21) (args := [ptr (h.next + 1) 0, ptr (h.next + 2) 0, ptr (h.next + 3) 0]) rfl h21 (by simp [C21]) (defer21_some o1 o2 o3 (by omega) (by omega) (by omega) (by show _ < h3.next; omega) (by show _ < h3.next; omega) (by show _ < h3.next; omega) fun e h4 _ hsame hn4 q1 q2 q3 => ?_)
    refine ⟨.inl rfl, rfl, ⟨[], rfl⟩, [.int .i64 n, .int .i64 k, .int .i64 100], ?_, ?_, rfl⟩
    · simp only [resAllP, resVP, resV, upd, dstUpd, Nat.reduceEqDiff, reduceIte, ptr, Heap.cell, new_next, Nat.add_assoc, Nat.reduceAdd, q1, q2, q3]
      rfl
    · exact ⟨by show h.next ≤ h4.next; have := hk3.next; have : h3.next ≤ h4.next := hn4; omega, fun b hb => by rw [hsame b (by show b < h3.next; omega) (by omega) (by omega) (by omega)]; exact hk3.get b hb⟩

end Go.Idl
end

section
/- The reference: has, held, numbers. (Printed by wip/tools/mkp7.py.) -/
namespace Go.Idl
set_option linter.unusedVariables false
set_option linter.unusedSimpArgs false
set_option maxRecDepth 100000

theorem has40 {T : Tbl} (hT : T.fn 40 = some C40) (l : List UInt8) (hl : l.length ≤ 1000) (c : UInt8) (h : Heap) : Wk T (.fn 40) [.string ⟨l.toArray⟩, .int .u8 c.toNat] h (fun o h' => h' = h ∧ o = .ret (.bool (l.contains c))) := by
  refine Wk_fn hT (by simp [C40]) ?_
  simp only [C40]
  refine Wc_seq (Wc_ops (Wo_run (fun call => by simp only [List.drop_succ_cons, List.drop_zero, iops_nil, iops_op, iops_grd, iK_some, iG_true, iG_false, gval_bool, beq_true, beq_false, Bool.not_true, Bool.not_false, iop, ev, upd, dstUpd, binV, binI, unV, ptr, Heap.cell, Heap.write, cellsOf, put, args0, partL, List.getD_cons_zero, List.getD_cons_succ, List.length_cons, List.length_nil, List.set_cons_zero, List.set_cons_succ, List.getElem?_cons_zero, List.getElem?_cons_succ, reduceIte, Nat.reduceEqDiff, Nat.reduceAdd, Nat.reduceMul, Nat.reduceLeDiff, Nat.zero_add, Nat.add_zero, Option.map_some, Int.reduceEq, Int.reduceLT, Int.reduceLE, Bool.false_eq_true, decide_true, decide_false, ge_iff_le, gt_iff_lt, set_get']; rfl) ?_))
  show Wc T _ _ _
  refine Wc_seq (Wc_seq (Wc_ops (Wo_run (fun call => by simp only [List.drop_succ_cons, List.drop_zero, iops_nil, iops_op, iops_grd, iK_some, iG_true, iG_false, gval_bool, beq_true, beq_false, Bool.not_true, Bool.not_false, iop, ev, upd, dstUpd, binV, binI, unV, ptr, Heap.cell, Heap.write, cellsOf, put, args0, partL, List.getD_cons_zero, List.getD_cons_succ, List.length_cons, List.length_nil, List.set_cons_zero, List.set_cons_succ, List.getElem?_cons_zero, List.getElem?_cons_succ, reduceIte, Nat.reduceEqDiff, Nat.reduceAdd, Nat.reduceMul, Nat.reduceLeDiff, Nat.zero_add, Nat.add_zero, Option.map_some, Int.reduceEq, Int.reduceLT, Int.reduceLE, Bool.false_eq_true, decide_true, decide_false, ge_iff_le, gt_iff_lt, set_get']; rfl) ?_)))
  show Wc T _ _ _
  have hsz : (⟨l.toArray⟩ : ByteArray).size = l.length := by simp [ByteArray.size]
  refine Wc_block (Wc_loop (fun s => s.d = some [] ∧ s.h = h ∧ s.e 0 = .string ⟨l.toArray⟩ ∧ s.e 1 = .int .u8 c.toNat ∧ ∃ (k : Nat), k ≤ l.length ∧ s.e 5 = .int .i64 k ∧ c ∉ l.take k)
    (fun s => match s.e 5 with | .int _ k => (l.length - k).toNat | _ => 0) ?_ ?_)
  · exact ⟨rfl, rfl, by simp [upd, dstUpd, args0], by simp [upd, dstUpd, args0], 0, Nat.zero_le _, by simp [upd, dstUpd], by simp⟩
  rintro ⟨e, hp, d⟩ ⟨hd, hh, g0, g1, k, hkl, g5, hn⟩
  simp only at hd hh g0 g1 g5
  subst hd hh
  rw [C40L0]
  refine Wc_seq (Wc_seq (Wc_ops (Wo_run (fun call => by simp only [List.drop_succ_cons, List.drop_zero, iops_nil, iops_op, iops_grd, iK_some, iG_true, iG_false, gval_bool, beq_true, beq_false, Bool.not_true, Bool.not_false, iop, ev, upd, dstUpd, binV, binI, unV, ptr, Heap.cell, Heap.write, cellsOf, put, args0, partL, List.getD_cons_zero, List.getD_cons_succ, List.length_cons, List.length_nil, List.set_cons_zero, List.set_cons_succ, List.getElem?_cons_zero, List.getElem?_cons_succ, reduceIte, Nat.reduceEqDiff, Nat.reduceAdd, Nat.reduceMul, Nat.reduceLeDiff, Nat.zero_add, Nat.add_zero, Option.map_some, Int.reduceEq, Int.reduceLT, Int.reduceLE, Bool.false_eq_true, decide_true, decide_false, ge_iff_le, gt_iff_lt, set_get', g0, g5, hsz]; rfl) ?_)))
  show Wc T _ _ _
  refine Wc_cond (decide ((k : Int) < l.length)) (by simp [ev, upd]) (fun hlt => Wc_skip ?_) (fun hge => Wc_exit ?_)
  case refine_2 =>
    show Wc T _ _ _
    have hkk : k = l.length := by simp at hge; omega
    refine Wc_seq (Wc_ops (Wo_run (fun call => by simp only [List.drop_succ_cons, List.drop_zero, iops_nil, iops_op, iops_grd, iK_some, iG_true, iG_false, gval_bool, beq_true, beq_false, Bool.not_true, Bool.not_false, iop, ev, upd, dstUpd, binV, binI, unV, ptr, Heap.cell, Heap.write, cellsOf, put, args0, partL, List.getD_cons_zero, List.getD_cons_succ, List.length_cons, List.length_nil, List.set_cons_zero, List.set_cons_succ, List.getElem?_cons_zero, List.getElem?_cons_succ, reduceIte, Nat.reduceEqDiff, Nat.reduceAdd, Nat.reduceMul, Nat.reduceLeDiff, Nat.zero_add, Nat.add_zero, Option.map_some, Int.reduceEq, Int.reduceLT, Int.reduceLE, Bool.false_eq_true, decide_true, decide_false, ge_iff_le, gt_iff_lt, set_get']; rfl) ?_))
    refine Wc_ret ⟨.inr rfl, rfl, [.bool false], by simp [resAll, resV, upd, dstUpd], rfl, ?_⟩
    rw [hkk, List.take_length] at hn
    simp [tup, hn]
  show Wc T _ _ _
  have hend : k < l.length := by simpa using hlt
  obtain ⟨x, hx⟩ : ∃ x, l[k]? = some x := ⟨_, List.getElem?_eq_getElem hend⟩
  have hxm := List.mem_of_getElem? hx
  have hix : idxV l.length (.int .i64 k) = some k := idx_ok hend
  have e1' : IntKind.i64.wrap ((k : Int) + 1) = ((k + 1 : Nat) : Int) := by rw [wrap64] <;> omega
  by_cases hxc : x = c
  · subst hxc
    refine Wc_seq (Wc_block (Wc_seq (Wc_ops (Wo_run (fun call => by simp only [List.drop_succ_cons, List.drop_zero, iops_nil, iops_op, iops_grd, iK_some, iG_true, iG_false, gval_bool, beq_true, beq_false, Bool.not_true, Bool.not_false, iop, ev, upd, dstUpd, binV, binI, unV, ptr, Heap.cell, Heap.write, cellsOf, put, args0, partL, List.getD_cons_zero, List.getD_cons_succ, List.length_cons, List.length_nil, List.set_cons_zero, List.set_cons_succ, List.getElem?_cons_zero, List.getElem?_cons_succ, reduceIte, Nat.reduceEqDiff, Nat.reduceAdd, Nat.reduceMul, Nat.reduceLeDiff, Nat.zero_add, Nat.add_zero, Option.map_some, Int.reduceEq, Int.reduceLT, Int.reduceLE, Bool.false_eq_true, decide_true, decide_false, ge_iff_le, gt_iff_lt, set_get', g0, g1, g5, hsz, hix, hx, beq_self_eq_true]; rfl) ?_))))
    show Wc T _ _ _
    refine Wc_cond true (by simp [ev, upd]) (fun _ => ?_) (fun h => by cases h)
    refine Wc_seq (Wc_ops (Wo_run (fun call => by simp only [List.drop_succ_cons, List.drop_zero, iops_nil, iops_op, iops_grd, iK_some, iG_true, iG_false, gval_bool, beq_true, beq_false, Bool.not_true, Bool.not_false, iop, ev, upd, dstUpd, binV, binI, unV, ptr, Heap.cell, Heap.write, cellsOf, put, args0, partL, List.getD_cons_zero, List.getD_cons_succ, List.length_cons, List.length_nil, List.set_cons_zero, List.set_cons_succ, List.getElem?_cons_zero, List.getElem?_cons_succ, reduceIte, Nat.reduceEqDiff, Nat.reduceAdd, Nat.reduceMul, Nat.reduceLeDiff, Nat.zero_add, Nat.add_zero, Option.map_some, Int.reduceEq, Int.reduceLT, Int.reduceLE, Bool.false_eq_true, decide_true, decide_false, ge_iff_le, gt_iff_lt, set_get']; rfl) ?_))
    refine Wc_ret ⟨.inr rfl, rfl, [.bool true], by simp [resAll, resV, upd, dstUpd], rfl, ?_⟩
    simp [tup, hxm]
  · have hne : ((x.toNat : Int) == (c.toNat : Int)) = false := by
      simp only [beq_eq_false_iff_ne, ne_eq]
      intro e
      exact hxc (UInt8.toNat_inj.1 (by omega))
    refine Wc_seq (Wc_block (Wc_seq (Wc_ops (Wo_run (fun call => by simp only [List.drop_succ_cons, List.drop_zero, iops_nil, iops_op, iops_grd, iK_some, iG_true, iG_false, gval_bool, beq_true, beq_false, Bool.not_true, Bool.not_false, iop, ev, upd, dstUpd, binV, binI, unV, ptr, Heap.cell, Heap.write, cellsOf, put, args0, partL, List.getD_cons_zero, List.getD_cons_succ, List.length_cons, List.length_nil, List.set_cons_zero, List.set_cons_succ, List.getElem?_cons_zero, List.getElem?_cons_succ, reduceIte, Nat.reduceEqDiff, Nat.reduceAdd, Nat.reduceMul, Nat.reduceLeDiff, Nat.zero_add, Nat.add_zero, Option.map_some, Int.reduceEq, Int.reduceLT, Int.reduceLE, Bool.false_eq_true, decide_true, decide_false, ge_iff_le, gt_iff_lt, set_get', g0, g1, g5, hsz, hix, hx, hne]; rfl) ?_))))
    show Wc T _ _ _
    refine Wc_cond false (by simp [ev, upd]) (fun h => by cases h) (fun _ => Wc_skip ?_)
    show Wc T _ _ _
    refine Wc_ops (Wo_run (fun call => by simp only [List.drop_succ_cons, List.drop_zero, iops_nil, iops_op, iops_grd, iK_some, iG_true, iG_false, gval_bool, beq_true, beq_false, Bool.not_true, Bool.not_false, iop, ev, upd, dstUpd, binV, binI, unV, ptr, Heap.cell, Heap.write, cellsOf, put, args0, partL, List.getD_cons_zero, List.getD_cons_succ, List.length_cons, List.length_nil, List.set_cons_zero, List.set_cons_succ, List.getElem?_cons_zero, List.getElem?_cons_succ, reduceIte, Nat.reduceEqDiff, Nat.reduceAdd, Nat.reduceMul, Nat.reduceLeDiff, Nat.zero_add, Nat.add_zero, Option.map_some, Int.reduceEq, Int.reduceLT, Int.reduceLE, Bool.false_eq_true, decide_true, decide_false, ge_iff_le, gt_iff_lt, set_get', g5, e1']; rfl) ?_)
    refine ⟨⟨rfl, rfl, by simp [upd, g0], by simp [upd, g1], k + 1, by omega, by simp [upd], ?_⟩, ?_⟩
    · rw [List.take_add_one, hx]
      simp only [Option.toList, List.mem_append, List.mem_singleton, not_or]
      exact ⟨hn, fun e => hxc e.symm⟩
    · simp only [upd, Nat.reduceEqDiff, reduceIte, g5]; omega

theorem held24 {T : Tbl} (hT : T.fn 24 = some C24) {h : Heap} {v : Value} {l : List Int} (hv : intsAt h v l) (hl : l.length < 4611686018427387904) (c : Int) : Wk T (.fn 24) [v, .int .i64 c] h (fun o h' => h' = h ∧ o = .ret (.bool (l.contains c))) := by
  obtain ⟨p1, c1, h1⟩ := hv.len
  refine Wk_fn hT (by simp [C24]) ?_
  simp only [C24]
  refine Wc_seq (Wc_ops (Wo_run (fun call => by simp only [List.drop_succ_cons, List.drop_zero, iops_nil, iops_op, iops_grd, iK_some, iG_true, iG_false, gval_bool, beq_true, beq_false, Bool.not_true, Bool.not_false, iop, ev, upd, dstUpd, binV, binI, unV, ptr, Heap.cell, Heap.write, cellsOf, put, args0, partL, List.getD_cons_zero, List.getD_cons_succ, List.length_cons, List.length_nil, List.set_cons_zero, List.set_cons_succ, List.getElem?_cons_zero, List.getElem?_cons_succ, reduceIte, Nat.reduceEqDiff, Nat.reduceAdd, Nat.reduceMul, Nat.reduceLeDiff, Nat.zero_add, Nat.add_zero, Option.map_some, Int.reduceEq, Int.reduceLT, Int.reduceLE, Bool.false_eq_true, decide_true, decide_false, ge_iff_le, gt_iff_lt, set_get']; rfl) ?_))
  show Wc T _ _ _
  refine Wc_seq (Wc_seq (Wc_ops (Wo_run (fun call => by simp only [List.drop_succ_cons, List.drop_zero, iops_nil, iops_op, iops_grd, iK_some, iG_true, iG_false, gval_bool, beq_true, beq_false, Bool.not_true, Bool.not_false, iop, ev, upd, dstUpd, binV, binI, unV, ptr, Heap.cell, Heap.write, cellsOf, put, args0, partL, List.getD_cons_zero, List.getD_cons_succ, List.length_cons, List.length_nil, List.set_cons_zero, List.set_cons_succ, List.getElem?_cons_zero, List.getElem?_cons_succ, reduceIte, Nat.reduceEqDiff, Nat.reduceAdd, Nat.reduceMul, Nat.reduceLeDiff, Nat.zero_add, Nat.add_zero, Option.map_some, Int.reduceEq, Int.reduceLT, Int.reduceLE, Bool.false_eq_true, decide_true, decide_false, ge_iff_le, gt_iff_lt, set_get', h1]; rfl) ?_)))
  show Wc T _ _ _
  refine Wc_block (Wc_loop (fun s => s.d = some [] ∧ s.h = h ∧ s.e 7 = v ∧ s.e 1 = .int .i64 c ∧ s.e 8 = .int .i64 l.length ∧ ∃ (k : Nat), k ≤ l.length ∧ s.e 9 = .int .i64 k ∧ c ∉ l.take k)
    (fun s => match s.e 9 with | .int _ k => (l.length - k).toNat | _ => 0) ?_ ?_)
  · exact ⟨rfl, rfl, by simp [upd, dstUpd, args0, h1], by simp [upd, dstUpd, args0], by simp [upd, dstUpd], 0, Nat.zero_le _, by simp [upd, dstUpd], by simp⟩
  rintro ⟨e, hp, d⟩ ⟨hd, hh, g7, g1, g8, k, hkl, g9, hn⟩
  simp only at hd hh g7 g1 g8 g9
  subst hd hh
  rw [C24L0]
  refine Wc_seq (Wc_ops (Wo_run (fun call => by simp only [List.drop_succ_cons, List.drop_zero, iops_nil, iops_op, iops_grd, iK_some, iG_true, iG_false, gval_bool, beq_true, beq_false, Bool.not_true, Bool.not_false, iop, ev, upd, dstUpd, binV, binI, unV, ptr, Heap.cell, Heap.write, cellsOf, put, args0, partL, List.getD_cons_zero, List.getD_cons_succ, List.length_cons, List.length_nil, List.set_cons_zero, List.set_cons_succ, List.getElem?_cons_zero, List.getElem?_cons_succ, reduceIte, Nat.reduceEqDiff, Nat.reduceAdd, Nat.reduceMul, Nat.reduceLeDiff, Nat.zero_add, Nat.add_zero, Option.map_some, Int.reduceEq, Int.reduceLT, Int.reduceLE, Bool.false_eq_true, decide_true, decide_false, ge_iff_le, gt_iff_lt, set_get', g8, g9]; rfl) ?_))
  show Wc T _ _ _
  refine Wc_seq (Wc_cond (decide ((k : Int) < l.length)) (by simp [ev, upd]) (fun hlt => Wc_skip ?_) (fun hge => Wc_exit ?_))
  case refine_2 =>
    show Wc T _ _ _
    have hkk : k = l.length := by simp at hge; omega
    refine Wc_seq (Wc_ops (Wo_run (fun call => by simp only [List.drop_succ_cons, List.drop_zero, iops_nil, iops_op, iops_grd, iK_some, iG_true, iG_false, gval_bool, beq_true, beq_false, Bool.not_true, Bool.not_false, iop, ev, upd, dstUpd, binV, binI, unV, ptr, Heap.cell, Heap.write, cellsOf, put, args0, partL, List.getD_cons_zero, List.getD_cons_succ, List.length_cons, List.length_nil, List.set_cons_zero, List.set_cons_succ, List.getElem?_cons_zero, List.getElem?_cons_succ, reduceIte, Nat.reduceEqDiff, Nat.reduceAdd, Nat.reduceMul, Nat.reduceLeDiff, Nat.zero_add, Nat.add_zero, Option.map_some, Int.reduceEq, Int.reduceLT, Int.reduceLE, Bool.false_eq_true, decide_true, decide_false, ge_iff_le, gt_iff_lt, set_get']; rfl) ?_))
    refine Wc_ret ⟨.inr rfl, rfl, [.bool false], by simp [resAll, resV, upd, dstUpd], rfl, ?_⟩
    rw [hkk, List.take_length] at hn
    simp [tup, hn]
  show Wc T _ _ _
  have hend : k < l.length := by simpa using hlt
  obtain ⟨x, hx⟩ : ∃ x, l[k]? = some x := ⟨_, List.getElem?_eq_getElem hend⟩
  have hxm := List.mem_of_getElem? hx
  obtain ⟨bx, cx, hva, hbx, ⟨o1, z1, hgx⟩, hcx⟩ := hv.load hx
  have hix : idxV l.length (.int .i64 k) = some k := idx_ok hend
  have e1' : IntKind.i64.wrap ((k : Int) + 1) = ((k + 1 : Nat) : Int) := by rw [wrap64] <;> omega
  rw [Nat.zero_add, Nat.mul_one] at hcx
  refine Wc_seq (Wc_block (Wc_seq (Wc_ops (Wo_run (fun call => by simp only [List.drop_succ_cons, List.drop_zero, iops_nil, iops_op, iops_grd, iK_some, iG_true, iG_false, gval_bool, beq_true, beq_false, Bool.not_true, Bool.not_false, iop, ev, upd, dstUpd, binV, binI, unV, ptr, Heap.cell, Heap.write, cellsOf, put, args0, partL, List.getD_cons_zero, List.getD_cons_succ, List.length_cons, List.length_nil, List.set_cons_zero, List.set_cons_succ, List.getElem?_cons_zero, List.getElem?_cons_succ, reduceIte, Nat.reduceEqDiff, Nat.reduceAdd, Nat.reduceMul, Nat.reduceLeDiff, Nat.zero_add, Nat.add_zero, Option.map_some, Int.reduceEq, Int.reduceLT, Int.reduceLE, Bool.false_eq_true, decide_true, decide_false, ge_iff_le, gt_iff_lt, set_get', g7, hva, g9, hix, hgx, Nat.mul_one, hcx]; rfl) ?_))))
  show Wc T _ _ _
  by_cases hxc : x = c
  · subst hxc
    refine Wc_seq (Wc_ops (Wo_run (fun call => by simp only [List.drop_succ_cons, List.drop_zero, iops_nil, iops_op, iops_grd, iK_some, iG_true, iG_false, gval_bool, beq_true, beq_false, Bool.not_true, Bool.not_false, iop, ev, upd, dstUpd, binV, binI, unV, ptr, Heap.cell, Heap.write, cellsOf, put, args0, partL, List.getD_cons_zero, List.getD_cons_succ, List.length_cons, List.length_nil, List.set_cons_zero, List.set_cons_succ, List.getElem?_cons_zero, List.getElem?_cons_succ, reduceIte, Nat.reduceEqDiff, Nat.reduceAdd, Nat.reduceMul, Nat.reduceLeDiff, Nat.zero_add, Nat.add_zero, Option.map_some, Int.reduceEq, Int.reduceLT, Int.reduceLE, Bool.false_eq_true, decide_true, decide_false, ge_iff_le, gt_iff_lt, set_get', g1, beq_self_eq_true]; rfl) ?_))
    show Wc T _ _ _
    refine Wc_cond true (by simp [ev, upd]) (fun _ => ?_) (fun h => by cases h)
    refine Wc_seq (Wc_ops (Wo_run (fun call => by simp only [List.drop_succ_cons, List.drop_zero, iops_nil, iops_op, iops_grd, iK_some, iG_true, iG_false, gval_bool, beq_true, beq_false, Bool.not_true, Bool.not_false, iop, ev, upd, dstUpd, binV, binI, unV, ptr, Heap.cell, Heap.write, cellsOf, put, args0, partL, List.getD_cons_zero, List.getD_cons_succ, List.length_cons, List.length_nil, List.set_cons_zero, List.set_cons_succ, List.getElem?_cons_zero, List.getElem?_cons_succ, reduceIte, Nat.reduceEqDiff, Nat.reduceAdd, Nat.reduceMul, Nat.reduceLeDiff, Nat.zero_add, Nat.add_zero, Option.map_some, Int.reduceEq, Int.reduceLT, Int.reduceLE, Bool.false_eq_true, decide_true, decide_false, ge_iff_le, gt_iff_lt, set_get']; rfl) ?_))
    refine Wc_ret ⟨.inr rfl, rfl, [.bool true], by simp [resAll, resV, upd, dstUpd], rfl, ?_⟩
    simp [tup, hxm]
  · have hne : (x == c) = false := by simpa using hxc
    refine Wc_seq (Wc_ops (Wo_run (fun call => by simp only [List.drop_succ_cons, List.drop_zero, iops_nil, iops_op, iops_grd, iK_some, iG_true, iG_false, gval_bool, beq_true, beq_false, Bool.not_true, Bool.not_false, iop, ev, upd, dstUpd, binV, binI, unV, ptr, Heap.cell, Heap.write, cellsOf, put, args0, partL, List.getD_cons_zero, List.getD_cons_succ, List.length_cons, List.length_nil, List.set_cons_zero, List.set_cons_succ, List.getElem?_cons_zero, List.getElem?_cons_succ, reduceIte, Nat.reduceEqDiff, Nat.reduceAdd, Nat.reduceMul, Nat.reduceLeDiff, Nat.zero_add, Nat.add_zero, Option.map_some, Int.reduceEq, Int.reduceLT, Int.reduceLE, Bool.false_eq_true, decide_true, decide_false, ge_iff_le, gt_iff_lt, set_get', g1, hne]; rfl) ?_))
    show Wc T _ _ _
    refine Wc_cond false (by simp [ev, upd]) (fun h => by cases h) (fun _ => Wc_skip ?_)
    show Wc T _ _ _
    refine Wc_ops (Wo_run (fun call => by simp only [List.drop_succ_cons, List.drop_zero, iops_nil, iops_op, iops_grd, iK_some, iG_true, iG_false, gval_bool, beq_true, beq_false, Bool.not_true, Bool.not_false, iop, ev, upd, dstUpd, binV, binI, unV, ptr, Heap.cell, Heap.write, cellsOf, put, args0, partL, List.getD_cons_zero, List.getD_cons_succ, List.length_cons, List.length_nil, List.set_cons_zero, List.set_cons_succ, List.getElem?_cons_zero, List.getElem?_cons_succ, reduceIte, Nat.reduceEqDiff, Nat.reduceAdd, Nat.reduceMul, Nat.reduceLeDiff, Nat.zero_add, Nat.add_zero, Option.map_some, Int.reduceEq, Int.reduceLT, Int.reduceLE, Bool.false_eq_true, decide_true, decide_false, ge_iff_le, gt_iff_lt, set_get', g9, e1']; rfl) ?_)
    refine ⟨⟨rfl, rfl, by simp [upd, g7], by simp [upd, g1], by simp [upd, g8], k + 1, by omega, by simp [upd], ?_⟩, ?_⟩
    · rw [List.take_add_one, hx]
      simp only [Option.toList, List.mem_append, List.mem_singleton, not_or]
      exact ⟨hn, fun e => hxc e.symm⟩
    · simp only [upd, Nat.reduceEqDiff, reduceIte, g9]; omega

theorem numbers41 {T : Tbl} (hT : T.fn 41 = some C41) {h : Heap} {c : Cod} {f : Fn} {x : Ins} {at' : Nat} (hc : c.Ok h) (hf : f.Ok h) (hx : f.code[at']? = some x) :
    Wk T (.fn 41) [.agg c.cells.toArray, .agg f.cells.toArray, .int .i64 at'] h (fun o h' => Kept h h' ∧ o = .ret (.bool (numB c f x at'))) := by
  refine Wk_fn hT (by simp [C41]) ?_
  have hb : iop (.box (.t 0)) (args0 [.agg c.cells.toArray, .agg f.cells.toArray, .int .i64 at']) h = some (ptr h.next 0, h.new (.cells c.cells true 0)) := by simp [iop, ev, args0, cellsOf]
  have hb2 : iop (.box (.t 1)) (dstUpd (args0 [.agg c.cells.toArray, .agg f.cells.toArray, .int .i64 at']) (some 3) (ptr h.next 0)) (h.new (.cells c.cells true 0)) = some (ptr (h.next + 1) 0, (h.new (.cells c.cells true 0)).new (.cells f.cells true 0)) := by simp [iop, ev, args0, cellsOf, dstUpd, upd, new_next]
  simp only [C41]
  refine Wc_seq (Wc_ops (Wo_op hb (Wo_op hb2 (Wo_run (fun call => by simp only [List.drop_succ_cons, List.drop_zero, iops_nil, iops_op, iops_grd, iK_some, iG_true, iG_false, gval_bool, beq_true, beq_false, Bool.not_true, Bool.not_false, iop, ev, upd, dstUpd, binV, binI, unV, ptr, Heap.cell, Heap.write, cellsOf, put, args0, partL, List.getD_cons_zero, List.getD_cons_succ, List.length_cons, List.length_nil, List.set_cons_zero, List.set_cons_succ, List.getElem?_cons_zero, List.getElem?_cons_succ, reduceIte, Nat.reduceEqDiff, Nat.reduceAdd, Nat.reduceMul, Nat.reduceLeDiff, Nat.zero_add, Nat.add_zero, Option.map_some, Int.reduceEq, Int.reduceLT, Int.reduceLE, Bool.false_eq_true, decide_true, decide_false, ge_iff_le, gt_iff_lt, set_get']; rfl) ?_))))
  show Wc T _ _ _
  have g4a : ((h.new (.cells c.cells true 0)).new (.cells f.cells true 0)).get (h.next + 1) = some (.cells f.cells true 0) := new_get' _ _
  have g3a : ((h.new (.cells c.cells true 0)).new (.cells f.cells true 0)).get h.next = some (.cells c.cells true 0) := by rw [new_get_ne' _ _ (by rw [new_next]; omega), new_get']
  have hka : Kept h ((h.new (.cells c.cells true 0)).new (.cells f.cells true 0)) := ((Kept.refl h).new _).new _
  have hna : ((h.new (.cells c.cells true 0)).new (.cells f.cells true 0)).next = h.next + 2 := rfl
  generalize (h.new (.cells c.cells true 0)).new (.cells f.cells true 0) = ha at g4a g3a hka hna ⊢
  have hlt : at' < f.code.length := (List.getElem?_eq_some_iff.1 hx).1
  obtain ⟨bx, cx, hva, hbx, _, hcx, hxin⟩ := ((hf.keep hka).code).load insCells_len hx
  refine Wc_seq (Wc_ops (Wo_pre 3 (fun call => by simp only [List.take_succ_cons, List.take_zero, List.drop_succ_cons, List.drop_zero, iops_nil, iops_op, iops_grd, iK_some, iG_true, iG_false, gval_bool, beq_true, beq_false, Bool.not_true, Bool.not_false, iop, ev, upd, dstUpd, binV, binI, unV, ptr, Heap.cell, Heap.write, cellsOf, put, args0, partL, List.getD_cons_zero, List.getD_cons_succ, List.length_cons, List.length_nil, List.set_cons_zero, List.set_cons_succ, List.getElem?_cons_zero, List.getElem?_cons_succ, reduceIte, Nat.reduceEqDiff, Nat.reduceAdd, Nat.reduceMul, Nat.reduceLeDiff, Nat.zero_add, Nat.add_zero, Option.map_some, Int.reduceEq, Int.reduceLT, Int.reduceLE, Bool.false_eq_true, decide_true, decide_false, ge_iff_le, gt_iff_lt, set_get', g4a, Fn.cells]; rfl) ?_))
  refine Wo_op (iop_iaddr (b := bx) (len := f.code.length) (c := cx) (i := at') (by simp only [upd, dstUpd, reduceIte, Nat.reduceEqDiff]; exact hva) (by simp only [upd, dstUpd, reduceIte, Nat.reduceEqDiff, args0, List.getD_cons_succ, List.getD_cons_zero]) hlt) (Wo_op (iop_load (b := bx) (o := at' * 6) (cs := x.cells) (by simp only [upd, dstUpd, reduceIte, Nat.reduceEqDiff]) hcx) (Wo_op rfl (Wo_op (iop_store (b := ha.next) (esz := 0) (cs := x.cells) (z := [(.int .i64 0), (.int .i64 0), (.int .i64 0), (.int .i64 0), (.int .i64 0), (.slice none 0 0)]) (by simp only [upd, dstUpd, reduceIte, Nat.reduceEqDiff]) (by simp only [upd, dstUpd, reduceIte, Nat.reduceEqDiff]) rfl (new_get' _ _) rfl) (Wo_nil ?_))))
  show Wc T _ _ _
  have hkb : Kept ha ((ha.new (.cells [(.int .i64 0), (.int .i64 0), (.int .i64 0), (.int .i64 0), (.int .i64 0), (.slice none 0 0)] true 0)).set ha.next (.cells x.cells true 0)) := ((Kept.refl ha).new _).set (Nat.le_refl _) _
  have g7' : ((ha.new (.cells [(.int .i64 0), (.int .i64 0), (.int .i64 0), (.int .i64 0), (.int .i64 0), (.slice none 0 0)] true 0)).set ha.next (.cells x.cells true 0)).get ha.next = some (.cells x.cells true 0) := set_get' _ _ _
  generalize (ha.new (.cells [(.int .i64 0), (.int .i64 0), (.int .i64 0), (.int .i64 0), (.int .i64 0), (.slice none 0 0)] true 0)).set ha.next (.cells x.cells true 0) = h1 at hkb g7' ⊢
  rw [hna] at g7'
  have g4 : h1.get (h.next + 1) = some (.cells f.cells true 0) := by rw [hkb.get _ (by omega)]; exact g4a
  have g3 : h1.get h.next = some (.cells c.cells true 0) := by rw [hkb.get _ (by omega)]; exact g3a
  have hk : Kept h h1 := hka.trans hkb
  obtain ⟨pl, cl, hlv⟩ := hxin.ints.len
  obtain ⟨pc, cc, hcv⟩ := hf.code.len
  obtain ⟨pf, cf, hfv⟩ := hc.funcs.len
  have fin : ∀ (e : Env) (b : Bool), e 6 = .bool b → numB c f x at' = b → ((Ex.ret = .normal ∨ Ex.ret = .ret) ∧ some ([] : List Dfr) = some [] ∧ ∃ vs, resAll e h1 [.tmp 6] = some vs ∧ Kept h h1 ∧ Out.ret (tup vs) = .ret (.bool (numB c f x at'))) := by
    intro e b h6 hn
    exact ⟨.inr rfl, rfl, [.bool b], by simp only [resAll, resV, h6], hk, by rw [hn]; rfl⟩
  refine Wc_seq (Wc_seq (Wc_ops (Wo_run (fun call => by simp only [List.drop_succ_cons, List.drop_zero, iops_nil, iops_op, iops_grd, iK_some, iG_true, iG_false, gval_bool, beq_true, beq_false, Bool.not_true, Bool.not_false, iop, ev, upd, dstUpd, binV, binI, unV, ptr, Heap.cell, Heap.write, cellsOf, put, args0, partL, List.getD_cons_zero, List.getD_cons_succ, List.length_cons, List.length_nil, List.set_cons_zero, List.set_cons_succ, List.getElem?_cons_zero, List.getElem?_cons_succ, reduceIte, Nat.reduceEqDiff, Nat.reduceAdd, Nat.reduceMul, Nat.reduceLeDiff, Nat.zero_add, Nat.add_zero, Option.map_some, Int.reduceEq, Int.reduceLT, Int.reduceLE, Bool.false_eq_true, decide_true, decide_false, ge_iff_le, gt_iff_lt, set_get', g7', hna, Ins.cells]; rfl) ?_)))
  show Wc T _ _ _
  by_cases o4 : x.op = 4
  · have d4 : (x.op == 4) = true := by simpa using o4
    refine Wc_block (Wc_seq (Wc_ops (Wo_run (fun call => by simp only [List.drop_succ_cons, List.drop_zero, iops_nil, iops_op, iops_grd, iK_some, iG_true, iG_false, gval_bool, beq_true, beq_false, Bool.not_true, Bool.not_false, iop, ev, upd, dstUpd, binV, binI, unV, ptr, Heap.cell, Heap.write, cellsOf, put, args0, partL, List.getD_cons_zero, List.getD_cons_succ, List.length_cons, List.length_nil, List.set_cons_zero, List.set_cons_succ, List.getElem?_cons_zero, List.getElem?_cons_succ, reduceIte, Nat.reduceEqDiff, Nat.reduceAdd, Nat.reduceMul, Nat.reduceLeDiff, Nat.zero_add, Nat.add_zero, Option.map_some, Int.reduceEq, Int.reduceLT, Int.reduceLE, Bool.false_eq_true, decide_true, decide_false, ge_iff_le, gt_iff_lt, set_get', d4]; rfl) ?_)))
    show Wc T _ _ _
    refine Wc_cond true (by simp [ev, upd]) (fun _ => ?_) (fun h => by cases h)
    by_cases q0 : 1 ≤ x.k
    case neg =>
      have z0 : (decide (1 ≤ x.k)) = false := by simpa using q0
      refine Wc_seq (Wc_ops (Wo_run (fun call => by simp only [List.drop_succ_cons, List.drop_zero, iops_nil, iops_op, iops_grd, iK_some, iG_true, iG_false, gval_bool, beq_true, beq_false, Bool.not_true, Bool.not_false, iop, ev, upd, dstUpd, binV, binI, unV, ptr, Heap.cell, Heap.write, cellsOf, put, args0, partL, List.getD_cons_zero, List.getD_cons_succ, List.length_cons, List.length_nil, List.set_cons_zero, List.set_cons_succ, List.getElem?_cons_zero, List.getElem?_cons_succ, reduceIte, Nat.reduceEqDiff, Nat.reduceAdd, Nat.reduceMul, Nat.reduceLeDiff, Nat.zero_add, Nat.add_zero, Option.map_some, Int.reduceEq, Int.reduceLT, Int.reduceLE, Bool.false_eq_true, decide_true, decide_false, ge_iff_le, gt_iff_lt, set_get', g3, g4, g7', Fn.cells, Ins.cells, Cod.cells, hlv, hcv, hfv, z0]; rfl) ?_))
      exact Wc_ret (fin _ false (by simp [upd, dstUpd]) (by simp only [numB, if_pos o4, decide_eq_true_eq, decide_eq_false_iff_not]; omega))
    have p0 : (decide (1 ≤ x.k)) = true := by simpa using q0
    by_cases q1 : x.k ≤ 12
    case neg =>
      have z1 : (decide (x.k ≤ 12)) = false := by simpa using q1
      refine Wc_seq (Wc_ops (Wo_run (fun call => by simp only [List.drop_succ_cons, List.drop_zero, iops_nil, iops_op, iops_grd, iK_some, iG_true, iG_false, gval_bool, beq_true, beq_false, Bool.not_true, Bool.not_false, iop, ev, upd, dstUpd, binV, binI, unV, ptr, Heap.cell, Heap.write, cellsOf, put, args0, partL, List.getD_cons_zero, List.getD_cons_succ, List.length_cons, List.length_nil, List.set_cons_zero, List.set_cons_succ, List.getElem?_cons_zero, List.getElem?_cons_succ, reduceIte, Nat.reduceEqDiff, Nat.reduceAdd, Nat.reduceMul, Nat.reduceLeDiff, Nat.zero_add, Nat.add_zero, Option.map_some, Int.reduceEq, Int.reduceLT, Int.reduceLE, Bool.false_eq_true, decide_true, decide_false, ge_iff_le, gt_iff_lt, set_get', g3, g4, g7', Fn.cells, Ins.cells, Cod.cells, hlv, hcv, hfv, p0, z1]; rfl) ?_))
      exact Wc_ret (fin _ false (by simp [upd, dstUpd]) (by simp only [numB, if_pos o4, decide_eq_true_eq, decide_eq_false_iff_not]; omega))
    have p1 : (decide (x.k ≤ 12)) = true := by simpa using q1
    refine Wc_seq (Wc_ops (Wo_run (fun call => by simp only [List.drop_succ_cons, List.drop_zero, iops_nil, iops_op, iops_grd, iK_some, iG_true, iG_false, gval_bool, beq_true, beq_false, Bool.not_true, Bool.not_false, iop, ev, upd, dstUpd, binV, binI, unV, ptr, Heap.cell, Heap.write, cellsOf, put, args0, partL, List.getD_cons_zero, List.getD_cons_succ, List.length_cons, List.length_nil, List.set_cons_zero, List.set_cons_succ, List.getElem?_cons_zero, List.getElem?_cons_succ, reduceIte, Nat.reduceEqDiff, Nat.reduceAdd, Nat.reduceMul, Nat.reduceLeDiff, Nat.zero_add, Nat.add_zero, Option.map_some, Int.reduceEq, Int.reduceLT, Int.reduceLE, Bool.false_eq_true, decide_true, decide_false, ge_iff_le, gt_iff_lt, set_get', g3, g4, g7', Fn.cells, Ins.cells, Cod.cells, hlv, hcv, hfv, p0, p1]; rfl) ?_))
    exact Wc_ret (fin _ true (by simp [upd, dstUpd]) (by simp only [numB, if_pos o4, decide_eq_true_eq, decide_eq_false_iff_not]; omega))
  have d4 : (x.op == 4) = false := by simpa using o4
  refine Wc_block (Wc_seq (Wc_ops (Wo_run (fun call => by simp only [List.drop_succ_cons, List.drop_zero, iops_nil, iops_op, iops_grd, iK_some, iG_true, iG_false, gval_bool, beq_true, beq_false, Bool.not_true, Bool.not_false, iop, ev, upd, dstUpd, binV, binI, unV, ptr, Heap.cell, Heap.write, cellsOf, put, args0, partL, List.getD_cons_zero, List.getD_cons_succ, List.length_cons, List.length_nil, List.set_cons_zero, List.set_cons_succ, List.getElem?_cons_zero, List.getElem?_cons_succ, reduceIte, Nat.reduceEqDiff, Nat.reduceAdd, Nat.reduceMul, Nat.reduceLeDiff, Nat.zero_add, Nat.add_zero, Option.map_some, Int.reduceEq, Int.reduceLT, Int.reduceLE, Bool.false_eq_true, decide_true, decide_false, ge_iff_le, gt_iff_lt, set_get', d4]; rfl) ?_)))
  show Wc T _ _ _
  refine Wc_cond false (by simp [ev, upd]) (fun h => by cases h) (fun _ => ?_)
  by_cases o5 : x.op = 5
  · have d5 : (x.op == 5) = true := by simpa using o5
    refine Wc_seq (Wc_ops (Wo_run (fun call => by simp only [List.drop_succ_cons, List.drop_zero, iops_nil, iops_op, iops_grd, iK_some, iG_true, iG_false, gval_bool, beq_true, beq_false, Bool.not_true, Bool.not_false, iop, ev, upd, dstUpd, binV, binI, unV, ptr, Heap.cell, Heap.write, cellsOf, put, args0, partL, List.getD_cons_zero, List.getD_cons_succ, List.length_cons, List.length_nil, List.set_cons_zero, List.set_cons_succ, List.getElem?_cons_zero, List.getElem?_cons_succ, reduceIte, Nat.reduceEqDiff, Nat.reduceAdd, Nat.reduceMul, Nat.reduceLeDiff, Nat.zero_add, Nat.add_zero, Option.map_some, Int.reduceEq, Int.reduceLT, Int.reduceLE, Bool.false_eq_true, decide_true, decide_false, ge_iff_le, gt_iff_lt, set_get', d5]; rfl) ?_))
    show Wc T _ _ _
    refine Wc_cond true (by simp [ev, upd]) (fun _ => ?_) (fun h => by cases h)
    by_cases q0 : 13 ≤ x.k
    case neg =>
      have z0 : (decide (13 ≤ x.k)) = false := by simpa using q0
      refine Wc_seq (Wc_ops (Wo_run (fun call => by simp only [List.drop_succ_cons, List.drop_zero, iops_nil, iops_op, iops_grd, iK_some, iG_true, iG_false, gval_bool, beq_true, beq_false, Bool.not_true, Bool.not_false, iop, ev, upd, dstUpd, binV, binI, unV, ptr, Heap.cell, Heap.write, cellsOf, put, args0, partL, List.getD_cons_zero, List.getD_cons_succ, List.length_cons, List.length_nil, List.set_cons_zero, List.set_cons_succ, List.getElem?_cons_zero, List.getElem?_cons_succ, reduceIte, Nat.reduceEqDiff, Nat.reduceAdd, Nat.reduceMul, Nat.reduceLeDiff, Nat.zero_add, Nat.add_zero, Option.map_some, Int.reduceEq, Int.reduceLT, Int.reduceLE, Bool.false_eq_true, decide_true, decide_false, ge_iff_le, gt_iff_lt, set_get', g3, g4, g7', Fn.cells, Ins.cells, Cod.cells, hlv, hcv, hfv, z0]; rfl) ?_))
      exact Wc_ret (fin _ false (by simp [upd, dstUpd]) (by simp only [numB, if_neg o4, if_pos o5, decide_eq_true_eq, decide_eq_false_iff_not]; omega))
    have p0 : (decide (13 ≤ x.k)) = true := by simpa using q0
    by_cases q1 : x.k ≤ 15
    case neg =>
      have z1 : (decide (x.k ≤ 15)) = false := by simpa using q1
      refine Wc_seq (Wc_ops (Wo_run (fun call => by simp only [List.drop_succ_cons, List.drop_zero, iops_nil, iops_op, iops_grd, iK_some, iG_true, iG_false, gval_bool, beq_true, beq_false, Bool.not_true, Bool.not_false, iop, ev, upd, dstUpd, binV, binI, unV, ptr, Heap.cell, Heap.write, cellsOf, put, args0, partL, List.getD_cons_zero, List.getD_cons_succ, List.length_cons, List.length_nil, List.set_cons_zero, List.set_cons_succ, List.getElem?_cons_zero, List.getElem?_cons_succ, reduceIte, Nat.reduceEqDiff, Nat.reduceAdd, Nat.reduceMul, Nat.reduceLeDiff, Nat.zero_add, Nat.add_zero, Option.map_some, Int.reduceEq, Int.reduceLT, Int.reduceLE, Bool.false_eq_true, decide_true, decide_false, ge_iff_le, gt_iff_lt, set_get', g3, g4, g7', Fn.cells, Ins.cells, Cod.cells, hlv, hcv, hfv, p0, z1]; rfl) ?_))
      exact Wc_ret (fin _ false (by simp [upd, dstUpd]) (by simp only [numB, if_neg o4, if_pos o5, decide_eq_true_eq, decide_eq_false_iff_not]; omega))
    have p1 : (decide (x.k ≤ 15)) = true := by simpa using q1
    refine Wc_seq (Wc_ops (Wo_run (fun call => by simp only [List.drop_succ_cons, List.drop_zero, iops_nil, iops_op, iops_grd, iK_some, iG_true, iG_false, gval_bool, beq_true, beq_false, Bool.not_true, Bool.not_false, iop, ev, upd, dstUpd, binV, binI, unV, ptr, Heap.cell, Heap.write, cellsOf, put, args0, partL, List.getD_cons_zero, List.getD_cons_succ, List.length_cons, List.length_nil, List.set_cons_zero, List.set_cons_succ, List.getElem?_cons_zero, List.getElem?_cons_succ, reduceIte, Nat.reduceEqDiff, Nat.reduceAdd, Nat.reduceMul, Nat.reduceLeDiff, Nat.zero_add, Nat.add_zero, Option.map_some, Int.reduceEq, Int.reduceLT, Int.reduceLE, Bool.false_eq_true, decide_true, decide_false, ge_iff_le, gt_iff_lt, set_get', g3, g4, g7', Fn.cells, Ins.cells, Cod.cells, hlv, hcv, hfv, p0, p1]; rfl) ?_))
    exact Wc_ret (fin _ true (by simp [upd, dstUpd]) (by simp only [numB, if_neg o4, if_pos o5, decide_eq_true_eq, decide_eq_false_iff_not]; omega))
  have d5 : (x.op == 5) = false := by simpa using o5
  refine Wc_seq (Wc_ops (Wo_run (fun call => by simp only [List.drop_succ_cons, List.drop_zero, iops_nil, iops_op, iops_grd, iK_some, iG_true, iG_false, gval_bool, beq_true, beq_false, Bool.not_true, Bool.not_false, iop, ev, upd, dstUpd, binV, binI, unV, ptr, Heap.cell, Heap.write, cellsOf, put, args0, partL, List.getD_cons_zero, List.getD_cons_succ, List.length_cons, List.length_nil, List.set_cons_zero, List.set_cons_succ, List.getElem?_cons_zero, List.getElem?_cons_succ, reduceIte, Nat.reduceEqDiff, Nat.reduceAdd, Nat.reduceMul, Nat.reduceLeDiff, Nat.zero_add, Nat.add_zero, Option.map_some, Int.reduceEq, Int.reduceLT, Int.reduceLE, Bool.false_eq_true, decide_true, decide_false, ge_iff_le, gt_iff_lt, set_get', d5]; rfl) ?_))
  show Wc T _ _ _
  refine Wc_cond false (by simp [ev, upd]) (fun h => by cases h) (fun _ => ?_)
  -- 8, 9, 13
  have three : ∀ (e : Env) (Q : Ex → St → Prop), e 14 = .int .i64 x.op → (∀ e' : Env, (∀ t, t < 35 → e' t = e t) → e' 35 = .bool (decide (x.op = 8 ∨ x.op = 9 ∨ x.op = 13)) → Q .normal ⟨e', h1, some []⟩) →
      Wc T (.seq (.ops [⟨(some 36), .op (.bin .eql (.t 14) (.c (.int .i64 8))), none⟩, ⟨(some 35), .op (.mov (.t 36)), none⟩]) (.cond (.t 35) .skip (.seq (.ops [⟨(some 37), .op (.bin .eql (.t 14) (.c (.int .i64 9))), none⟩, ⟨(some 35), .op (.mov (.t 37)), none⟩]) (.cond (.t 35) .skip (.ops [⟨(some 38), .op (.bin .eql (.t 14) (.c (.int .i64 13))), none⟩, ⟨(some 35), .op (.mov (.t 38)), none⟩]))))) ⟨e, h1, some []⟩ Q := by
    intro e Q k7 hQ
    have fr : ∀ (e' : Env) (b : Bool), (∀ t, t < 35 → e' t = e t) → e' 35 = .bool b → b = decide (x.op = 8 ∨ x.op = 9 ∨ x.op = 13) → Q .normal ⟨e', h1, some []⟩ := fun e' b h1 h2 h3 => hQ e' h1 (by rw [h2, h3])
    by_cases o8 : x.op = 8
    · have d8 : (x.op == 8) = true := by simpa using o8
      refine Wc_seq (Wc_ops (Wo_run (fun call => by simp only [List.drop_succ_cons, List.drop_zero, iops_nil, iops_op, iops_grd, iK_some, iG_true, iG_false, gval_bool, beq_true, beq_false, Bool.not_true, Bool.not_false, iop, ev, upd, dstUpd, binV, binI, unV, ptr, Heap.cell, Heap.write, cellsOf, put, args0, partL, List.getD_cons_zero, List.getD_cons_succ, List.length_cons, List.length_nil, List.set_cons_zero, List.set_cons_succ, List.getElem?_cons_zero, List.getElem?_cons_succ, reduceIte, Nat.reduceEqDiff, Nat.reduceAdd, Nat.reduceMul, Nat.reduceLeDiff, Nat.zero_add, Nat.add_zero, Option.map_some, Int.reduceEq, Int.reduceLT, Int.reduceLE, Bool.false_eq_true, decide_true, decide_false, ge_iff_le, gt_iff_lt, set_get', k7, d8]; rfl) ?_))
      show Wc T _ _ _
      refine Wc_cond true (by simp [ev, upd]) (fun _ => Wc_skip ?_) (fun h => by cases h)
      exact fr _ true (fun t ht => by simp only [upd]; repeat rw [if_neg (by omega)]) (by simp [upd]) (by simp [o8])
    have d8 : (x.op == 8) = false := by simpa using o8
    refine Wc_seq (Wc_ops (Wo_run (fun call => by simp only [List.drop_succ_cons, List.drop_zero, iops_nil, iops_op, iops_grd, iK_some, iG_true, iG_false, gval_bool, beq_true, beq_false, Bool.not_true, Bool.not_false, iop, ev, upd, dstUpd, binV, binI, unV, ptr, Heap.cell, Heap.write, cellsOf, put, args0, partL, List.getD_cons_zero, List.getD_cons_succ, List.length_cons, List.length_nil, List.set_cons_zero, List.set_cons_succ, List.getElem?_cons_zero, List.getElem?_cons_succ, reduceIte, Nat.reduceEqDiff, Nat.reduceAdd, Nat.reduceMul, Nat.reduceLeDiff, Nat.zero_add, Nat.add_zero, Option.map_some, Int.reduceEq, Int.reduceLT, Int.reduceLE, Bool.false_eq_true, decide_true, decide_false, ge_iff_le, gt_iff_lt, set_get', k7, d8]; rfl) ?_))
    show Wc T _ _ _
    refine Wc_cond false (by simp [ev, upd]) (fun h => by cases h) (fun _ => ?_)
    by_cases o9 : x.op = 9
    · have d9 : (x.op == 9) = true := by simpa using o9
      refine Wc_seq (Wc_ops (Wo_run (fun call => by simp only [List.drop_succ_cons, List.drop_zero, iops_nil, iops_op, iops_grd, iK_some, iG_true, iG_false, gval_bool, beq_true, beq_false, Bool.not_true, Bool.not_false, iop, ev, upd, dstUpd, binV, binI, unV, ptr, Heap.cell, Heap.write, cellsOf, put, args0, partL, List.getD_cons_zero, List.getD_cons_succ, List.length_cons, List.length_nil, List.set_cons_zero, List.set_cons_succ, List.getElem?_cons_zero, List.getElem?_cons_succ, reduceIte, Nat.reduceEqDiff, Nat.reduceAdd, Nat.reduceMul, Nat.reduceLeDiff, Nat.zero_add, Nat.add_zero, Option.map_some, Int.reduceEq, Int.reduceLT, Int.reduceLE, Bool.false_eq_true, decide_true, decide_false, ge_iff_le, gt_iff_lt, set_get', k7, d9]; rfl) ?_))
      show Wc T _ _ _
      refine Wc_cond true (by simp [ev, upd]) (fun _ => Wc_skip ?_) (fun h => by cases h)
      exact fr _ true (fun t ht => by simp only [upd]; repeat rw [if_neg (by omega)]) (by simp [upd]) (by simp [o9])
    have d9 : (x.op == 9) = false := by simpa using o9
    refine Wc_seq (Wc_ops (Wo_run (fun call => by simp only [List.drop_succ_cons, List.drop_zero, iops_nil, iops_op, iops_grd, iK_some, iG_true, iG_false, gval_bool, beq_true, beq_false, Bool.not_true, Bool.not_false, iop, ev, upd, dstUpd, binV, binI, unV, ptr, Heap.cell, Heap.write, cellsOf, put, args0, partL, List.getD_cons_zero, List.getD_cons_succ, List.length_cons, List.length_nil, List.set_cons_zero, List.set_cons_succ, List.getElem?_cons_zero, List.getElem?_cons_succ, reduceIte, Nat.reduceEqDiff, Nat.reduceAdd, Nat.reduceMul, Nat.reduceLeDiff, Nat.zero_add, Nat.add_zero, Option.map_some, Int.reduceEq, Int.reduceLT, Int.reduceLE, Bool.false_eq_true, decide_true, decide_false, ge_iff_le, gt_iff_lt, set_get', k7, d9]; rfl) ?_))
    show Wc T _ _ _
    refine Wc_cond false (by simp [ev, upd]) (fun h => by cases h) (fun _ => ?_)
    refine Wc_ops (Wo_run (fun call => by simp only [List.drop_succ_cons, List.drop_zero, iops_nil, iops_op, iops_grd, iK_some, iG_true, iG_false, gval_bool, beq_true, beq_false, Bool.not_true, Bool.not_false, iop, ev, upd, dstUpd, binV, binI, unV, ptr, Heap.cell, Heap.write, cellsOf, put, args0, partL, List.getD_cons_zero, List.getD_cons_succ, List.length_cons, List.length_nil, List.set_cons_zero, List.set_cons_succ, List.getElem?_cons_zero, List.getElem?_cons_succ, reduceIte, Nat.reduceEqDiff, Nat.reduceAdd, Nat.reduceMul, Nat.reduceLeDiff, Nat.zero_add, Nat.add_zero, Option.map_some, Int.reduceEq, Int.reduceLT, Int.reduceLE, Bool.false_eq_true, decide_true, decide_false, ge_iff_le, gt_iff_lt, set_get', k7]; rfl) ?_)
    exact fr _ (x.op == 13) (fun t ht => by simp only [upd]; repeat rw [if_neg (by omega)]) (by simp [upd]) (by
      by_cases o13 : x.op = 13
      · simp [o13]
      · simp [o8, o9, o13])
  refine Wc_seq (three _ _ (by simp [upd, dstUpd]) fun e3 f3 k35 => ?_)
  show Wc T _ _ _
  have j3 : e3 3 = ptr h.next 0 := by rw [f3 3 (by omega)]; simp [upd, dstUpd, ptr]
  have j4 : e3 4 = ptr (h.next + 1) 0 := by rw [f3 4 (by omega)]; simp [upd, dstUpd, ptr]
  have j7 : e3 7 = ptr (h.next + 2) 0 := by rw [f3 7 (by omega)]; simp [upd, dstUpd, ptr, hna]
  have j2 : e3 2 = .int .i64 at' := by rw [f3 2 (by omega)]; simp [upd, dstUpd, args0]
  have j14 : e3 14 = .int .i64 x.op := by rw [f3 14 (by omega)]; simp [upd, dstUpd]
  clear three f3
  refine Wc_cond (decide (x.op = 8 ∨ x.op = 9 ∨ x.op = 13)) (by simp [ev, k35]) (fun hd => ?_) (fun hd => ?_)
  · have o3 : x.op = 8 ∨ x.op = 9 ∨ x.op = 13 := by simpa using hd
    by_cases q0 : 0 ≤ x.k
    case neg =>
      have z0 : (decide (0 ≤ x.k)) = false := by simpa using q0
      refine Wc_seq (Wc_ops (Wo_run (fun call => by simp only [List.drop_succ_cons, List.drop_zero, iops_nil, iops_op, iops_grd, iK_some, iG_true, iG_false, gval_bool, beq_true, beq_false, Bool.not_true, Bool.not_false, iop, ev, upd, dstUpd, binV, binI, unV, ptr, Heap.cell, Heap.write, cellsOf, put, args0, partL, List.getD_cons_zero, List.getD_cons_succ, List.length_cons, List.length_nil, List.set_cons_zero, List.set_cons_succ, List.getElem?_cons_zero, List.getElem?_cons_succ, reduceIte, Nat.reduceEqDiff, Nat.reduceAdd, Nat.reduceMul, Nat.reduceLeDiff, Nat.zero_add, Nat.add_zero, Option.map_some, Int.reduceEq, Int.reduceLT, Int.reduceLE, Bool.false_eq_true, decide_true, decide_false, ge_iff_le, gt_iff_lt, set_get', g3, g4, g7', Fn.cells, Ins.cells, Cod.cells, hlv, hcv, hfv, j3, j4, j7, z0]; rfl) ?_))
      exact Wc_ret (fin _ false (by simp [upd, dstUpd]) (by simp only [numB, if_neg o4, if_neg o5, if_pos o3, decide_eq_true_eq, decide_eq_false_iff_not]; omega))
    have p0 : (decide (0 ≤ x.k)) = true := by simpa using q0
    by_cases q1 : x.k ≤ 1000
    case neg =>
      have z1 : (decide (x.k ≤ 1000)) = false := by simpa using q1
      refine Wc_seq (Wc_ops (Wo_run (fun call => by simp only [List.drop_succ_cons, List.drop_zero, iops_nil, iops_op, iops_grd, iK_some, iG_true, iG_false, gval_bool, beq_true, beq_false, Bool.not_true, Bool.not_false, iop, ev, upd, dstUpd, binV, binI, unV, ptr, Heap.cell, Heap.write, cellsOf, put, args0, partL, List.getD_cons_zero, List.getD_cons_succ, List.length_cons, List.length_nil, List.set_cons_zero, List.set_cons_succ, List.getElem?_cons_zero, List.getElem?_cons_succ, reduceIte, Nat.reduceEqDiff, Nat.reduceAdd, Nat.reduceMul, Nat.reduceLeDiff, Nat.zero_add, Nat.add_zero, Option.map_some, Int.reduceEq, Int.reduceLT, Int.reduceLE, Bool.false_eq_true, decide_true, decide_false, ge_iff_le, gt_iff_lt, set_get', g3, g4, g7', Fn.cells, Ins.cells, Cod.cells, hlv, hcv, hfv, j3, j4, j7, p0, z1]; rfl) ?_))
      exact Wc_ret (fin _ false (by simp [upd, dstUpd]) (by simp only [numB, if_neg o4, if_neg o5, if_pos o3, decide_eq_true_eq, decide_eq_false_iff_not]; omega))
    have p1 : (decide (x.k ≤ 1000)) = true := by simpa using q1
    by_cases q2 : 0 ≤ x.c
    case neg =>
      have z2 : (decide (0 ≤ x.c)) = false := by simpa using q2
      refine Wc_seq (Wc_ops (Wo_run (fun call => by simp only [List.drop_succ_cons, List.drop_zero, iops_nil, iops_op, iops_grd, iK_some, iG_true, iG_false, gval_bool, beq_true, beq_false, Bool.not_true, Bool.not_false, iop, ev, upd, dstUpd, binV, binI, unV, ptr, Heap.cell, Heap.write, cellsOf, put, args0, partL, List.getD_cons_zero, List.getD_cons_succ, List.length_cons, List.length_nil, List.set_cons_zero, List.set_cons_succ, List.getElem?_cons_zero, List.getElem?_cons_succ, reduceIte, Nat.reduceEqDiff, Nat.reduceAdd, Nat.reduceMul, Nat.reduceLeDiff, Nat.zero_add, Nat.add_zero, Option.map_some, Int.reduceEq, Int.reduceLT, Int.reduceLE, Bool.false_eq_true, decide_true, decide_false, ge_iff_le, gt_iff_lt, set_get', g3, g4, g7', Fn.cells, Ins.cells, Cod.cells, hlv, hcv, hfv, j3, j4, j7, p0, p1, z2]; rfl) ?_))
      exact Wc_ret (fin _ false (by simp [upd, dstUpd]) (by simp only [numB, if_neg o4, if_neg o5, if_pos o3, decide_eq_true_eq, decide_eq_false_iff_not]; omega))
    have p2 : (decide (0 ≤ x.c)) = true := by simpa using q2
    by_cases q3 : x.c ≤ 1000
    case neg =>
      have z3 : (decide (x.c ≤ 1000)) = false := by simpa using q3
      refine Wc_seq (Wc_ops (Wo_run (fun call => by simp only [List.drop_succ_cons, List.drop_zero, iops_nil, iops_op, iops_grd, iK_some, iG_true, iG_false, gval_bool, beq_true, beq_false, Bool.not_true, Bool.not_false, iop, ev, upd, dstUpd, binV, binI, unV, ptr, Heap.cell, Heap.write, cellsOf, put, args0, partL, List.getD_cons_zero, List.getD_cons_succ, List.length_cons, List.length_nil, List.set_cons_zero, List.set_cons_succ, List.getElem?_cons_zero, List.getElem?_cons_succ, reduceIte, Nat.reduceEqDiff, Nat.reduceAdd, Nat.reduceMul, Nat.reduceLeDiff, Nat.zero_add, Nat.add_zero, Option.map_some, Int.reduceEq, Int.reduceLT, Int.reduceLE, Bool.false_eq_true, decide_true, decide_false, ge_iff_le, gt_iff_lt, set_get', g3, g4, g7', Fn.cells, Ins.cells, Cod.cells, hlv, hcv, hfv, j3, j4, j7, p0, p1, p2, z3]; rfl) ?_))
      exact Wc_ret (fin _ false (by simp [upd, dstUpd]) (by simp only [numB, if_neg o4, if_neg o5, if_pos o3, decide_eq_true_eq, decide_eq_false_iff_not]; omega))
    have p3 : (decide (x.c ≤ 1000)) = true := by simpa using q3
    refine Wc_seq (Wc_ops (Wo_run (fun call => by simp only [List.drop_succ_cons, List.drop_zero, iops_nil, iops_op, iops_grd, iK_some, iG_true, iG_false, gval_bool, beq_true, beq_false, Bool.not_true, Bool.not_false, iop, ev, upd, dstUpd, binV, binI, unV, ptr, Heap.cell, Heap.write, cellsOf, put, args0, partL, List.getD_cons_zero, List.getD_cons_succ, List.length_cons, List.length_nil, List.set_cons_zero, List.set_cons_succ, List.getElem?_cons_zero, List.getElem?_cons_succ, reduceIte, Nat.reduceEqDiff, Nat.reduceAdd, Nat.reduceMul, Nat.reduceLeDiff, Nat.zero_add, Nat.add_zero, Option.map_some, Int.reduceEq, Int.reduceLT, Int.reduceLE, Bool.false_eq_true, decide_true, decide_false, ge_iff_le, gt_iff_lt, set_get', g3, g4, g7', Fn.cells, Ins.cells, Cod.cells, hlv, hcv, hfv, j3, j4, j7, p0, p1, p2, p3]; rfl) ?_))
    exact Wc_ret (fin _ true (by simp [upd, dstUpd]) (by simp only [numB, if_neg o4, if_neg o5, if_pos o3, decide_eq_true_eq, decide_eq_false_iff_not]; omega))
  have o3 : ¬ (x.op = 8 ∨ x.op = 9 ∨ x.op = 13) := by simpa using hd
  have two : ∀ (Q : Ex → St → Prop), (∀ e' : Env, (∀ t, t < 57 → e' t = e3 t) → e' 57 = .bool (decide (x.op = 21 ∨ x.op = 22)) → Q .normal ⟨e', h1, some []⟩) →
      Wc T (.seq (.ops [⟨(some 58), .op (.bin .eql (.t 14) (.c (.int .i64 21))), none⟩, ⟨(some 57), .op (.mov (.t 58)), none⟩]) (.cond (.t 57) .skip (.ops [⟨(some 59), .op (.bin .eql (.t 14) (.c (.int .i64 22))), none⟩, ⟨(some 57), .op (.mov (.t 59)), none⟩]))) ⟨e3, h1, some []⟩ Q := by
    intro Q hQ
    by_cases o8 : x.op = 21
    · have d8 : (x.op == 21) = true := by simpa using o8
      refine Wc_seq (Wc_ops (Wo_run (fun call => by simp only [List.drop_succ_cons, List.drop_zero, iops_nil, iops_op, iops_grd, iK_some, iG_true, iG_false, gval_bool, beq_true, beq_false, Bool.not_true, Bool.not_false, iop, ev, upd, dstUpd, binV, binI, unV, ptr, Heap.cell, Heap.write, cellsOf, put, args0, partL, List.getD_cons_zero, List.getD_cons_succ, List.length_cons, List.length_nil, List.set_cons_zero, List.set_cons_succ, List.getElem?_cons_zero, List.getElem?_cons_succ, reduceIte, Nat.reduceEqDiff, Nat.reduceAdd, Nat.reduceMul, Nat.reduceLeDiff, Nat.zero_add, Nat.add_zero, Option.map_some, Int.reduceEq, Int.reduceLT, Int.reduceLE, Bool.false_eq_true, decide_true, decide_false, ge_iff_le, gt_iff_lt, set_get', j14, d8]; rfl) ?_))
      show Wc T _ _ _
      refine Wc_cond true (by simp [ev, upd]) (fun _ => Wc_skip ?_) (fun h => by cases h)
      exact hQ _ (fun t ht => by simp only [upd]; repeat rw [if_neg (by omega)]) (by simp [upd, o8])
    have d8 : (x.op == 21) = false := by simpa using o8
    refine Wc_seq (Wc_ops (Wo_run (fun call => by simp only [List.drop_succ_cons, List.drop_zero, iops_nil, iops_op, iops_grd, iK_some, iG_true, iG_false, gval_bool, beq_true, beq_false, Bool.not_true, Bool.not_false, iop, ev, upd, dstUpd, binV, binI, unV, ptr, Heap.cell, Heap.write, cellsOf, put, args0, partL, List.getD_cons_zero, List.getD_cons_succ, List.length_cons, List.length_nil, List.set_cons_zero, List.set_cons_succ, List.getElem?_cons_zero, List.getElem?_cons_succ, reduceIte, Nat.reduceEqDiff, Nat.reduceAdd, Nat.reduceMul, Nat.reduceLeDiff, Nat.zero_add, Nat.add_zero, Option.map_some, Int.reduceEq, Int.reduceLT, Int.reduceLE, Bool.false_eq_true, decide_true, decide_false, ge_iff_le, gt_iff_lt, set_get', j14, d8]; rfl) ?_))
    show Wc T _ _ _
    refine Wc_cond false (by simp [ev, upd]) (fun h => by cases h) (fun _ => ?_)
    refine Wc_ops (Wo_run (fun call => by simp only [List.drop_succ_cons, List.drop_zero, iops_nil, iops_op, iops_grd, iK_some, iG_true, iG_false, gval_bool, beq_true, beq_false, Bool.not_true, Bool.not_false, iop, ev, upd, dstUpd, binV, binI, unV, ptr, Heap.cell, Heap.write, cellsOf, put, args0, partL, List.getD_cons_zero, List.getD_cons_succ, List.length_cons, List.length_nil, List.set_cons_zero, List.set_cons_succ, List.getElem?_cons_zero, List.getElem?_cons_succ, reduceIte, Nat.reduceEqDiff, Nat.reduceAdd, Nat.reduceMul, Nat.reduceLeDiff, Nat.zero_add, Nat.add_zero, Option.map_some, Int.reduceEq, Int.reduceLT, Int.reduceLE, Bool.false_eq_true, decide_true, decide_false, ge_iff_le, gt_iff_lt, set_get', j14]; rfl) ?_)
    exact hQ _ (fun t ht => by simp only [upd]; repeat rw [if_neg (by omega)]) (by
      by_cases o13 : x.op = 22
      · simp [upd, o13]
      · simp [upd, o8, o13])
  refine Wc_seq (two _ fun e4 f4 k57 => ?_)
  show Wc T _ _ _
  have i3 : e4 3 = ptr h.next 0 := by rw [f4 3 (by omega)]; exact j3
  have i4 : e4 4 = ptr (h.next + 1) 0 := by rw [f4 4 (by omega)]; exact j4
  have i7 : e4 7 = ptr (h.next + 2) 0 := by rw [f4 7 (by omega)]; exact j7
  have i2 : e4 2 = .int .i64 at' := by rw [f4 2 (by omega)]; exact j2
  have i14 : e4 14 = .int .i64 x.op := by rw [f4 14 (by omega)]; exact j14
  clear two f4
  refine Wc_cond (decide (x.op = 21 ∨ x.op = 22)) (by simp [ev, k57]) (fun hd2 => ?_) (fun hd2 => ?_)
  · have o2 : x.op = 21 ∨ x.op = 22 := by simpa using hd2
    by_cases q0 : 0 ≤ x.k
    case neg =>
      have z0 : (decide (0 ≤ x.k)) = false := by simpa using q0
      refine Wc_seq (Wc_ops (Wo_run (fun call => by simp only [List.drop_succ_cons, List.drop_zero, iops_nil, iops_op, iops_grd, iK_some, iG_true, iG_false, gval_bool, beq_true, beq_false, Bool.not_true, Bool.not_false, iop, ev, upd, dstUpd, binV, binI, unV, ptr, Heap.cell, Heap.write, cellsOf, put, args0, partL, List.getD_cons_zero, List.getD_cons_succ, List.length_cons, List.length_nil, List.set_cons_zero, List.set_cons_succ, List.getElem?_cons_zero, List.getElem?_cons_succ, reduceIte, Nat.reduceEqDiff, Nat.reduceAdd, Nat.reduceMul, Nat.reduceLeDiff, Nat.zero_add, Nat.add_zero, Option.map_some, Int.reduceEq, Int.reduceLT, Int.reduceLE, Bool.false_eq_true, decide_true, decide_false, ge_iff_le, gt_iff_lt, set_get', g3, g4, g7', Fn.cells, Ins.cells, Cod.cells, hlv, hcv, hfv, i2, i3, i4, i7, z0]; rfl) ?_))
      exact Wc_ret (fin _ false (by simp [upd, dstUpd]) (by simp only [numB, if_neg o4, if_neg o5, if_neg o3, if_pos o2, decide_eq_true_eq, decide_eq_false_iff_not]; omega))
    have p0 : (decide (0 ≤ x.k)) = true := by simpa using q0
    by_cases q1 : x.k < (f.code.length : Int)
    case neg =>
      have z1 : (decide (x.k < (f.code.length : Int))) = false := by simpa using q1
      refine Wc_seq (Wc_ops (Wo_run (fun call => by simp only [List.drop_succ_cons, List.drop_zero, iops_nil, iops_op, iops_grd, iK_some, iG_true, iG_false, gval_bool, beq_true, beq_false, Bool.not_true, Bool.not_false, iop, ev, upd, dstUpd, binV, binI, unV, ptr, Heap.cell, Heap.write, cellsOf, put, args0, partL, List.getD_cons_zero, List.getD_cons_succ, List.length_cons, List.length_nil, List.set_cons_zero, List.set_cons_succ, List.getElem?_cons_zero, List.getElem?_cons_succ, reduceIte, Nat.reduceEqDiff, Nat.reduceAdd, Nat.reduceMul, Nat.reduceLeDiff, Nat.zero_add, Nat.add_zero, Option.map_some, Int.reduceEq, Int.reduceLT, Int.reduceLE, Bool.false_eq_true, decide_true, decide_false, ge_iff_le, gt_iff_lt, set_get', g3, g4, g7', Fn.cells, Ins.cells, Cod.cells, hlv, hcv, hfv, i2, i3, i4, i7, p0, z1]; rfl) ?_))
      exact Wc_ret (fin _ false (by simp [upd, dstUpd]) (by simp only [numB, if_neg o4, if_neg o5, if_neg o3, if_pos o2, decide_eq_true_eq, decide_eq_false_iff_not]; omega))
    have p1 : (decide (x.k < (f.code.length : Int))) = true := by simpa using q1
    by_cases q2 : x.k ≠ (at' : Int)
    case neg =>
      have z2 : (x.k != (at' : Int)) = false := by simpa using q2
      refine Wc_seq (Wc_ops (Wo_run (fun call => by simp only [List.drop_succ_cons, List.drop_zero, iops_nil, iops_op, iops_grd, iK_some, iG_true, iG_false, gval_bool, beq_true, beq_false, Bool.not_true, Bool.not_false, iop, ev, upd, dstUpd, binV, binI, unV, ptr, Heap.cell, Heap.write, cellsOf, put, args0, partL, List.getD_cons_zero, List.getD_cons_succ, List.length_cons, List.length_nil, List.set_cons_zero, List.set_cons_succ, List.getElem?_cons_zero, List.getElem?_cons_succ, reduceIte, Nat.reduceEqDiff, Nat.reduceAdd, Nat.reduceMul, Nat.reduceLeDiff, Nat.zero_add, Nat.add_zero, Option.map_some, Int.reduceEq, Int.reduceLT, Int.reduceLE, Bool.false_eq_true, decide_true, decide_false, ge_iff_le, gt_iff_lt, set_get', g3, g4, g7', Fn.cells, Ins.cells, Cod.cells, hlv, hcv, hfv, i2, i3, i4, i7, p0, p1, z2]; rfl) ?_))
      exact Wc_ret (fin _ false (by simp [upd, dstUpd]) (by simp only [numB, if_neg o4, if_neg o5, if_neg o3, if_pos o2, decide_eq_true_eq, decide_eq_false_iff_not]; omega))
    have p2 : (x.k != (at' : Int)) = true := by simpa using q2
    refine Wc_seq (Wc_ops (Wo_run (fun call => by simp only [List.drop_succ_cons, List.drop_zero, iops_nil, iops_op, iops_grd, iK_some, iG_true, iG_false, gval_bool, beq_true, beq_false, Bool.not_true, Bool.not_false, iop, ev, upd, dstUpd, binV, binI, unV, ptr, Heap.cell, Heap.write, cellsOf, put, args0, partL, List.getD_cons_zero, List.getD_cons_succ, List.length_cons, List.length_nil, List.set_cons_zero, List.set_cons_succ, List.getElem?_cons_zero, List.getElem?_cons_succ, reduceIte, Nat.reduceEqDiff, Nat.reduceAdd, Nat.reduceMul, Nat.reduceLeDiff, Nat.zero_add, Nat.add_zero, Option.map_some, Int.reduceEq, Int.reduceLT, Int.reduceLE, Bool.false_eq_true, decide_true, decide_false, ge_iff_le, gt_iff_lt, set_get', g3, g4, g7', Fn.cells, Ins.cells, Cod.cells, hlv, hcv, hfv, i2, i3, i4, i7, p0, p1, p2]; rfl) ?_))
    exact Wc_ret (fin _ true (by simp [upd, dstUpd]) (by simp only [numB, if_neg o4, if_neg o5, if_neg o3, if_pos o2, decide_eq_true_eq, decide_eq_false_iff_not]; omega))
  have o2 : ¬ (x.op = 21 ∨ x.op = 22) := by simpa using hd2
  by_cases o23 : x.op = 23
  · have d23 : (x.op == 23) = true := by simpa using o23
    refine Wc_seq (Wc_ops (Wo_run (fun call => by simp only [List.drop_succ_cons, List.drop_zero, iops_nil, iops_op, iops_grd, iK_some, iG_true, iG_false, gval_bool, beq_true, beq_false, Bool.not_true, Bool.not_false, iop, ev, upd, dstUpd, binV, binI, unV, ptr, Heap.cell, Heap.write, cellsOf, put, args0, partL, List.getD_cons_zero, List.getD_cons_succ, List.length_cons, List.length_nil, List.set_cons_zero, List.set_cons_succ, List.getElem?_cons_zero, List.getElem?_cons_succ, reduceIte, Nat.reduceEqDiff, Nat.reduceAdd, Nat.reduceMul, Nat.reduceLeDiff, Nat.zero_add, Nat.add_zero, Option.map_some, Int.reduceEq, Int.reduceLT, Int.reduceLE, Bool.false_eq_true, decide_true, decide_false, ge_iff_le, gt_iff_lt, set_get', i14, d23]; rfl) ?_))
    show Wc T _ _ _
    refine Wc_cond true (by simp [ev, upd]) (fun _ => ?_) (fun h => by cases h)
    have nb : numB c f x at' = (decide (0 ≤ x.k ∧ x.k < c.funcs.length) && ((c.funcs[x.k.toNat]?).map fun g => decide ((x.l.length : Int) = g.params)).getD false) := by simp only [numB, if_neg o4, if_neg o5, if_neg o3, if_neg o2, if_pos o23]
    by_cases q0 : 0 ≤ x.k
    case neg =>
      have z0 : decide (0 ≤ x.k) = false := by simpa using q0
      refine Wc_seq (Wc_draw_calm rfl (Wo_run (fun call => by simp only [List.drop_succ_cons, List.drop_zero, iops_nil, iops_op, iops_grd, iK_some, iG_true, iG_false, gval_bool, beq_true, beq_false, Bool.not_true, Bool.not_false, iop, ev, upd, dstUpd, binV, binI, unV, ptr, Heap.cell, Heap.write, cellsOf, put, args0, partL, List.getD_cons_zero, List.getD_cons_succ, List.length_cons, List.length_nil, List.set_cons_zero, List.set_cons_succ, List.getElem?_cons_zero, List.getElem?_cons_succ, reduceIte, Nat.reduceEqDiff, Nat.reduceAdd, Nat.reduceMul, Nat.reduceLeDiff, Nat.zero_add, Nat.add_zero, Option.map_some, Int.reduceEq, Int.reduceLT, Int.reduceLE, Bool.false_eq_true, decide_true, decide_false, ge_iff_le, gt_iff_lt, set_get', g3, g4, g7', Fn.cells, Ins.cells, Cod.cells, hlv, hcv, hfv, i2, i3, i4, i7, z0]; rfl) ?_))
      exact ⟨rfl, Wc_ret (fin _ false (by simp [upd, dstUpd]) (by rw [nb, show decide (0 ≤ x.k ∧ x.k < (c.funcs.length : Int)) = false from by simp only [decide_eq_false_iff_not]; omega]; rfl))⟩
    have p0 : decide (0 ≤ x.k) = true := by simpa using q0
    by_cases q1 : x.k < (c.funcs.length : Int)
    case neg =>
      have z1 : decide (x.k < (c.funcs.length : Int)) = false := by simpa using q1
      refine Wc_seq (Wc_draw_calm rfl (Wo_run (fun call => by simp only [List.drop_succ_cons, List.drop_zero, iops_nil, iops_op, iops_grd, iK_some, iG_true, iG_false, gval_bool, beq_true, beq_false, Bool.not_true, Bool.not_false, iop, ev, upd, dstUpd, binV, binI, unV, ptr, Heap.cell, Heap.write, cellsOf, put, args0, partL, List.getD_cons_zero, List.getD_cons_succ, List.length_cons, List.length_nil, List.set_cons_zero, List.set_cons_succ, List.getElem?_cons_zero, List.getElem?_cons_succ, reduceIte, Nat.reduceEqDiff, Nat.reduceAdd, Nat.reduceMul, Nat.reduceLeDiff, Nat.zero_add, Nat.add_zero, Option.map_some, Int.reduceEq, Int.reduceLT, Int.reduceLE, Bool.false_eq_true, decide_true, decide_false, ge_iff_le, gt_iff_lt, set_get', g3, g4, g7', Fn.cells, Ins.cells, Cod.cells, hlv, hcv, hfv, i2, i3, i4, i7, p0, z1]; rfl) ?_))
      exact ⟨rfl, Wc_ret (fin _ false (by simp [upd, dstUpd]) (by rw [nb, show decide (0 ≤ x.k ∧ x.k < (c.funcs.length : Int)) = false from by simp only [decide_eq_false_iff_not]; omega]; rfl))⟩
    have p1 : decide (x.k < (c.funcs.length : Int)) = true := by simpa using q1
    obtain ⟨g, hg⟩ : ∃ g, c.funcs[x.k.toNat]? = some g := ⟨_, List.getElem?_eq_getElem (by omega)⟩
    obtain ⟨bf, cf2, hfv2, hbf, ⟨of, zf, hgf⟩, _, hgin⟩ := ((hc.keep hk).funcs).load fnCells_len hg
    have hidx : idxV c.funcs.length (.int .i64 x.k) = some x.k.toNat := by simp only [idxV]; rw [if_pos (by omega)]
    have hgq : (c.funcs.flatMap Fn.cells)[x.k.toNat * 4 + 1]? = some (.int .i64 g.params) := by
      have := flat_drop fnCells_len c.funcs x.k.toNat g hg
      have h2 : ((c.funcs.flatMap Fn.cells).drop (x.k.toNat * 4))[1]? = (((c.funcs.flatMap Fn.cells).drop (x.k.toNat * 4)).take 4)[1]? := by rw [List.getElem?_take_of_lt (by omega)]
      rw [this, List.getElem?_drop] at h2
      rw [h2]; rfl
    by_cases q2 : (x.l.length : Int) = g.params
    case neg =>
      have z2 : ((x.l.length : Int) == g.params) = false := by simpa using q2
      refine Wc_seq (Wc_draw_calm rfl (Wo_run (fun call => by simp only [List.drop_succ_cons, List.drop_zero, iops_nil, iops_op, iops_grd, iK_some, iG_true, iG_false, gval_bool, beq_true, beq_false, Bool.not_true, Bool.not_false, iop, ev, upd, dstUpd, binV, binI, unV, ptr, Heap.cell, Heap.write, cellsOf, put, args0, partL, List.getD_cons_zero, List.getD_cons_succ, List.length_cons, List.length_nil, List.set_cons_zero, List.set_cons_succ, List.getElem?_cons_zero, List.getElem?_cons_succ, reduceIte, Nat.reduceEqDiff, Nat.reduceAdd, Nat.reduceMul, Nat.reduceLeDiff, Nat.zero_add, Nat.add_zero, Option.map_some, Int.reduceEq, Int.reduceLT, Int.reduceLE, Bool.false_eq_true, decide_true, decide_false, ge_iff_le, gt_iff_lt, set_get', g3, g4, g7', Fn.cells, Ins.cells, Cod.cells, hlv, hcv, hfv2, hidx, hgf, hgq, i2, i3, i4, i7, p0, p1, z2]; rfl) ?_))
      exact ⟨rfl, Wc_ret (fin _ false (by simp [upd, dstUpd]) (by rw [nb, hg]; simp [q2]))⟩
    have p2 : ((x.l.length : Int) == g.params) = true := by simpa using q2
    refine Wc_seq (Wc_draw_calm rfl (Wo_run (fun call => by simp only [List.drop_succ_cons, List.drop_zero, iops_nil, iops_op, iops_grd, iK_some, iG_true, iG_false, gval_bool, beq_true, beq_false, Bool.not_true, Bool.not_false, iop, ev, upd, dstUpd, binV, binI, unV, ptr, Heap.cell, Heap.write, cellsOf, put, args0, partL, List.getD_cons_zero, List.getD_cons_succ, List.length_cons, List.length_nil, List.set_cons_zero, List.set_cons_succ, List.getElem?_cons_zero, List.getElem?_cons_succ, reduceIte, Nat.reduceEqDiff, Nat.reduceAdd, Nat.reduceMul, Nat.reduceLeDiff, Nat.zero_add, Nat.add_zero, Option.map_some, Int.reduceEq, Int.reduceLT, Int.reduceLE, Bool.false_eq_true, decide_true, decide_false, ge_iff_le, gt_iff_lt, set_get', g3, g4, g7', Fn.cells, Ins.cells, Cod.cells, hlv, hcv, hfv2, hidx, hgf, hgq, i2, i3, i4, i7, p0, p1, p2]; rfl) ?_))
    exact ⟨rfl, Wc_ret (fin _ true (by simp [upd, dstUpd]) (by rw [nb, hg]; simp [q2]; omega))⟩
  have d23 : (x.op == 23) = false := by simpa using o23
  refine Wc_seq (Wc_ops (Wo_run (fun call => by simp only [List.drop_succ_cons, List.drop_zero, iops_nil, iops_op, iops_grd, iK_some, iG_true, iG_false, gval_bool, beq_true, beq_false, Bool.not_true, Bool.not_false, iop, ev, upd, dstUpd, binV, binI, unV, ptr, Heap.cell, Heap.write, cellsOf, put, args0, partL, List.getD_cons_zero, List.getD_cons_succ, List.length_cons, List.length_nil, List.set_cons_zero, List.set_cons_succ, List.getElem?_cons_zero, List.getElem?_cons_succ, reduceIte, Nat.reduceEqDiff, Nat.reduceAdd, Nat.reduceMul, Nat.reduceLeDiff, Nat.zero_add, Nat.add_zero, Option.map_some, Int.reduceEq, Int.reduceLT, Int.reduceLE, Bool.false_eq_true, decide_true, decide_false, ge_iff_le, gt_iff_lt, set_get', i14, d23]; rfl) ?_))
  show Wc T _ _ _
  refine Wc_cond false (by simp [ev, upd]) (fun h => by cases h) (fun _ => ?_)
  by_cases o27 : x.op = 27
  · have d27 : (x.op == 27) = true := by simpa using o27
    refine Wc_seq (Wc_ops (Wo_run (fun call => by simp only [List.drop_succ_cons, List.drop_zero, iops_nil, iops_op, iops_grd, iK_some, iG_true, iG_false, gval_bool, beq_true, beq_false, Bool.not_true, Bool.not_false, iop, ev, upd, dstUpd, binV, binI, unV, ptr, Heap.cell, Heap.write, cellsOf, put, args0, partL, List.getD_cons_zero, List.getD_cons_succ, List.length_cons, List.length_nil, List.set_cons_zero, List.set_cons_succ, List.getElem?_cons_zero, List.getElem?_cons_succ, reduceIte, Nat.reduceEqDiff, Nat.reduceAdd, Nat.reduceMul, Nat.reduceLeDiff, Nat.zero_add, Nat.add_zero, Option.map_some, Int.reduceEq, Int.reduceLT, Int.reduceLE, Bool.false_eq_true, decide_true, decide_false, ge_iff_le, gt_iff_lt, set_get', i14, d27]; rfl) ?_))
    show Wc T _ _ _
    refine Wc_cond true (by simp [ev, upd]) (fun _ => ?_) (fun h => by cases h)
    by_cases q0 : 0 ≤ x.k
    case neg =>
      have z0 : (decide (0 ≤ x.k)) = false := by simpa using q0
      refine Wc_seq (Wc_ops (Wo_run (fun call => by simp only [List.drop_succ_cons, List.drop_zero, iops_nil, iops_op, iops_grd, iK_some, iG_true, iG_false, gval_bool, beq_true, beq_false, Bool.not_true, Bool.not_false, iop, ev, upd, dstUpd, binV, binI, unV, ptr, Heap.cell, Heap.write, cellsOf, put, args0, partL, List.getD_cons_zero, List.getD_cons_succ, List.length_cons, List.length_nil, List.set_cons_zero, List.set_cons_succ, List.getElem?_cons_zero, List.getElem?_cons_succ, reduceIte, Nat.reduceEqDiff, Nat.reduceAdd, Nat.reduceMul, Nat.reduceLeDiff, Nat.zero_add, Nat.add_zero, Option.map_some, Int.reduceEq, Int.reduceLT, Int.reduceLE, Bool.false_eq_true, decide_true, decide_false, ge_iff_le, gt_iff_lt, set_get', g3, g4, g7', Fn.cells, Ins.cells, Cod.cells, hlv, hcv, hfv, i2, i3, i4, i7, z0]; rfl) ?_))
      exact Wc_ret (fin _ false (by simp [upd, dstUpd]) (by simp only [numB, if_neg o4, if_neg o5, if_neg o3, if_neg o2, if_neg o23, if_pos o27, decide_eq_true_eq, decide_eq_false_iff_not]; omega))
    have p0 : (decide (0 ≤ x.k)) = true := by simpa using q0
    by_cases q1 : x.k < c.merges
    case neg =>
      have z1 : (decide (x.k < c.merges)) = false := by simpa using q1
      refine Wc_seq (Wc_ops (Wo_run (fun call => by simp only [List.drop_succ_cons, List.drop_zero, iops_nil, iops_op, iops_grd, iK_some, iG_true, iG_false, gval_bool, beq_true, beq_false, Bool.not_true, Bool.not_false, iop, ev, upd, dstUpd, binV, binI, unV, ptr, Heap.cell, Heap.write, cellsOf, put, args0, partL, List.getD_cons_zero, List.getD_cons_succ, List.length_cons, List.length_nil, List.set_cons_zero, List.set_cons_succ, List.getElem?_cons_zero, List.getElem?_cons_succ, reduceIte, Nat.reduceEqDiff, Nat.reduceAdd, Nat.reduceMul, Nat.reduceLeDiff, Nat.zero_add, Nat.add_zero, Option.map_some, Int.reduceEq, Int.reduceLT, Int.reduceLE, Bool.false_eq_true, decide_true, decide_false, ge_iff_le, gt_iff_lt, set_get', g3, g4, g7', Fn.cells, Ins.cells, Cod.cells, hlv, hcv, hfv, i2, i3, i4, i7, p0, z1]; rfl) ?_))
      exact Wc_ret (fin _ false (by simp [upd, dstUpd]) (by simp only [numB, if_neg o4, if_neg o5, if_neg o3, if_neg o2, if_neg o23, if_pos o27, decide_eq_true_eq, decide_eq_false_iff_not]; omega))
    have p1 : (decide (x.k < c.merges)) = true := by simpa using q1
    by_cases q2 : (x.l.length : Int) ≤ 4
    case neg =>
      have z2 : (decide ((x.l.length : Int) ≤ 4)) = false := by simpa using q2
      refine Wc_seq (Wc_ops (Wo_run (fun call => by simp only [List.drop_succ_cons, List.drop_zero, iops_nil, iops_op, iops_grd, iK_some, iG_true, iG_false, gval_bool, beq_true, beq_false, Bool.not_true, Bool.not_false, iop, ev, upd, dstUpd, binV, binI, unV, ptr, Heap.cell, Heap.write, cellsOf, put, args0, partL, List.getD_cons_zero, List.getD_cons_succ, List.length_cons, List.length_nil, List.set_cons_zero, List.set_cons_succ, List.getElem?_cons_zero, List.getElem?_cons_succ, reduceIte, Nat.reduceEqDiff, Nat.reduceAdd, Nat.reduceMul, Nat.reduceLeDiff, Nat.zero_add, Nat.add_zero, Option.map_some, Int.reduceEq, Int.reduceLT, Int.reduceLE, Bool.false_eq_true, decide_true, decide_false, ge_iff_le, gt_iff_lt, set_get', g3, g4, g7', Fn.cells, Ins.cells, Cod.cells, hlv, hcv, hfv, i2, i3, i4, i7, p0, p1, z2]; rfl) ?_))
      exact Wc_ret (fin _ false (by simp [upd, dstUpd]) (by simp only [numB, if_neg o4, if_neg o5, if_neg o3, if_neg o2, if_neg o23, if_pos o27, decide_eq_true_eq, decide_eq_false_iff_not]; omega))
    have p2 : (decide ((x.l.length : Int) ≤ 4)) = true := by simpa using q2
    refine Wc_seq (Wc_ops (Wo_run (fun call => by simp only [List.drop_succ_cons, List.drop_zero, iops_nil, iops_op, iops_grd, iK_some, iG_true, iG_false, gval_bool, beq_true, beq_false, Bool.not_true, Bool.not_false, iop, ev, upd, dstUpd, binV, binI, unV, ptr, Heap.cell, Heap.write, cellsOf, put, args0, partL, List.getD_cons_zero, List.getD_cons_succ, List.length_cons, List.length_nil, List.set_cons_zero, List.set_cons_succ, List.getElem?_cons_zero, List.getElem?_cons_succ, reduceIte, Nat.reduceEqDiff, Nat.reduceAdd, Nat.reduceMul, Nat.reduceLeDiff, Nat.zero_add, Nat.add_zero, Option.map_some, Int.reduceEq, Int.reduceLT, Int.reduceLE, Bool.false_eq_true, decide_true, decide_false, ge_iff_le, gt_iff_lt, set_get', g3, g4, g7', Fn.cells, Ins.cells, Cod.cells, hlv, hcv, hfv, i2, i3, i4, i7, p0, p1, p2]; rfl) ?_))
    exact Wc_ret (fin _ true (by simp [upd, dstUpd]) (by simp only [numB, if_neg o4, if_neg o5, if_neg o3, if_neg o2, if_neg o23, if_pos o27, decide_eq_true_eq, decide_eq_false_iff_not]; omega))
  have d27 : (x.op == 27) = false := by simpa using o27
  refine Wc_seq (Wc_ops (Wo_run (fun call => by simp only [List.drop_succ_cons, List.drop_zero, iops_nil, iops_op, iops_grd, iK_some, iG_true, iG_false, gval_bool, beq_true, beq_false, Bool.not_true, Bool.not_false, iop, ev, upd, dstUpd, binV, binI, unV, ptr, Heap.cell, Heap.write, cellsOf, put, args0, partL, List.getD_cons_zero, List.getD_cons_succ, List.length_cons, List.length_nil, List.set_cons_zero, List.set_cons_succ, List.getElem?_cons_zero, List.getElem?_cons_succ, reduceIte, Nat.reduceEqDiff, Nat.reduceAdd, Nat.reduceMul, Nat.reduceLeDiff, Nat.zero_add, Nat.add_zero, Option.map_some, Int.reduceEq, Int.reduceLT, Int.reduceLE, Bool.false_eq_true, decide_true, decide_false, ge_iff_le, gt_iff_lt, set_get', i14, d27]; rfl) ?_))
  show Wc T _ _ _
  refine Wc_cond false (by simp [ev, upd]) (fun h => by cases h) (fun _ => ?_)
  refine Wc_skip ?_
  show Wc T _ _ _
  refine Wc_seq (Wc_ops (Wo_run (fun call => by simp only [List.drop_succ_cons, List.drop_zero, iops_nil, iops_op, iops_grd, iK_some, iG_true, iG_false, gval_bool, beq_true, beq_false, Bool.not_true, Bool.not_false, iop, ev, upd, dstUpd, binV, binI, unV, ptr, Heap.cell, Heap.write, cellsOf, put, args0, partL, List.getD_cons_zero, List.getD_cons_succ, List.length_cons, List.length_nil, List.set_cons_zero, List.set_cons_succ, List.getElem?_cons_zero, List.getElem?_cons_succ, reduceIte, Nat.reduceEqDiff, Nat.reduceAdd, Nat.reduceMul, Nat.reduceLeDiff, Nat.zero_add, Nat.add_zero, Option.map_some, Int.reduceEq, Int.reduceLT, Int.reduceLE, Bool.false_eq_true, decide_true, decide_false, ge_iff_le, gt_iff_lt, set_get']; rfl) ?_))
  exact Wc_ret (fin _ true (by simp [upd, dstUpd]) (by simp only [numB, if_neg o4, if_neg o5, if_neg o3, if_neg o2, if_neg o23, if_neg o27]))

end Go.Idl
end

section
/- The reference: an instruction. -/
namespace Go.Idl
set_option linter.unusedVariables false
set_option linter.unusedSimpArgs false
set_option maxRecDepth 100000

/-- What stays in ins23. -/
structure F23 (h1 : Heap) (n0 at' : Nat) (x : Ins) (e : Env) (hp : Heap) : Prop where
  k : Kept h1 hp
  e2 : e 2 = .int .i64 at'
  e3 : e 3 = ptr n0 0
  e4 : e 4 = ptr (n0 + 1) 0
  e7 : e 7 = ptr (n0 + 2) 0
  e9 : e 9 = .string ⟨(fieldsOf x).toArray⟩
  e10 : e 10 = .string ⟨(rd x).toArray⟩
  e11 : e 11 = .string ⟨(wr x).toArray⟩

theorem F23.upd {h1 : Heap} {n0 at' : Nat} {x : Ins} {e : Env} {hp : Heap} (F : F23 h1 n0 at' x e hp) {j : Nat} {v : Value} (hj : 11 < j ∨ j = 6) : F23 h1 n0 at' x (upd e j v) hp := by
  obtain ⟨k, e2, e3, e4, e7, e9, e10, e11⟩ := F
  refine ⟨k, ?_, ?_, ?_, ?_, ?_, ?_, ?_⟩ <;> simp only [Go.Idl.upd] <;> rw [if_neg (by omega)] <;> assumption
theorem F23.heap {h1 : Heap} {n0 at' : Nat} {x : Ins} {e : Env} {hp hq : Heap} (F : F23 h1 n0 at' x e hp) (hk : Kept hp hq) : F23 h1 n0 at' x e hq := ⟨F.k.trans hk, F.e2, F.e3, F.e4, F.e7, F.e9, F.e10, F.e11⟩

theorem ins23 {T : Tbl} (hT : T.fn 23 = some C23) (h28 : T.fn 28 = some C28) (h40 : T.fn 40 = some C40) (h41 : T.fn 41 = some C41) (h27 : ∀ {op : Int} {h : Heap} {K : Out → Heap → Prop}, K (.ret (.tuple (rowL op).toArray)) h → Wk T (.fn 27) [.int .i64 op] h K)
    {h : Heap} {c : Cod} {f : Fn} {x : Ins} {at' : Nat} (hc : c.Ok h) (hf : f.Ok h) (hx : f.code[at']? = some x) :
    Wk T (.fn 23) [.agg c.cells.toArray, .agg f.cells.toArray, .int .i64 at'] h (fun o h' => Kept h h' ∧ o = .ret (.bool (insB c f x at'))) := by
  refine Wk_fn hT (by simp [C23]) ?_
  have hb : iop (.box (.t 0)) (args0 [.agg c.cells.toArray, .agg f.cells.toArray, .int .i64 at']) h = some (ptr h.next 0, h.new (.cells c.cells true 0)) := by simp [iop, ev, args0, cellsOf]
  have hb2 : iop (.box (.t 1)) (dstUpd (args0 [.agg c.cells.toArray, .agg f.cells.toArray, .int .i64 at']) (some 3) (ptr h.next 0)) (h.new (.cells c.cells true 0)) = some (ptr (h.next + 1) 0, (h.new (.cells c.cells true 0)).new (.cells f.cells true 0)) := by simp [iop, ev, args0, cellsOf, dstUpd, upd, new_next]
  simp only [C23]
  refine Wc_seq (Wc_ops (Wo_op hb (Wo_op hb2 (Wo_run (fun call => by simp only [List.drop_succ_cons, List.drop_zero, iops_nil, iops_op, iops_grd, iK_some, iG_true, iG_false, gval_bool, beq_true, beq_false, Bool.not_true, Bool.not_false, iop, ev, upd, dstUpd, binV, binI, unV, ptr, Heap.cell, Heap.write, cellsOf, put, args0, partL, List.getD_cons_zero, List.getD_cons_succ, List.length_cons, List.length_nil, List.set_cons_zero, List.set_cons_succ, List.getElem?_cons_zero, List.getElem?_cons_succ, reduceIte, Nat.reduceEqDiff, Nat.reduceAdd, Nat.reduceMul, Nat.reduceLeDiff, Nat.zero_add, Nat.add_zero, Option.map_some, Int.reduceEq, Int.reduceLT, Int.reduceLE, Bool.false_eq_true, decide_true, decide_false, ge_iff_le, gt_iff_lt, set_get']; rfl) ?_))))
  show Wc T _ _ _
  have g4a : ((h.new (.cells c.cells true 0)).new (.cells f.cells true 0)).get (h.next + 1) = some (.cells f.cells true 0) := new_get' _ _
  have g3a : ((h.new (.cells c.cells true 0)).new (.cells f.cells true 0)).get h.next = some (.cells c.cells true 0) := by rw [new_get_ne' _ _ (by rw [new_next]; omega), new_get']
  have hka : Kept h ((h.new (.cells c.cells true 0)).new (.cells f.cells true 0)) := ((Kept.refl h).new _).new _
  have hna : ((h.new (.cells c.cells true 0)).new (.cells f.cells true 0)).next = h.next + 2 := rfl
  generalize (h.new (.cells c.cells true 0)).new (.cells f.cells true 0) = ha at g4a g3a hka hna ⊢
  have hlt : at' < f.code.length := (List.getElem?_eq_some_iff.1 hx).1
  obtain ⟨bx, cx, hva, hbx, _, hcx, hxin⟩ := ((hf.keep hka).code).load insCells_len hx
  refine Wc_seq (Wc_ops (Wo_pre 3 (fun call => by simp only [List.take_succ_cons, List.take_zero, List.drop_succ_cons, List.drop_zero, iops_nil, iops_op, iops_grd, iK_some, iG_true, iG_false, gval_bool, beq_true, beq_false, Bool.not_true, Bool.not_false, iop, ev, upd, dstUpd, binV, binI, unV, ptr, Heap.cell, Heap.write, cellsOf, put, args0, partL, List.getD_cons_zero, List.getD_cons_succ, List.length_cons, List.length_nil, List.set_cons_zero, List.set_cons_succ, List.getElem?_cons_zero, List.getElem?_cons_succ, reduceIte, Nat.reduceEqDiff, Nat.reduceAdd, Nat.reduceMul, Nat.reduceLeDiff, Nat.zero_add, Nat.add_zero, Option.map_some, Int.reduceEq, Int.reduceLT, Int.reduceLE, Bool.false_eq_true, decide_true, decide_false, ge_iff_le, gt_iff_lt, set_get', g4a, Fn.cells]; rfl) ?_))
  refine Wo_op (iop_iaddr (b := bx) (len := f.code.length) (c := cx) (i := at') (by simp only [upd, dstUpd, reduceIte, Nat.reduceEqDiff]; exact hva) (by simp only [upd, dstUpd, reduceIte, Nat.reduceEqDiff, args0, List.getD_cons_succ, List.getD_cons_zero]) hlt) (Wo_op (iop_load (b := bx) (o := at' * 6) (cs := x.cells) (by simp only [upd, dstUpd, reduceIte, Nat.reduceEqDiff]) hcx) (Wo_op rfl (Wo_op (iop_store (b := ha.next) (esz := 0) (cs := x.cells) (z := [(.int .i64 0), (.int .i64 0), (.int .i64 0), (.int .i64 0), (.int .i64 0), (.slice none 0 0)]) (by simp only [upd, dstUpd, reduceIte, Nat.reduceEqDiff]) (by simp only [upd, dstUpd, reduceIte, Nat.reduceEqDiff]) rfl (new_get' _ _) rfl) (Wo_nil ?_))))
  show Wc T _ _ _
  have hkb : Kept ha ((ha.new (.cells [(.int .i64 0), (.int .i64 0), (.int .i64 0), (.int .i64 0), (.int .i64 0), (.slice none 0 0)] true 0)).set ha.next (.cells x.cells true 0)) := ((Kept.refl ha).new _).set (Nat.le_refl _) _
  have hnb : ((ha.new (.cells [(.int .i64 0), (.int .i64 0), (.int .i64 0), (.int .i64 0), (.int .i64 0), (.slice none 0 0)] true 0)).set ha.next (.cells x.cells true 0)).next = h.next + 3 := by rw [set_next, new_next, hna]
  have g7' : ((ha.new (.cells [(.int .i64 0), (.int .i64 0), (.int .i64 0), (.int .i64 0), (.int .i64 0), (.slice none 0 0)] true 0)).set ha.next (.cells x.cells true 0)).get ha.next = some (.cells x.cells true 0) := set_get' _ _ _
  generalize (ha.new (.cells [(.int .i64 0), (.int .i64 0), (.int .i64 0), (.int .i64 0), (.int .i64 0), (.slice none 0 0)] true 0)).set ha.next (.cells x.cells true 0) = h1 at hkb g7' hnb ⊢
  rw [hna] at g7'
  have hk : Kept h h1 := hka.trans hkb
  have g4 : ∀ {hq : Heap}, Kept h1 hq → hq.get (h.next + 1) = some (.cells f.cells true 0) := fun k => by rw [k.get _ (by omega), hkb.get _ (by omega)]; exact g4a
  have g3 : ∀ {hq : Heap}, Kept h1 hq → hq.get h.next = some (.cells c.cells true 0) := fun k => by rw [k.get _ (by omega), hkb.get _ (by omega)]; exact g3a
  have g7 : ∀ {hq : Heap}, Kept h1 hq → hq.get (h.next + 2) = some (.cells x.cells true 0) := fun k => by rw [k.get _ (by omega)]; exact g7'
  have hxin1 : x.Ok h1 := hxin.keep hkb
  obtain ⟨pl, cl, hlv⟩ := hxin.ints.len
  obtain ⟨pc, cc, hcv⟩ := hf.code.len
  obtain ⟨pf, cf, hfv⟩ := hc.funcs.len
  obtain ⟨hr3, hasc⟩ := rd_ok x
  obtain ⟨hf8, hw8, hfa, hwa⟩ := row_ok2 x
  have fin : ∀ (e : Env) (hq : Heap) (b : Bool), Kept h1 hq → e 6 = .bool b → insB c f x at' = b → ((Ex.ret = .normal ∨ Ex.ret = .ret) ∧ some ([] : List Dfr) = some [] ∧ ∃ vs, resAll e hq [.tmp 6] = some vs ∧ Kept h hq ∧ Out.ret (tup vs) = .ret (.bool (insB c f x at'))) := by
    intro e hq b hkq h6 hn
    exact ⟨.inr rfl, rfl, [.bool b], by simp only [resAll, resV, h6], hk.trans hkq, by rw [hn]; rfl⟩
  have bad : ∀ (e : Env) (hq : Heap), Kept h1 hq → e 6 = .bool false → preB f x at' = false → ((Ex.ret = .normal ∨ Ex.ret = .ret) ∧ some ([] : List Dfr) = some [] ∧ ∃ vs, resAll e hq [.tmp 6] = some vs ∧ Kept h hq ∧ Out.ret (tup vs) = .ret (.bool (insB c f x at'))) := fun e hq hkq h6 hp => fin e hq false hkq h6 (by simp [insB, hp])
  have hr1 : rowL x.op = [.string ⟨(nameOf x).toArray⟩, .string ⟨(fieldsOf x).toArray⟩, .string ⟨(rd x).toArray⟩, .string ⟨(wr x).toArray⟩] := rfl
  refine Wc_seq (Wc_ops (Wo_pre 2 (fun call => by simp only [List.take_succ_cons, List.take_zero, List.drop_succ_cons, List.drop_zero, iops_nil, iops_op, iops_grd, iK_some, iG_true, iG_false, gval_bool, beq_true, beq_false, Bool.not_true, Bool.not_false, iop, ev, upd, dstUpd, binV, binI, unV, ptr, Heap.cell, Heap.write, cellsOf, put, args0, partL, List.getD_cons_zero, List.getD_cons_succ, List.length_cons, List.length_nil, List.set_cons_zero, List.set_cons_succ, List.getElem?_cons_zero, List.getElem?_cons_succ, reduceIte, Nat.reduceEqDiff, Nat.reduceAdd, Nat.reduceMul, Nat.reduceLeDiff, Nat.zero_add, Nat.add_zero, Option.map_some, Int.reduceEq, Int.reduceLT, Int.reduceLE, Bool.false_eq_true, decide_true, decide_false, ge_iff_le, gt_iff_lt, set_get', hna, g7', Ins.cells]; rfl) ?_))
  refine Wo_call (h27 ?_)
  show Wo T _ _ _
  rw [hr1]
  refine (Wo_run (fun call => by simp only [List.drop_succ_cons, List.drop_zero, iops_nil, iops_op, iops_grd, iK_some, iG_true, iG_false, gval_bool, beq_true, beq_false, Bool.not_true, Bool.not_false, iop, ev, upd, dstUpd, binV, binI, unV, ptr, Heap.cell, Heap.write, cellsOf, put, args0, partL, List.getD_cons_zero, List.getD_cons_succ, List.length_cons, List.length_nil, List.set_cons_zero, List.set_cons_succ, List.getElem?_cons_zero, List.getElem?_cons_succ, reduceIte, Nat.reduceEqDiff, Nat.reduceAdd, Nat.reduceMul, Nat.reduceLeDiff, Nat.zero_add, Nat.add_zero, Option.map_some, Int.reduceEq, Int.reduceLT, Int.reduceLE, Bool.false_eq_true, decide_true, decide_false, ge_iff_le, gt_iff_lt, set_get', List.toList_toArray]; rfl) ?_)
  show Wc T _ _ _
  have hd : decide ((⟨(nameOf x).toArray⟩ : ByteArray) = ⟨#[]⟩) = decide (nameOf x = []) := str_empty _
  refine Wc_mid (fun s => s.d = some [] ∧ F23 h1 h.next at' x s.e s.h ∧ ¬ nameOf x = []) ?_ ?_
  · refine Wc_seq (Wc_ops (Wo_run (fun call => by simp only [List.drop_succ_cons, List.drop_zero, iops_nil, iops_op, iops_grd, iK_some, iG_true, iG_false, gval_bool, beq_true, beq_false, Bool.not_true, Bool.not_false, iop, ev, upd, dstUpd, binV, binI, unV, ptr, Heap.cell, Heap.write, cellsOf, put, args0, partL, List.getD_cons_zero, List.getD_cons_succ, List.length_cons, List.length_nil, List.set_cons_zero, List.set_cons_succ, List.getElem?_cons_zero, List.getElem?_cons_succ, reduceIte, Nat.reduceEqDiff, Nat.reduceAdd, Nat.reduceMul, Nat.reduceLeDiff, Nat.zero_add, Nat.add_zero, Option.map_some, Int.reduceEq, Int.reduceLT, Int.reduceLE, Bool.false_eq_true, decide_true, decide_false, ge_iff_le, gt_iff_lt, set_get', hd]; rfl) ?_))
    show Wc T _ _ _
    refine Wc_cond (decide (nameOf x = [])) (by simp [ev, upd]) (fun h => ?_) (fun h => Wc_skip ?_)
    · refine Wc_seq (Wc_ops (Wo_run (fun call => by simp only [List.drop_succ_cons, List.drop_zero, iops_nil, iops_op, iops_grd, iK_some, iG_true, iG_false, gval_bool, beq_true, beq_false, Bool.not_true, Bool.not_false, iop, ev, upd, dstUpd, binV, binI, unV, ptr, Heap.cell, Heap.write, cellsOf, put, args0, partL, List.getD_cons_zero, List.getD_cons_succ, List.length_cons, List.length_nil, List.set_cons_zero, List.set_cons_succ, List.getElem?_cons_zero, List.getElem?_cons_succ, reduceIte, Nat.reduceEqDiff, Nat.reduceAdd, Nat.reduceMul, Nat.reduceLeDiff, Nat.zero_add, Nat.add_zero, Option.map_some, Int.reduceEq, Int.reduceLT, Int.reduceLE, Bool.false_eq_true, decide_true, decide_false, ge_iff_le, gt_iff_lt, set_get']; rfl) ?_))
      refine Wc_ret (bad _ _ (.refl _) (by simp [upd]) ?_)
      simp only [preB, h, Bool.not_true, Bool.false_and]
    · exact ⟨rfl, ⟨.refl _, by simp [upd, dstUpd, args0], by simp [upd, dstUpd, ptr], by simp [upd, dstUpd, ptr], by simp [upd, dstUpd, ptr, hna], by simp [upd, dstUpd], by simp [upd, dstUpd], by simp [upd, dstUpd]⟩, by simpa using h⟩
  rintro ⟨e, hp, d⟩ ⟨hdd, F, hname⟩
  simp only at hdd F
  subst hdd
  -- the letters
  refine Wc_mid (fun s => s.d = some [] ∧ F23 h1 h.next at' x s.e s.h ∧ [65, 66, 67].all (letB f x) = true) ?_ ?_
  · refine Wc_seq (Wc_ops (Wo_run (fun call => by simp only [List.drop_succ_cons, List.drop_zero, iops_nil, iops_op, iops_grd, iK_some, iG_true, iG_false, gval_bool, beq_true, beq_false, Bool.not_true, Bool.not_false, iop, ev, upd, dstUpd, binV, binI, unV, ptr, Heap.cell, Heap.write, cellsOf, put, args0, partL, List.getD_cons_zero, List.getD_cons_succ, List.length_cons, List.length_nil, List.set_cons_zero, List.set_cons_succ, List.getElem?_cons_zero, List.getElem?_cons_succ, reduceIte, Nat.reduceEqDiff, Nat.reduceAdd, Nat.reduceMul, Nat.reduceLeDiff, Nat.zero_add, Nat.add_zero, Option.map_some, Int.reduceEq, Int.reduceLT, Int.reduceLE, Bool.false_eq_true, decide_true, decide_false, ge_iff_le, gt_iff_lt, set_get']; rfl) ?_))
    show Wc T _ _ _
    refine Wc_block (Wc_loop (fun s => s.d = some [] ∧ F23 h1 h.next at' x s.e s.h ∧ ∃ k : Nat, k ≤ 3 ∧ s.e 12 = .int .i64 k ∧ ∀ z ∈ ([65, 66, 67] : List UInt8).take k, letB f x z = true)
      (fun s => match s.e 12 with | .int _ k => (3 - k).toNat | _ => 0) ?_ ?_)
    · exact ⟨rfl, by ((try simp only [dstUpd]); repeat (first | exact F | refine F23.upd ?_ (by omega))), 0, by omega, by simp [upd], by simp⟩
    clear F
    rintro ⟨e, hp, d⟩ ⟨hdd, F, k, hkl, k12, hall⟩
    simp only at hdd F k12
    subst hdd
    rw [C23L0]
    refine Wc_seq (Wc_seq (Wc_ops (Wo_run (fun call => by simp only [List.drop_succ_cons, List.drop_zero, iops_nil, iops_op, iops_grd, iK_some, iG_true, iG_false, gval_bool, beq_true, beq_false, Bool.not_true, Bool.not_false, iop, ev, upd, dstUpd, binV, binI, unV, ptr, Heap.cell, Heap.write, cellsOf, put, args0, partL, List.getD_cons_zero, List.getD_cons_succ, List.length_cons, List.length_nil, List.set_cons_zero, List.set_cons_succ, List.getElem?_cons_zero, List.getElem?_cons_succ, reduceIte, Nat.reduceEqDiff, Nat.reduceAdd, Nat.reduceMul, Nat.reduceLeDiff, Nat.zero_add, Nat.add_zero, Option.map_some, Int.reduceEq, Int.reduceLT, Int.reduceLE, Bool.false_eq_true, decide_true, decide_false, ge_iff_le, gt_iff_lt, set_get', k12]; rfl) ?_)))
    show Wc T _ _ _
    refine Wc_cond (decide ((k : Int) < 3)) (by simp [ev, upd]) (fun hlt3 => Wc_skip ?_) (fun hge => Wc_exit ?_)
    case refine_2 =>
      have hk3 : k = 3 := by simp at hge; omega
      subst hk3
      exact ⟨rfl, by ((try simp only [dstUpd]); repeat (first | exact F | refine F23.upd ?_ (by omega))), List.all_eq_true.2 fun z hz => hall z hz⟩
    show Wc T _ _ _
    have hk3 : k < 3 := by simp at hlt3; omega
    have F2 : F23 h1 h.next at' x (upd (upd e 32 (.int .i64 k)) 33 (.bool (decide ((k : Int) < 3)))) hp := by ((try simp only [dstUpd]); repeat (first | exact F | refine F23.upd ?_ (by omega)))
    have k12' : (upd (upd e 32 (.int .i64 k)) 33 (.bool (decide ((k : Int) < 3)))) 12 = .int .i64 k := by simp [upd, k12]
    generalize upd (upd e 32 (.int .i64 k)) 33 (.bool (decide ((k : Int) < 3))) = e2 at F2 k12' ⊢
    clear F
    obtain ⟨z, hz⟩ : ∃ z, ([65, 66, 67] : List UInt8)[k]? = some z := ⟨_, List.getElem?_eq_getElem (by simpa using hk3)⟩
    have hmem := List.mem_of_getElem? hz
    have hz128 : z.toNat < 128 := by
      have : ∀ z ∈ ([65, 66, 67] : List UInt8), z.toNat < 128 := by decide
      exact this z hmem
    have badZ : letB f x z = false → preB f x at' = false := by
      intro hB
      have : [65, 66, 67].all (letB f x) = false := List.all_eq_false.2 ⟨z, hmem, by simp [hB]⟩
      simp only [preB, this, Bool.and_false, Bool.false_and]
    refine Wc_mid (fun s => s.d = some [] ∧ F23 h1 h.next at' x s.e s.h ∧ s.e 12 = .int .i64 k ∧ letB f x z = true) (Wc_block ?_) ?_
    · have hsi : ∀ (e' : Env), e' 36 = .int .i64 k → iop (.sidx (.c (.string ⟨#[65, 66, 67]⟩)) (.t 36)) e' hp = some (.int .u8 z.toNat, hp) := by
        intro e' he
        simp only [iop, ev, he, show idxV (⟨#[65, 66, 67]⟩ : ByteArray).size (.int .i64 k) = some k from idx_ok hk3]
        show Option.map _ (([65, 66, 67] : List UInt8)[k]?) = _
        rw [hz]; rfl
      refine Wc_seq (Wc_ops (Wo_pre 1 (fun call => by simp only [List.take_succ_cons, List.take_zero, List.drop_succ_cons, List.drop_zero, iops_nil, iops_op, iops_grd, iK_some, iG_true, iG_false, gval_bool, beq_true, beq_false, Bool.not_true, Bool.not_false, iop, ev, upd, dstUpd, binV, binI, unV, ptr, Heap.cell, Heap.write, cellsOf, put, args0, partL, List.getD_cons_zero, List.getD_cons_succ, List.length_cons, List.length_nil, List.set_cons_zero, List.set_cons_succ, List.getElem?_cons_zero, List.getElem?_cons_succ, reduceIte, Nat.reduceEqDiff, Nat.reduceAdd, Nat.reduceMul, Nat.reduceLeDiff, Nat.zero_add, Nat.add_zero, Option.map_some, Int.reduceEq, Int.reduceLT, Int.reduceLE, Bool.false_eq_true, decide_true, decide_false, ge_iff_le, gt_iff_lt, set_get', k12']; rfl) ?_))
      refine Wo_op (hsi _ (by simp [upd])) (Wo_run (fun call => by simp only [List.drop_succ_cons, List.drop_zero, iops_nil, iops_op, iops_grd, iK_some, iG_true, iG_false, gval_bool, beq_true, beq_false, Bool.not_true, Bool.not_false, iop, ev, upd, dstUpd, binV, binI, unV, ptr, Heap.cell, Heap.write, cellsOf, put, args0, partL, List.getD_cons_zero, List.getD_cons_succ, List.length_cons, List.length_nil, List.set_cons_zero, List.set_cons_succ, List.getElem?_cons_zero, List.getElem?_cons_succ, reduceIte, Nat.reduceEqDiff, Nat.reduceAdd, Nat.reduceMul, Nat.reduceLeDiff, Nat.zero_add, Nat.add_zero, Option.map_some, Int.reduceEq, Int.reduceLT, Int.reduceLE, Bool.false_eq_true, decide_true, decide_false, ge_iff_le, gt_iff_lt, set_get']; rfl) ?_)
      show Wc T _ _ _
      refine Wc_seq (Wc_ops (Wo_op (iop_load (b := h.next + 2) (o := 0) (cs := x.cells) (by simp only [upd, dstUpd, reduceIte, Nat.reduceEqDiff, F2.e7]) (cells_all (g7 F2.k) rfl)) (Wo_op rfl (Wo_call ?_))))
      show Wk T (.fn 28) [x.val, .int .u8 z.toNat] hp _
      refine (field28 h28 x z.toNat hp).mono fun o hq ⟨hkq, ho⟩ => ?_
      subst ho
      show Wo T _ _ _
      refine (Wo_run (fun call => by simp only [List.drop_succ_cons, List.drop_zero, iops_nil, iops_op, iops_grd, iK_some, iG_true, iG_false, gval_bool, beq_true, beq_false, Bool.not_true, Bool.not_false, iop, ev, upd, dstUpd, binV, binI, unV, ptr, Heap.cell, Heap.write, cellsOf, put, args0, partL, List.getD_cons_zero, List.getD_cons_succ, List.length_cons, List.length_nil, List.set_cons_zero, List.set_cons_succ, List.getElem?_cons_zero, List.getElem?_cons_succ, reduceIte, Nat.reduceEqDiff, Nat.reduceAdd, Nat.reduceMul, Nat.reduceLeDiff, Nat.zero_add, Nat.add_zero, Option.map_some, Int.reduceEq, Int.reduceLT, Int.reduceLE, Bool.false_eq_true, decide_true, decide_false, ge_iff_le, gt_iff_lt, set_get']; rfl) ?_)
      show Wc T _ _ _
      have F3 := F2.heap hkq
      have keep : ∀ {e' : Env}, (∀ j, j ≤ 12 → e' j = e2 j) → F23 h1 h.next at' x e' hq ∧ e' 12 = .int .i64 k := by
        intro e' he
        exact ⟨⟨F3.k, by rw [he _ (by omega)]; exact F3.e2, by rw [he _ (by omega)]; exact F3.e3, by rw [he _ (by omega)]; exact F3.e4, by rw [he _ (by omega)]; exact F3.e7, by rw [he _ (by omega)]; exact F3.e9, by rw [he _ (by omega)]; exact F3.e10, by rw [he _ (by omega)]; exact F3.e11⟩, by rw [he _ (by omega)]; exact k12'⟩
      refine Wc_mid (fun s => s.d = some [] ∧ F23 h1 h.next at' x s.e s.h ∧ s.h = hq ∧ s.e 12 = .int .i64 k ∧ s.e 13 = .int .u8 z.toNat ∧ s.e 14 = .int .i64 (fld x z.toNat) ∧ ((fieldsOf x).contains z || fld x z.toNat == 0) = true) ?_ ?_
      · refine Wc_seq (Wc_ops (Wo_pre 2 (fun call => by simp only [List.take_succ_cons, List.take_zero, List.drop_succ_cons, List.drop_zero, iops_nil, iops_op, iops_grd, iK_some, iG_true, iG_false, gval_bool, beq_true, beq_false, Bool.not_true, Bool.not_false, iop, ev, upd, dstUpd, binV, binI, unV, ptr, Heap.cell, Heap.write, cellsOf, put, args0, partL, List.getD_cons_zero, List.getD_cons_succ, List.length_cons, List.length_nil, List.set_cons_zero, List.set_cons_succ, List.getElem?_cons_zero, List.getElem?_cons_succ, reduceIte, Nat.reduceEqDiff, Nat.reduceAdd, Nat.reduceMul, Nat.reduceLeDiff, Nat.zero_add, Nat.add_zero, Option.map_some, Int.reduceEq, Int.reduceLT, Int.reduceLE, Bool.false_eq_true, decide_true, decide_false, ge_iff_le, gt_iff_lt, set_get', F3.e9]; rfl) ?_))
        refine Wo_call ?_
        show Wk T (.fn 40) [.string ⟨(fieldsOf x).toArray⟩, .int .u8 z.toNat] hq _
        refine (has40 h40 (fieldsOf x) (by omega) z hq).mono fun o hr ⟨u1, u2⟩ => ?_
        subst u1 u2
        show Wo T _ _ _
        cases h1c : (fieldsOf x).contains z with
        | true =>
          refine (Wo_run (fun call => by simp only [List.drop_succ_cons, List.drop_zero, iops_nil, iops_op, iops_grd, iK_some, iG_true, iG_false, gval_bool, beq_true, beq_false, Bool.not_true, Bool.not_false, iop, ev, upd, dstUpd, binV, binI, unV, ptr, Heap.cell, Heap.write, cellsOf, put, args0, partL, List.getD_cons_zero, List.getD_cons_succ, List.length_cons, List.length_nil, List.set_cons_zero, List.set_cons_succ, List.getElem?_cons_zero, List.getElem?_cons_succ, reduceIte, Nat.reduceEqDiff, Nat.reduceAdd, Nat.reduceMul, Nat.reduceLeDiff, Nat.zero_add, Nat.add_zero, Option.map_some, Int.reduceEq, Int.reduceLT, Int.reduceLE, Bool.false_eq_true, decide_true, decide_false, ge_iff_le, gt_iff_lt, set_get']; rfl) ?_)
          show Wc T _ _ _
          refine Wc_cond false (by simp [ev, upd, dstUpd]) (fun h => by cases h) (fun _ => Wc_skip ?_)
          obtain ⟨K1, K2⟩ := keep (e' := e2) (fun _ _ => rfl)
          exact ⟨rfl, by ((try simp only [dstUpd]); repeat (first | exact K1 | refine F23.upd ?_ (by omega))), rfl, by simp [upd, dstUpd, k12'], by simp [upd, dstUpd], by simp [upd, dstUpd], by simp⟩
        | false =>
          refine (Wo_run (fun call => by simp only [List.drop_succ_cons, List.drop_zero, iops_nil, iops_op, iops_grd, iK_some, iG_true, iG_false, gval_bool, beq_true, beq_false, Bool.not_true, Bool.not_false, iop, ev, upd, dstUpd, binV, binI, unV, ptr, Heap.cell, Heap.write, cellsOf, put, args0, partL, List.getD_cons_zero, List.getD_cons_succ, List.length_cons, List.length_nil, List.set_cons_zero, List.set_cons_succ, List.getElem?_cons_zero, List.getElem?_cons_succ, reduceIte, Nat.reduceEqDiff, Nat.reduceAdd, Nat.reduceMul, Nat.reduceLeDiff, Nat.zero_add, Nat.add_zero, Option.map_some, Int.reduceEq, Int.reduceLT, Int.reduceLE, Bool.false_eq_true, decide_true, decide_false, ge_iff_le, gt_iff_lt, set_get']; rfl) ?_)
          show Wc T _ _ _
          refine Wc_cond (fld x z.toNat != 0) (by simp [ev, upd]) (fun hne => ?_) (fun heq => Wc_skip ?_)
          · refine Wc_seq (Wc_ops (Wo_run (fun call => by simp only [List.drop_succ_cons, List.drop_zero, iops_nil, iops_op, iops_grd, iK_some, iG_true, iG_false, gval_bool, beq_true, beq_false, Bool.not_true, Bool.not_false, iop, ev, upd, dstUpd, binV, binI, unV, ptr, Heap.cell, Heap.write, cellsOf, put, args0, partL, List.getD_cons_zero, List.getD_cons_succ, List.length_cons, List.length_nil, List.set_cons_zero, List.set_cons_succ, List.getElem?_cons_zero, List.getElem?_cons_succ, reduceIte, Nat.reduceEqDiff, Nat.reduceAdd, Nat.reduceMul, Nat.reduceLeDiff, Nat.zero_add, Nat.add_zero, Option.map_some, Int.reduceEq, Int.reduceLT, Int.reduceLE, Bool.false_eq_true, decide_true, decide_false, ge_iff_le, gt_iff_lt, set_get']; rfl) ?_))
            refine Wc_ret (bad _ _ F3.k (by simp [upd]) (badZ ?_))
            simp only [letB, h1c]
            have : (fld x z.toNat == 0) = false := by simpa using hne
            simp only [this, Bool.or_self, Bool.false_and]
          · obtain ⟨K1, K2⟩ := keep (e' := e2) (fun _ _ => rfl)
            exact ⟨rfl, by ((try simp only [dstUpd]); repeat (first | exact K1 | refine F23.upd ?_ (by omega))), rfl, by simp [upd, dstUpd, k12'], by simp [upd, dstUpd], by simp [upd, dstUpd], by simpa using heq⟩
      rintro ⟨e3, hq3, d3⟩ ⟨hdd, F4, hh3, m12, m13, m14, hfst⟩
      simp only at hdd F4 hh3 m12 m13 m14
      subst hdd hh3
      have hapc : (rd x ++ wr x).contains z = ((rd x).contains z || (wr x).contains z) := by simp
      refine Wc_seq (Wc_ops (Wo_mid 8 (fun s => s.d = some [] ∧ F23 h1 h.next at' x s.e s.h ∧ s.h = hq3 ∧ s.e 12 = .int .i64 k ∧ s.e 14 = .int .i64 (fld x z.toNat) ∧ s.e 56 = .bool ((rd x ++ wr x).contains z)) ?_ ?_))
      · simp only [List.take_succ_cons, List.take_zero]
        refine (Wo_pre 2 (fun call => by simp only [List.take_succ_cons, List.take_zero, List.drop_succ_cons, List.drop_zero, iops_nil, iops_op, iops_grd, iK_some, iG_true, iG_false, gval_bool, beq_true, beq_false, Bool.not_true, Bool.not_false, iop, ev, upd, dstUpd, binV, binI, unV, ptr, Heap.cell, Heap.write, cellsOf, put, args0, partL, List.getD_cons_zero, List.getD_cons_succ, List.length_cons, List.length_nil, List.set_cons_zero, List.set_cons_succ, List.getElem?_cons_zero, List.getElem?_cons_succ, reduceIte, Nat.reduceEqDiff, Nat.reduceAdd, Nat.reduceMul, Nat.reduceLeDiff, Nat.zero_add, Nat.add_zero, Option.map_some, Int.reduceEq, Int.reduceLT, Int.reduceLE, Bool.false_eq_true, decide_true, decide_false, ge_iff_le, gt_iff_lt, set_get', F4.e10, m13]; rfl) ?_)
        refine Wo_call ?_
        show Wk T (.fn 40) [.string ⟨(rd x).toArray⟩, .int .u8 z.toNat] hq3 _
        refine (has40 h40 (rd x) (by omega) z hq3).mono fun o hr ⟨u1, u2⟩ => ?_
        subst u1 u2
        show Wo T _ _ _
        cases h2c : (rd x).contains z with
        | true =>
          refine (Wo_run (fun call => by simp only [List.drop_succ_cons, List.drop_zero, iops_nil, iops_op, iops_grd, iK_some, iG_true, iG_false, gval_bool, beq_true, beq_false, Bool.not_true, Bool.not_false, iop, ev, upd, dstUpd, binV, binI, unV, ptr, Heap.cell, Heap.write, cellsOf, put, args0, partL, List.getD_cons_zero, List.getD_cons_succ, List.length_cons, List.length_nil, List.set_cons_zero, List.set_cons_succ, List.getElem?_cons_zero, List.getElem?_cons_succ, reduceIte, Nat.reduceEqDiff, Nat.reduceAdd, Nat.reduceMul, Nat.reduceLeDiff, Nat.zero_add, Nat.add_zero, Option.map_some, Int.reduceEq, Int.reduceLT, Int.reduceLE, Bool.false_eq_true, decide_true, decide_false, ge_iff_le, gt_iff_lt, set_get']; rfl) ?_)
          exact ⟨rfl, by ((try simp only [dstUpd]); repeat (first | exact F4 | refine F23.upd ?_ (by omega))), rfl, by simp [upd, dstUpd, m12], by simp [upd, dstUpd, m14], by simp only [upd, dstUpd, Nat.reduceEqDiff, reduceIte]; rw [hapc, h2c]; rfl⟩
        | false =>
          refine (Wo_pre 3 (fun call => by simp only [List.take_succ_cons, List.take_zero, List.drop_succ_cons, List.drop_zero, iops_nil, iops_op, iops_grd, iK_some, iG_true, iG_false, gval_bool, beq_true, beq_false, Bool.not_true, Bool.not_false, iop, ev, upd, dstUpd, binV, binI, unV, ptr, Heap.cell, Heap.write, cellsOf, put, args0, partL, List.getD_cons_zero, List.getD_cons_succ, List.length_cons, List.length_nil, List.set_cons_zero, List.set_cons_succ, List.getElem?_cons_zero, List.getElem?_cons_succ, reduceIte, Nat.reduceEqDiff, Nat.reduceAdd, Nat.reduceMul, Nat.reduceLeDiff, Nat.zero_add, Nat.add_zero, Option.map_some, Int.reduceEq, Int.reduceLT, Int.reduceLE, Bool.false_eq_true, decide_true, decide_false, ge_iff_le, gt_iff_lt, set_get', F4.e11, m13]; rfl) ?_)
          refine Wo_take (by simp only [upd, dstUpd, reduceIte, Nat.reduceEqDiff, gval_bool]; rfl) (Wo_call ?_)
          show Wk T (.fn 40) [.string ⟨(wr x).toArray⟩, .int .u8 z.toNat] hr _
          refine (has40 h40 (wr x) (by omega) z hr).mono fun o hr2 ⟨u1, u2⟩ => ?_
          subst u1 u2
          show Wo T _ _ _
          refine (Wo_run (fun call => by simp only [List.drop_succ_cons, List.drop_zero, iops_nil, iops_op, iops_grd, iK_some, iG_true, iG_false, gval_bool, beq_true, beq_false, Bool.not_true, Bool.not_false, iop, ev, upd, dstUpd, binV, binI, unV, ptr, Heap.cell, Heap.write, cellsOf, put, args0, partL, List.getD_cons_zero, List.getD_cons_succ, List.length_cons, List.length_nil, List.set_cons_zero, List.set_cons_succ, List.getElem?_cons_zero, List.getElem?_cons_succ, reduceIte, Nat.reduceEqDiff, Nat.reduceAdd, Nat.reduceMul, Nat.reduceLeDiff, Nat.zero_add, Nat.add_zero, Option.map_some, Int.reduceEq, Int.reduceLT, Int.reduceLE, Bool.false_eq_true, decide_true, decide_false, ge_iff_le, gt_iff_lt, set_get']; rfl) ?_)
          exact ⟨rfl, by ((try simp only [dstUpd]); repeat (first | exact F4 | refine F23.upd ?_ (by omega))), rfl, by simp [upd, dstUpd, m12], by simp [upd, dstUpd, m14], by simp only [upd, dstUpd, Nat.reduceEqDiff, reduceIte]; rw [hapc, h2c]; rfl⟩
      rintro ⟨e4, hq4, d4⟩ ⟨hdd, F5, hh4, n12, n14, n56⟩
      simp only at hdd F5 hh4 n12 n14 n56
      subst hdd hh4
      simp only [List.drop_succ_cons, List.drop_zero]
      by_cases hrw : (rd x ++ wr x).contains z = true
      case neg =>
        have hrw' : (rd x ++ wr x).contains z = false := by simpa using hrw
        rw [hrw'] at n56
        refine (Wo_run (fun call => by simp only [List.drop_succ_cons, List.drop_zero, iops_nil, iops_op, iops_grd, iK_some, iG_true, iG_false, gval_bool, beq_true, beq_false, Bool.not_true, Bool.not_false, iop, ev, upd, dstUpd, binV, binI, unV, ptr, Heap.cell, Heap.write, cellsOf, put, args0, partL, List.getD_cons_zero, List.getD_cons_succ, List.length_cons, List.length_nil, List.set_cons_zero, List.set_cons_succ, List.getElem?_cons_zero, List.getElem?_cons_succ, reduceIte, Nat.reduceEqDiff, Nat.reduceAdd, Nat.reduceMul, Nat.reduceLeDiff, Nat.zero_add, Nat.add_zero, Option.map_some, Int.reduceEq, Int.reduceLT, Int.reduceLE, Bool.false_eq_true, decide_true, decide_false, ge_iff_le, gt_iff_lt, set_get', n56]; rfl) ?_)
        show Wc T _ _ _
        refine Wc_cond false (by simp [ev, upd, dstUpd]) (fun h => by cases h) (fun _ => Wc_skip ?_)
        refine ⟨rfl, by ((try simp only [dstUpd]); repeat (first | exact F5 | refine F23.upd ?_ (by omega))), by simp [upd, dstUpd, n12], ?_⟩
        simp only [letB, hfst, hrw', Bool.not_false, Bool.true_or, Bool.and_self]
      rw [hrw] at n56
      by_cases q0 : fld x z.toNat < 0
      · have z0 : decide (fld x z.toNat < 0) = true := by simpa using q0
        refine (Wo_run (fun call => by simp only [List.drop_succ_cons, List.drop_zero, iops_nil, iops_op, iops_grd, iK_some, iG_true, iG_false, gval_bool, beq_true, beq_false, Bool.not_true, Bool.not_false, iop, ev, upd, dstUpd, binV, binI, unV, ptr, Heap.cell, Heap.write, cellsOf, put, args0, partL, List.getD_cons_zero, List.getD_cons_succ, List.length_cons, List.length_nil, List.set_cons_zero, List.set_cons_succ, List.getElem?_cons_zero, List.getElem?_cons_succ, reduceIte, Nat.reduceEqDiff, Nat.reduceAdd, Nat.reduceMul, Nat.reduceLeDiff, Nat.zero_add, Nat.add_zero, Option.map_some, Int.reduceEq, Int.reduceLT, Int.reduceLE, Bool.false_eq_true, decide_true, decide_false, ge_iff_le, gt_iff_lt, set_get', n56, n14, z0]; rfl) ?_)
        show Wc T _ _ _
        refine Wc_cond true (by simp [ev, upd, dstUpd]) (fun _ => ?_) (fun h => by cases h)
        refine Wc_seq (Wc_ops (Wo_run (fun call => by simp only [List.drop_succ_cons, List.drop_zero, iops_nil, iops_op, iops_grd, iK_some, iG_true, iG_false, gval_bool, beq_true, beq_false, Bool.not_true, Bool.not_false, iop, ev, upd, dstUpd, binV, binI, unV, ptr, Heap.cell, Heap.write, cellsOf, put, args0, partL, List.getD_cons_zero, List.getD_cons_succ, List.length_cons, List.length_nil, List.set_cons_zero, List.set_cons_succ, List.getElem?_cons_zero, List.getElem?_cons_succ, reduceIte, Nat.reduceEqDiff, Nat.reduceAdd, Nat.reduceMul, Nat.reduceLeDiff, Nat.zero_add, Nat.add_zero, Option.map_some, Int.reduceEq, Int.reduceLT, Int.reduceLE, Bool.false_eq_true, decide_true, decide_false, ge_iff_le, gt_iff_lt, set_get']; rfl) ?_))
        refine Wc_ret (bad _ _ F5.k (by simp [upd]) (badZ ?_))
        have : inB f (fld x z.toNat) = false := by simp only [inB, decide_eq_false_iff_not]; omega
        simp only [letB, this, hrw, Bool.not_true, Bool.or_self, Bool.and_false]
      have z0 : decide (fld x z.toNat < 0) = false := by simpa using q0
      by_cases q1 : f.regs ≤ fld x z.toNat
      · have z1 : decide (f.regs ≤ fld x z.toNat) = true := by simpa using q1
        refine (Wo_run (fun call => by simp only [List.drop_succ_cons, List.drop_zero, iops_nil, iops_op, iops_grd, iK_some, iG_true, iG_false, gval_bool, beq_true, beq_false, Bool.not_true, Bool.not_false, iop, ev, upd, dstUpd, binV, binI, unV, ptr, Heap.cell, Heap.write, cellsOf, put, args0, partL, List.getD_cons_zero, List.getD_cons_succ, List.length_cons, List.length_nil, List.set_cons_zero, List.set_cons_succ, List.getElem?_cons_zero, List.getElem?_cons_succ, reduceIte, Nat.reduceEqDiff, Nat.reduceAdd, Nat.reduceMul, Nat.reduceLeDiff, Nat.zero_add, Nat.add_zero, Option.map_some, Int.reduceEq, Int.reduceLT, Int.reduceLE, Bool.false_eq_true, decide_true, decide_false, ge_iff_le, gt_iff_lt, set_get', n56, n14, z0, F5.e4, g4 F5.k, Fn.cells, z1]; rfl) ?_)
        show Wc T _ _ _
        refine Wc_cond true (by simp [ev, upd, dstUpd]) (fun _ => ?_) (fun h => by cases h)
        refine Wc_seq (Wc_ops (Wo_run (fun call => by simp only [List.drop_succ_cons, List.drop_zero, iops_nil, iops_op, iops_grd, iK_some, iG_true, iG_false, gval_bool, beq_true, beq_false, Bool.not_true, Bool.not_false, iop, ev, upd, dstUpd, binV, binI, unV, ptr, Heap.cell, Heap.write, cellsOf, put, args0, partL, List.getD_cons_zero, List.getD_cons_succ, List.length_cons, List.length_nil, List.set_cons_zero, List.set_cons_succ, List.getElem?_cons_zero, List.getElem?_cons_succ, reduceIte, Nat.reduceEqDiff, Nat.reduceAdd, Nat.reduceMul, Nat.reduceLeDiff, Nat.zero_add, Nat.add_zero, Option.map_some, Int.reduceEq, Int.reduceLT, Int.reduceLE, Bool.false_eq_true, decide_true, decide_false, ge_iff_le, gt_iff_lt, set_get']; rfl) ?_))
        refine Wc_ret (bad _ _ F5.k (by simp [upd]) (badZ ?_))
        have : inB f (fld x z.toNat) = false := by simp only [inB, decide_eq_false_iff_not]; omega
        simp only [letB, this, hrw, Bool.not_true, Bool.or_self, Bool.and_false]
      have z1 : decide (f.regs ≤ fld x z.toNat) = false := by simpa using q1
      refine (Wo_run (fun call => by simp only [List.drop_succ_cons, List.drop_zero, iops_nil, iops_op, iops_grd, iK_some, iG_true, iG_false, gval_bool, beq_true, beq_false, Bool.not_true, Bool.not_false, iop, ev, upd, dstUpd, binV, binI, unV, ptr, Heap.cell, Heap.write, cellsOf, put, args0, partL, List.getD_cons_zero, List.getD_cons_succ, List.length_cons, List.length_nil, List.set_cons_zero, List.set_cons_succ, List.getElem?_cons_zero, List.getElem?_cons_succ, reduceIte, Nat.reduceEqDiff, Nat.reduceAdd, Nat.reduceMul, Nat.reduceLeDiff, Nat.zero_add, Nat.add_zero, Option.map_some, Int.reduceEq, Int.reduceLT, Int.reduceLE, Bool.false_eq_true, decide_true, decide_false, ge_iff_le, gt_iff_lt, set_get', n56, n14, z0, F5.e4, g4 F5.k, Fn.cells, z1]; rfl) ?_)
      show Wc T _ _ _
      refine Wc_cond false (by simp [ev, upd, dstUpd]) (fun h => by cases h) (fun _ => Wc_skip ?_)
      refine ⟨rfl, by ((try simp only [dstUpd]); repeat (first | exact F5 | refine F23.upd ?_ (by omega))), by simp [upd, dstUpd, n12], ?_⟩
      have : inB f (fld x z.toNat) = true := by simp only [inB, decide_eq_true_eq]; omega
      simp only [letB, hfst, this, Bool.or_true, Bool.and_self]
    rintro ⟨e5, hp5, d5⟩ ⟨hdd, F6, n12, hlet⟩
    simp only at hdd F6 n12
    subst hdd
    have e1' : IntKind.i64.wrap ((k : Int) + 1) = ((k + 1 : Nat) : Int) := by rw [wrap64] <;> omega
    refine Wc_ops (Wo_run (fun call => by simp only [List.drop_succ_cons, List.drop_zero, iops_nil, iops_op, iops_grd, iK_some, iG_true, iG_false, gval_bool, beq_true, beq_false, Bool.not_true, Bool.not_false, iop, ev, upd, dstUpd, binV, binI, unV, ptr, Heap.cell, Heap.write, cellsOf, put, args0, partL, List.getD_cons_zero, List.getD_cons_succ, List.length_cons, List.length_nil, List.set_cons_zero, List.set_cons_succ, List.getElem?_cons_zero, List.getElem?_cons_succ, reduceIte, Nat.reduceEqDiff, Nat.reduceAdd, Nat.reduceMul, Nat.reduceLeDiff, Nat.zero_add, Nat.add_zero, Option.map_some, Int.reduceEq, Int.reduceLT, Int.reduceLE, Bool.false_eq_true, decide_true, decide_false, ge_iff_le, gt_iff_lt, set_get', n12, e1']; rfl) ?_)
    refine ⟨⟨rfl, ⟨F6.k, by simp [upd, F6.e2], by simp [upd, F6.e3], by simp [upd, F6.e4], by simp [upd, F6.e7], by simp [upd, F6.e9], by simp [upd, F6.e10], by simp [upd, F6.e11]⟩, k + 1, by omega, by simp [upd], ?_⟩, ?_⟩
    · intro z' hz'
      rw [List.take_add_one, hz] at hz'
      simp only [Option.toList, List.mem_append, List.mem_singleton] at hz'
      rcases hz' with hz' | rfl
      · exact hall z' hz'
      · exact hlet
    · have : e 12 = .int .i64 k := k12
      simp only [upd, Nat.reduceEqDiff, reduceIte, this]
      omega
  clear F
  rintro ⟨e, hp, d⟩ ⟨hdd, F, hlets⟩
  simp only at hdd F
  subst hdd
  -- K and L
  refine Wc_mid (fun s => s.d = some [] ∧ F23 h1 h.next at' x s.e s.h ∧ klB x = true) ?_ ?_
  · refine Wc_seq (Wc_ops (Wo_mid 9 (fun s => s.d = some [] ∧ F23 h1 h.next at' x s.e s.h ∧ s.e 75 = .bool (!((fieldsOf x).contains 75 || x.k == 0))) ?_ ?_))
    · simp only [List.take_succ_cons, List.take_zero]
      refine (Wo_pre 1 (fun call => by simp only [List.take_succ_cons, List.take_zero, List.drop_succ_cons, List.drop_zero, iops_nil, iops_op, iops_grd, iK_some, iG_true, iG_false, gval_bool, beq_true, beq_false, Bool.not_true, Bool.not_false, iop, ev, upd, dstUpd, binV, binI, unV, ptr, Heap.cell, Heap.write, cellsOf, put, args0, partL, List.getD_cons_zero, List.getD_cons_succ, List.length_cons, List.length_nil, List.set_cons_zero, List.set_cons_succ, List.getElem?_cons_zero, List.getElem?_cons_succ, reduceIte, Nat.reduceEqDiff, Nat.reduceAdd, Nat.reduceMul, Nat.reduceLeDiff, Nat.zero_add, Nat.add_zero, Option.map_some, Int.reduceEq, Int.reduceLT, Int.reduceLE, Bool.false_eq_true, decide_true, decide_false, ge_iff_le, gt_iff_lt, set_get', F.e9]; rfl) ?_)
      refine Wo_call ?_
      show Wk T (.fn 40) [.string ⟨(fieldsOf x).toArray⟩, .int .u8 75] hp _
      refine (has40 h40 (fieldsOf x) (by omega) 75 hp).mono fun o hr ⟨u1, u2⟩ => ?_
      subst u1 u2
      show Wo T _ _ _
      cases h1c : (fieldsOf x).contains 75 with
      | true =>
        refine (Wo_run (fun call => by simp only [List.drop_succ_cons, List.drop_zero, iops_nil, iops_op, iops_grd, iK_some, iG_true, iG_false, gval_bool, beq_true, beq_false, Bool.not_true, Bool.not_false, iop, ev, upd, dstUpd, binV, binI, unV, ptr, Heap.cell, Heap.write, cellsOf, put, args0, partL, List.getD_cons_zero, List.getD_cons_succ, List.length_cons, List.length_nil, List.set_cons_zero, List.set_cons_succ, List.getElem?_cons_zero, List.getElem?_cons_succ, reduceIte, Nat.reduceEqDiff, Nat.reduceAdd, Nat.reduceMul, Nat.reduceLeDiff, Nat.zero_add, Nat.add_zero, Option.map_some, Int.reduceEq, Int.reduceLT, Int.reduceLE, Bool.false_eq_true, decide_true, decide_false, ge_iff_le, gt_iff_lt, set_get']; rfl) ?_)
        exact ⟨rfl, by ((try simp only [dstUpd]); repeat (first | exact F | refine F23.upd ?_ (by omega))), by simp [upd, dstUpd]⟩
      | false =>
        refine (Wo_run (fun call => by simp only [List.drop_succ_cons, List.drop_zero, iops_nil, iops_op, iops_grd, iK_some, iG_true, iG_false, gval_bool, beq_true, beq_false, Bool.not_true, Bool.not_false, iop, ev, upd, dstUpd, binV, binI, unV, ptr, Heap.cell, Heap.write, cellsOf, put, args0, partL, List.getD_cons_zero, List.getD_cons_succ, List.length_cons, List.length_nil, List.set_cons_zero, List.set_cons_succ, List.getElem?_cons_zero, List.getElem?_cons_succ, reduceIte, Nat.reduceEqDiff, Nat.reduceAdd, Nat.reduceMul, Nat.reduceLeDiff, Nat.zero_add, Nat.add_zero, Option.map_some, Int.reduceEq, Int.reduceLT, Int.reduceLE, Bool.false_eq_true, decide_true, decide_false, ge_iff_le, gt_iff_lt, set_get', F.e7, g7 F.k, Ins.cells]; rfl) ?_)
        exact ⟨rfl, by ((try simp only [dstUpd]); repeat (first | exact F | refine F23.upd ?_ (by omega))), by simp [upd, dstUpd, bne]⟩
    rintro ⟨e4, hq4, d4⟩ ⟨hdd, F5, n75⟩
    simp only at hdd F5 n75
    subst hdd
    simp only [List.drop_succ_cons, List.drop_zero]
    by_cases hK : ((fieldsOf x).contains 75 || x.k == 0) = true
    case neg =>
      have hK' : ((fieldsOf x).contains 75 || x.k == 0) = false := by simpa using hK
      rw [hK'] at n75
      refine (Wo_run (fun call => by simp only [List.drop_succ_cons, List.drop_zero, iops_nil, iops_op, iops_grd, iK_some, iG_true, iG_false, gval_bool, beq_true, beq_false, Bool.not_true, Bool.not_false, iop, ev, upd, dstUpd, binV, binI, unV, ptr, Heap.cell, Heap.write, cellsOf, put, args0, partL, List.getD_cons_zero, List.getD_cons_succ, List.length_cons, List.length_nil, List.set_cons_zero, List.set_cons_succ, List.getElem?_cons_zero, List.getElem?_cons_succ, reduceIte, Nat.reduceEqDiff, Nat.reduceAdd, Nat.reduceMul, Nat.reduceLeDiff, Nat.zero_add, Nat.add_zero, Option.map_some, Int.reduceEq, Int.reduceLT, Int.reduceLE, Bool.false_eq_true, decide_true, decide_false, ge_iff_le, gt_iff_lt, set_get', n75, Bool.not_false, show gval undef true = false from rfl]; rfl) ?_)
      show Wc T _ _ _
      refine Wc_cond true (by simp [ev, upd, dstUpd]) (fun _ => ?_) (fun h => by cases h)
      refine Wc_seq (Wc_ops (Wo_run (fun call => by simp only [List.drop_succ_cons, List.drop_zero, iops_nil, iops_op, iops_grd, iK_some, iG_true, iG_false, gval_bool, beq_true, beq_false, Bool.not_true, Bool.not_false, iop, ev, upd, dstUpd, binV, binI, unV, ptr, Heap.cell, Heap.write, cellsOf, put, args0, partL, List.getD_cons_zero, List.getD_cons_succ, List.length_cons, List.length_nil, List.set_cons_zero, List.set_cons_succ, List.getElem?_cons_zero, List.getElem?_cons_succ, reduceIte, Nat.reduceEqDiff, Nat.reduceAdd, Nat.reduceMul, Nat.reduceLeDiff, Nat.zero_add, Nat.add_zero, Option.map_some, Int.reduceEq, Int.reduceLT, Int.reduceLE, Bool.false_eq_true, decide_true, decide_false, ge_iff_le, gt_iff_lt, set_get']; rfl) ?_))
      refine Wc_ret (bad _ _ F5.k (by simp [upd]) ?_)
      simp only [preB, klB, hK', Bool.false_and, Bool.and_false]
    rw [hK] at n75
    refine (Wo_pre 1 (fun call => by simp only [List.take_succ_cons, List.take_zero, List.drop_succ_cons, List.drop_zero, iops_nil, iops_op, iops_grd, iK_some, iG_true, iG_false, gval_bool, beq_true, beq_false, Bool.not_true, Bool.not_false, iop, ev, upd, dstUpd, binV, binI, unV, ptr, Heap.cell, Heap.write, cellsOf, put, args0, partL, List.getD_cons_zero, List.getD_cons_succ, List.length_cons, List.length_nil, List.set_cons_zero, List.set_cons_succ, List.getElem?_cons_zero, List.getElem?_cons_succ, reduceIte, Nat.reduceEqDiff, Nat.reduceAdd, Nat.reduceMul, Nat.reduceLeDiff, Nat.zero_add, Nat.add_zero, Option.map_some, Int.reduceEq, Int.reduceLT, Int.reduceLE, Bool.false_eq_true, decide_true, decide_false, ge_iff_le, gt_iff_lt, set_get', n75, F5.e9]; rfl) ?_)
    refine Wo_take (by simp only [upd, dstUpd, reduceIte, Nat.reduceEqDiff, gval_bool, n75]; rfl) (Wo_call ?_)
    show Wk T (.fn 40) [.string ⟨(fieldsOf x).toArray⟩, .int .u8 76] hq4 _
    refine (has40 h40 (fieldsOf x) (by omega) 76 hq4).mono fun o hr ⟨u1, u2⟩ => ?_
    subst u1 u2
    show Wo T _ _ _
    cases h1c : (fieldsOf x).contains 76 with
    | true =>
      refine (Wo_run (fun call => by simp only [List.drop_succ_cons, List.drop_zero, iops_nil, iops_op, iops_grd, iK_some, iG_true, iG_false, gval_bool, beq_true, beq_false, Bool.not_true, Bool.not_false, iop, ev, upd, dstUpd, binV, binI, unV, ptr, Heap.cell, Heap.write, cellsOf, put, args0, partL, List.getD_cons_zero, List.getD_cons_succ, List.length_cons, List.length_nil, List.set_cons_zero, List.set_cons_succ, List.getElem?_cons_zero, List.getElem?_cons_succ, reduceIte, Nat.reduceEqDiff, Nat.reduceAdd, Nat.reduceMul, Nat.reduceLeDiff, Nat.zero_add, Nat.add_zero, Option.map_some, Int.reduceEq, Int.reduceLT, Int.reduceLE, Bool.false_eq_true, decide_true, decide_false, ge_iff_le, gt_iff_lt, set_get', n75]; rfl) ?_)
      show Wc T _ _ _
      refine Wc_cond false (by simp [ev, upd, dstUpd]) (fun h => by cases h) (fun _ => Wc_skip ?_)
      exact ⟨rfl, by ((try simp only [dstUpd]); repeat (first | exact F5 | refine F23.upd ?_ (by omega))), by simp only [klB, hK, h1c, Bool.true_or, Bool.and_self]⟩
    | false =>
      refine (Wo_run (fun call => by simp only [List.drop_succ_cons, List.drop_zero, iops_nil, iops_op, iops_grd, iK_some, iG_true, iG_false, gval_bool, beq_true, beq_false, Bool.not_true, Bool.not_false, iop, ev, upd, dstUpd, binV, binI, unV, ptr, Heap.cell, Heap.write, cellsOf, put, args0, partL, List.getD_cons_zero, List.getD_cons_succ, List.length_cons, List.length_nil, List.set_cons_zero, List.set_cons_succ, List.getElem?_cons_zero, List.getElem?_cons_succ, reduceIte, Nat.reduceEqDiff, Nat.reduceAdd, Nat.reduceMul, Nat.reduceLeDiff, Nat.zero_add, Nat.add_zero, Option.map_some, Int.reduceEq, Int.reduceLT, Int.reduceLE, Bool.false_eq_true, decide_true, decide_false, ge_iff_le, gt_iff_lt, set_get', n75, F5.e7, g7 F5.k, Ins.cells, hlv]; rfl) ?_)
      show Wc T _ _ _
      refine Wc_cond (decide ((0 : Int) < x.l.length)) (by simp [ev, upd]) (fun hg => ?_) (fun hz => Wc_skip ?_)
      · refine Wc_seq (Wc_ops (Wo_run (fun call => by simp only [List.drop_succ_cons, List.drop_zero, iops_nil, iops_op, iops_grd, iK_some, iG_true, iG_false, gval_bool, beq_true, beq_false, Bool.not_true, Bool.not_false, iop, ev, upd, dstUpd, binV, binI, unV, ptr, Heap.cell, Heap.write, cellsOf, put, args0, partL, List.getD_cons_zero, List.getD_cons_succ, List.length_cons, List.length_nil, List.set_cons_zero, List.set_cons_succ, List.getElem?_cons_zero, List.getElem?_cons_succ, reduceIte, Nat.reduceEqDiff, Nat.reduceAdd, Nat.reduceMul, Nat.reduceLeDiff, Nat.zero_add, Nat.add_zero, Option.map_some, Int.reduceEq, Int.reduceLT, Int.reduceLE, Bool.false_eq_true, decide_true, decide_false, ge_iff_le, gt_iff_lt, set_get']; rfl) ?_))
        refine Wc_ret (bad _ _ F5.k (by simp [upd]) ?_)
        have : decide (x.l.length = 0) = false := by have hg' := of_decide_eq_true hg; simp only [decide_eq_false_iff_not]; omega
        simp only [preB, klB, h1c, this, Bool.or_self, Bool.and_false, Bool.false_and]
      · refine ⟨rfl, by ((try simp only [dstUpd]); repeat (first | exact F5 | refine F23.upd ?_ (by omega))), ?_⟩
        have : decide (x.l.length = 0) = true := by have hz' := of_decide_eq_false hz; simp only [decide_eq_true_eq]; omega
        simp only [klB, hK, this, Bool.or_true, Bool.and_self]
  clear F
  rintro ⟨e, hp, d⟩ ⟨hdd, F, hkl⟩
  simp only at hdd F
  subst hdd
  -- the list
  refine Wc_mid (fun s => s.d = some [] ∧ F23 h1 h.next at' x s.e s.h ∧ x.l.all (inB f) = true) ?_ ?_
  · refine Wc_seq (Wc_ops (Wo_run (fun call => by simp only [List.drop_succ_cons, List.drop_zero, iops_nil, iops_op, iops_grd, iK_some, iG_true, iG_false, gval_bool, beq_true, beq_false, Bool.not_true, Bool.not_false, iop, ev, upd, dstUpd, binV, binI, unV, ptr, Heap.cell, Heap.write, cellsOf, put, args0, partL, List.getD_cons_zero, List.getD_cons_succ, List.length_cons, List.length_nil, List.set_cons_zero, List.set_cons_succ, List.getElem?_cons_zero, List.getElem?_cons_succ, reduceIte, Nat.reduceEqDiff, Nat.reduceAdd, Nat.reduceMul, Nat.reduceLeDiff, Nat.zero_add, Nat.add_zero, Option.map_some, Int.reduceEq, Int.reduceLT, Int.reduceLE, Bool.false_eq_true, decide_true, decide_false, ge_iff_le, gt_iff_lt, set_get', F.e7, g7 F.k, Ins.cells, hlv]; rfl) ?_))
    show Wc T _ _ _
    refine Wc_block (Wc_loop (fun s => s.d = some [] ∧ F23 h1 h.next at' x s.e s.h ∧ s.e 87 = x.lv ∧ s.e 88 = .int .i64 x.l.length ∧ ∃ i : Nat, i ≤ x.l.length ∧ s.e 89 = .int .i64 i ∧ ∀ m ∈ x.l.take i, inB f m = true)
      (fun s => match s.e 89 with | .int _ i => (x.l.length - i).toNat | _ => 0) ?_ ?_)
    · exact ⟨rfl, by ((try simp only [dstUpd]); repeat (first | exact F | refine F23.upd ?_ (by omega))), by simp [upd, hlv], by simp [upd], 0, Nat.zero_le _, by simp [upd], by simp⟩
    clear F
    rintro ⟨e2, hq2, d2⟩ ⟨hdd, F, i87, i88, i, hi, i89, hin⟩
    simp only at hdd F i87 i88 i89
    subst hdd
    rw [C23L1]
    refine Wc_seq (Wc_ops (Wo_run (fun call => by simp only [List.drop_succ_cons, List.drop_zero, iops_nil, iops_op, iops_grd, iK_some, iG_true, iG_false, gval_bool, beq_true, beq_false, Bool.not_true, Bool.not_false, iop, ev, upd, dstUpd, binV, binI, unV, ptr, Heap.cell, Heap.write, cellsOf, put, args0, partL, List.getD_cons_zero, List.getD_cons_succ, List.length_cons, List.length_nil, List.set_cons_zero, List.set_cons_succ, List.getElem?_cons_zero, List.getElem?_cons_succ, reduceIte, Nat.reduceEqDiff, Nat.reduceAdd, Nat.reduceMul, Nat.reduceLeDiff, Nat.zero_add, Nat.add_zero, Option.map_some, Int.reduceEq, Int.reduceLT, Int.reduceLE, Bool.false_eq_true, decide_true, decide_false, ge_iff_le, gt_iff_lt, set_get', i88, i89]; rfl) ?_))
    show Wc T _ _ _
    refine Wc_seq (Wc_cond (decide ((i : Int) < x.l.length)) (by simp [ev, upd]) (fun hlt => Wc_skip ?_) (fun hge => Wc_exit ?_))
    case refine_2 =>
      have hie : i = x.l.length := by simp at hge; omega
      rw [hie, List.take_length] at hin
      exact ⟨rfl, by ((try simp only [dstUpd]); repeat (first | exact F | refine F23.upd ?_ (by omega))), List.all_eq_true.2 hin⟩
    show Wc T _ _ _
    have hil : i < x.l.length := by simpa using hlt
    obtain ⟨m, hmi⟩ : ∃ m, x.l[i]? = some m := ⟨_, List.getElem?_eq_getElem hil⟩
    obtain ⟨by', cy, hvy, hby, ⟨o1, z1, hgy⟩, hcy⟩ := ((hxin1.keep F.k).ints).load hmi
    rw [Nat.zero_add, Nat.mul_one] at hcy
    have e1' : IntKind.i64.wrap ((i : Int) + 1) = ((i + 1 : Nat) : Int) := by
      have := hxin1.len
      unfold maxLen at this
      rw [wrap64] <;> omega
    have badL : inB f m = false → preB f x at' = false := by
      intro hB
      have : x.l.all (inB f) = false := List.all_eq_false.2 ⟨m, List.mem_of_getElem? hmi, by simp [hB]⟩
      simp [preB, this]
    refine Wc_seq (Wc_block (Wc_seq (Wc_ops (Wo_run (fun call => by simp only [List.drop_succ_cons, List.drop_zero, iops_nil, iops_op, iops_grd, iK_some, iG_true, iG_false, gval_bool, beq_true, beq_false, Bool.not_true, Bool.not_false, iop, ev, upd, dstUpd, binV, binI, unV, ptr, Heap.cell, Heap.write, cellsOf, put, args0, partL, List.getD_cons_zero, List.getD_cons_succ, List.length_cons, List.length_nil, List.set_cons_zero, List.set_cons_succ, List.getElem?_cons_zero, List.getElem?_cons_succ, reduceIte, Nat.reduceEqDiff, Nat.reduceAdd, Nat.reduceMul, Nat.reduceLeDiff, Nat.zero_add, Nat.add_zero, Option.map_some, Int.reduceEq, Int.reduceLT, Int.reduceLE, Bool.false_eq_true, decide_true, decide_false, ge_iff_le, gt_iff_lt, set_get', i87, i89, hvy, idx_ok hil, hgy, hcy, Nat.mul_one]; rfl) ?_))))
    show Wc T _ _ _
    by_cases q0 : m < 0
    · have z0 : decide (m < 0) = true := by simpa using q0
      refine Wc_seq (Wc_ops (Wo_run (fun call => by simp only [List.drop_succ_cons, List.drop_zero, iops_nil, iops_op, iops_grd, iK_some, iG_true, iG_false, gval_bool, beq_true, beq_false, Bool.not_true, Bool.not_false, iop, ev, upd, dstUpd, binV, binI, unV, ptr, Heap.cell, Heap.write, cellsOf, put, args0, partL, List.getD_cons_zero, List.getD_cons_succ, List.length_cons, List.length_nil, List.set_cons_zero, List.set_cons_succ, List.getElem?_cons_zero, List.getElem?_cons_succ, reduceIte, Nat.reduceEqDiff, Nat.reduceAdd, Nat.reduceMul, Nat.reduceLeDiff, Nat.zero_add, Nat.add_zero, Option.map_some, Int.reduceEq, Int.reduceLT, Int.reduceLE, Bool.false_eq_true, decide_true, decide_false, ge_iff_le, gt_iff_lt, set_get', z0]; rfl) ?_))
      show Wc T _ _ _
      refine Wc_cond true (by simp [ev, upd, dstUpd]) (fun _ => ?_) (fun h => by cases h)
      refine Wc_seq (Wc_ops (Wo_run (fun call => by simp only [List.drop_succ_cons, List.drop_zero, iops_nil, iops_op, iops_grd, iK_some, iG_true, iG_false, gval_bool, beq_true, beq_false, Bool.not_true, Bool.not_false, iop, ev, upd, dstUpd, binV, binI, unV, ptr, Heap.cell, Heap.write, cellsOf, put, args0, partL, List.getD_cons_zero, List.getD_cons_succ, List.length_cons, List.length_nil, List.set_cons_zero, List.set_cons_succ, List.getElem?_cons_zero, List.getElem?_cons_succ, reduceIte, Nat.reduceEqDiff, Nat.reduceAdd, Nat.reduceMul, Nat.reduceLeDiff, Nat.zero_add, Nat.add_zero, Option.map_some, Int.reduceEq, Int.reduceLT, Int.reduceLE, Bool.false_eq_true, decide_true, decide_false, ge_iff_le, gt_iff_lt, set_get']; rfl) ?_))
      exact Wc_ret (bad _ _ F.k (by simp [upd]) (badL (by simp only [inB, decide_eq_false_iff_not]; omega)))
    have z0 : decide (m < 0) = false := by simpa using q0
    by_cases q1 : f.regs ≤ m
    · have z1 : decide (f.regs ≤ m) = true := by simpa using q1
      refine Wc_seq (Wc_ops (Wo_run (fun call => by simp only [List.drop_succ_cons, List.drop_zero, iops_nil, iops_op, iops_grd, iK_some, iG_true, iG_false, gval_bool, beq_true, beq_false, Bool.not_true, Bool.not_false, iop, ev, upd, dstUpd, binV, binI, unV, ptr, Heap.cell, Heap.write, cellsOf, put, args0, partL, List.getD_cons_zero, List.getD_cons_succ, List.length_cons, List.length_nil, List.set_cons_zero, List.set_cons_succ, List.getElem?_cons_zero, List.getElem?_cons_succ, reduceIte, Nat.reduceEqDiff, Nat.reduceAdd, Nat.reduceMul, Nat.reduceLeDiff, Nat.zero_add, Nat.add_zero, Option.map_some, Int.reduceEq, Int.reduceLT, Int.reduceLE, Bool.false_eq_true, decide_true, decide_false, ge_iff_le, gt_iff_lt, set_get', z0, F.e4, g4 F.k, Fn.cells, z1]; rfl) ?_))
      show Wc T _ _ _
      refine Wc_cond true (by simp [ev, upd, dstUpd]) (fun _ => ?_) (fun h => by cases h)
      refine Wc_seq (Wc_ops (Wo_run (fun call => by simp only [List.drop_succ_cons, List.drop_zero, iops_nil, iops_op, iops_grd, iK_some, iG_true, iG_false, gval_bool, beq_true, beq_false, Bool.not_true, Bool.not_false, iop, ev, upd, dstUpd, binV, binI, unV, ptr, Heap.cell, Heap.write, cellsOf, put, args0, partL, List.getD_cons_zero, List.getD_cons_succ, List.length_cons, List.length_nil, List.set_cons_zero, List.set_cons_succ, List.getElem?_cons_zero, List.getElem?_cons_succ, reduceIte, Nat.reduceEqDiff, Nat.reduceAdd, Nat.reduceMul, Nat.reduceLeDiff, Nat.zero_add, Nat.add_zero, Option.map_some, Int.reduceEq, Int.reduceLT, Int.reduceLE, Bool.false_eq_true, decide_true, decide_false, ge_iff_le, gt_iff_lt, set_get']; rfl) ?_))
      exact Wc_ret (bad _ _ F.k (by simp [upd]) (badL (by simp only [inB, decide_eq_false_iff_not]; omega)))
    have z1 : decide (f.regs ≤ m) = false := by simpa using q1
    refine Wc_seq (Wc_ops (Wo_run (fun call => by simp only [List.drop_succ_cons, List.drop_zero, iops_nil, iops_op, iops_grd, iK_some, iG_true, iG_false, gval_bool, beq_true, beq_false, Bool.not_true, Bool.not_false, iop, ev, upd, dstUpd, binV, binI, unV, ptr, Heap.cell, Heap.write, cellsOf, put, args0, partL, List.getD_cons_zero, List.getD_cons_succ, List.length_cons, List.length_nil, List.set_cons_zero, List.set_cons_succ, List.getElem?_cons_zero, List.getElem?_cons_succ, reduceIte, Nat.reduceEqDiff, Nat.reduceAdd, Nat.reduceMul, Nat.reduceLeDiff, Nat.zero_add, Nat.add_zero, Option.map_some, Int.reduceEq, Int.reduceLT, Int.reduceLE, Bool.false_eq_true, decide_true, decide_false, ge_iff_le, gt_iff_lt, set_get', z0, F.e4, g4 F.k, Fn.cells, z1]; rfl) ?_))
    show Wc T _ _ _
    refine Wc_cond false (by simp [ev, upd, dstUpd]) (fun h => by cases h) (fun _ => Wc_skip ?_)
    show Wc T _ _ _
    refine Wc_ops (Wo_run (fun call => by simp only [List.drop_succ_cons, List.drop_zero, iops_nil, iops_op, iops_grd, iK_some, iG_true, iG_false, gval_bool, beq_true, beq_false, Bool.not_true, Bool.not_false, iop, ev, upd, dstUpd, binV, binI, unV, ptr, Heap.cell, Heap.write, cellsOf, put, args0, partL, List.getD_cons_zero, List.getD_cons_succ, List.length_cons, List.length_nil, List.set_cons_zero, List.set_cons_succ, List.getElem?_cons_zero, List.getElem?_cons_succ, reduceIte, Nat.reduceEqDiff, Nat.reduceAdd, Nat.reduceMul, Nat.reduceLeDiff, Nat.zero_add, Nat.add_zero, Option.map_some, Int.reduceEq, Int.reduceLT, Int.reduceLE, Bool.false_eq_true, decide_true, decide_false, ge_iff_le, gt_iff_lt, set_get', i89, e1']; rfl) ?_)
    refine ⟨⟨rfl, by ((try simp only [dstUpd]); repeat (first | exact F | refine F23.upd ?_ (by omega))), by simp [upd, i87], by simp [upd, i88], i + 1, by omega, by simp [upd], ?_⟩, ?_⟩
    · intro m' hm'
      rw [List.take_add_one, hmi] at hm'
      simp only [Option.toList, List.mem_append, List.mem_singleton] at hm'
      rcases hm' with hm' | rfl
      · exact hin m' hm'
      · simp only [inB, decide_eq_true_eq]; omega
    · simp only [upd, Nat.reduceEqDiff, reduceIte, i89]
      show ((x.l.length : Int) - ((i + 1 : Nat) : Int)).toNat < ((x.l.length : Int) - (i : Int)).toNat
      omega
  clear F
  rintro ⟨e, hp, d⟩ ⟨hdd, F, hlall⟩
  simp only at hdd F
  subst hdd
  have hpre : preB f x at' = lastB f x at' := by simp only [preB, hlets, hkl, hlall, hname, decide_false, Bool.not_false, Bool.and_true, Bool.true_and]
  -- the last
  have hws := wrap_sub1 hf.len
  refine Wc_mid (fun s => s.d = some [] ∧ F23 h1 h.next at' x s.e s.h ∧ lastB f x at' = true) ?_ ?_
  · by_cases hat : (at' : Int) = f.code.length - 1
    case neg =>
      have hne : ((at' : Int) == (f.code.length : Int) - 1) = false := by simpa using hat
      refine Wc_seq (Wc_ops (Wo_run (fun call => by simp only [List.drop_succ_cons, List.drop_zero, iops_nil, iops_op, iops_grd, iK_some, iG_true, iG_false, gval_bool, beq_true, beq_false, Bool.not_true, Bool.not_false, iop, ev, upd, dstUpd, binV, binI, unV, ptr, Heap.cell, Heap.write, cellsOf, put, args0, partL, List.getD_cons_zero, List.getD_cons_succ, List.length_cons, List.length_nil, List.set_cons_zero, List.set_cons_succ, List.getElem?_cons_zero, List.getElem?_cons_succ, reduceIte, Nat.reduceEqDiff, Nat.reduceAdd, Nat.reduceMul, Nat.reduceLeDiff, Nat.zero_add, Nat.add_zero, Option.map_some, Int.reduceEq, Int.reduceLT, Int.reduceLE, Bool.false_eq_true, decide_true, decide_false, ge_iff_le, gt_iff_lt, set_get', F.e2, F.e4, g4 F.k, Fn.cells, hcv, hws, hne]; rfl) ?_))
      show Wc T _ _ _
      refine Wc_cond false (by simp [ev, upd, dstUpd]) (fun h => by cases h) (fun _ => Wc_skip ?_)
      exact ⟨rfl, by ((try simp only [dstUpd]); repeat (first | exact F | refine F23.upd ?_ (by omega))), by simp [lastB, hat]⟩
    have hne : ((at' : Int) == (f.code.length : Int) - 1) = true := by simpa using hat
    by_cases o21 : x.op = 21
    · have d21 : (x.op != 21) = false := by simpa using o21
      refine Wc_seq (Wc_ops (Wo_run (fun call => by simp only [List.drop_succ_cons, List.drop_zero, iops_nil, iops_op, iops_grd, iK_some, iG_true, iG_false, gval_bool, beq_true, beq_false, Bool.not_true, Bool.not_false, iop, ev, upd, dstUpd, binV, binI, unV, ptr, Heap.cell, Heap.write, cellsOf, put, args0, partL, List.getD_cons_zero, List.getD_cons_succ, List.length_cons, List.length_nil, List.set_cons_zero, List.set_cons_succ, List.getElem?_cons_zero, List.getElem?_cons_succ, reduceIte, Nat.reduceEqDiff, Nat.reduceAdd, Nat.reduceMul, Nat.reduceLeDiff, Nat.zero_add, Nat.add_zero, Option.map_some, Int.reduceEq, Int.reduceLT, Int.reduceLE, Bool.false_eq_true, decide_true, decide_false, ge_iff_le, gt_iff_lt, set_get', F.e2, F.e4, g4 F.k, Fn.cells, hcv, hws, hne, F.e7, g7 F.k, Ins.cells, d21]; rfl) ?_))
      show Wc T _ _ _
      refine Wc_cond false (by simp [ev, upd, dstUpd]) (fun h => by cases h) (fun _ => Wc_skip ?_)
      exact ⟨rfl, by ((try simp only [dstUpd]); repeat (first | exact F | refine F23.upd ?_ (by omega))), by simp [lastB, o21]⟩
    have d21 : (x.op != 21) = true := by simpa using o21
    by_cases o24 : x.op = 24
    · have d24 : (x.op != 24) = false := by simpa using o24
      refine Wc_seq (Wc_ops (Wo_run (fun call => by simp only [List.drop_succ_cons, List.drop_zero, iops_nil, iops_op, iops_grd, iK_some, iG_true, iG_false, gval_bool, beq_true, beq_false, Bool.not_true, Bool.not_false, iop, ev, upd, dstUpd, binV, binI, unV, ptr, Heap.cell, Heap.write, cellsOf, put, args0, partL, List.getD_cons_zero, List.getD_cons_succ, List.length_cons, List.length_nil, List.set_cons_zero, List.set_cons_succ, List.getElem?_cons_zero, List.getElem?_cons_succ, reduceIte, Nat.reduceEqDiff, Nat.reduceAdd, Nat.reduceMul, Nat.reduceLeDiff, Nat.zero_add, Nat.add_zero, Option.map_some, Int.reduceEq, Int.reduceLT, Int.reduceLE, Bool.false_eq_true, decide_true, decide_false, ge_iff_le, gt_iff_lt, set_get', F.e2, F.e4, g4 F.k, Fn.cells, hcv, hws, hne, F.e7, g7 F.k, Ins.cells, d21, d24]; rfl) ?_))
      show Wc T _ _ _
      refine Wc_cond false (by simp [ev, upd, dstUpd]) (fun h => by cases h) (fun _ => Wc_skip ?_)
      exact ⟨rfl, by ((try simp only [dstUpd]); repeat (first | exact F | refine F23.upd ?_ (by omega))), by simp [lastB, o24]⟩
    have d24 : (x.op != 24) = true := by simpa using o24
    refine Wc_seq (Wc_ops (Wo_run (fun call => by simp only [List.drop_succ_cons, List.drop_zero, iops_nil, iops_op, iops_grd, iK_some, iG_true, iG_false, gval_bool, beq_true, beq_false, Bool.not_true, Bool.not_false, iop, ev, upd, dstUpd, binV, binI, unV, ptr, Heap.cell, Heap.write, cellsOf, put, args0, partL, List.getD_cons_zero, List.getD_cons_succ, List.length_cons, List.length_nil, List.set_cons_zero, List.set_cons_succ, List.getElem?_cons_zero, List.getElem?_cons_succ, reduceIte, Nat.reduceEqDiff, Nat.reduceAdd, Nat.reduceMul, Nat.reduceLeDiff, Nat.zero_add, Nat.add_zero, Option.map_some, Int.reduceEq, Int.reduceLT, Int.reduceLE, Bool.false_eq_true, decide_true, decide_false, ge_iff_le, gt_iff_lt, set_get', F.e2, F.e4, g4 F.k, Fn.cells, hcv, hws, hne, F.e7, g7 F.k, Ins.cells, d21, d24]; rfl) ?_))
    show Wc T _ _ _
    refine Wc_cond (x.op != 25) (by simp [ev, upd]) (fun hn => ?_) (fun he => Wc_skip ?_)
    · refine Wc_seq (Wc_ops (Wo_run (fun call => by simp only [List.drop_succ_cons, List.drop_zero, iops_nil, iops_op, iops_grd, iK_some, iG_true, iG_false, gval_bool, beq_true, beq_false, Bool.not_true, Bool.not_false, iop, ev, upd, dstUpd, binV, binI, unV, ptr, Heap.cell, Heap.write, cellsOf, put, args0, partL, List.getD_cons_zero, List.getD_cons_succ, List.length_cons, List.length_nil, List.set_cons_zero, List.set_cons_succ, List.getElem?_cons_zero, List.getElem?_cons_succ, reduceIte, Nat.reduceEqDiff, Nat.reduceAdd, Nat.reduceMul, Nat.reduceLeDiff, Nat.zero_add, Nat.add_zero, Option.map_some, Int.reduceEq, Int.reduceLT, Int.reduceLE, Bool.false_eq_true, decide_true, decide_false, ge_iff_le, gt_iff_lt, set_get']; rfl) ?_))
      refine Wc_ret (bad _ _ F.k (by simp [upd]) ?_)
      have o25 : ¬ x.op = 25 := by simpa using hn
      rw [hpre]; simp [lastB, hat, o21, o24, o25]
    · have o25 : x.op = 25 := by simpa using he
      exact ⟨rfl, by ((try simp only [dstUpd]); repeat (first | exact F | refine F23.upd ?_ (by omega))), by simp [lastB, o25]⟩
  clear F
  rintro ⟨e, hp, d⟩ ⟨hdd, F, hlast⟩
  simp only at hdd F
  subst hdd
  have hI : insB c f x at' = numB c f x at' := by simp only [insB, hpre, hlast, Bool.true_and]
  refine Wc_seq (Wc_ops (Wo_op (iop_load (b := h.next) (o := 0) (cs := c.cells) (by simp only [upd, dstUpd, reduceIte, Nat.reduceEqDiff, F.e3]) (cells_all (g3 F.k) rfl)) (Wo_op (iop_load (b := h.next + 1) (o := 0) (cs := f.cells) (by simp only [upd, dstUpd, reduceIte, Nat.reduceEqDiff, F.e4]) (cells_all (g4 F.k) rfl)) (Wo_pre 1 (fun call => by simp only [List.take_succ_cons, List.take_zero, List.drop_succ_cons, List.drop_zero, iops_nil, iops_op, iops_grd, iK_some, iG_true, iG_false, gval_bool, beq_true, beq_false, Bool.not_true, Bool.not_false, iop, ev, upd, dstUpd, binV, binI, unV, ptr, Heap.cell, Heap.write, cellsOf, put, args0, partL, List.getD_cons_zero, List.getD_cons_succ, List.length_cons, List.length_nil, List.set_cons_zero, List.set_cons_succ, List.getElem?_cons_zero, List.getElem?_cons_succ, reduceIte, Nat.reduceEqDiff, Nat.reduceAdd, Nat.reduceMul, Nat.reduceLeDiff, Nat.zero_add, Nat.add_zero, Option.map_some, Int.reduceEq, Int.reduceLT, Int.reduceLE, Bool.false_eq_true, decide_true, decide_false, ge_iff_le, gt_iff_lt, set_get', F.e2]; rfl) ?_))))
  refine Wo_call ?_
  show Wk T (.fn 41) [.agg c.cells.toArray, .agg f.cells.toArray, .int .i64 at'] hp _
  refine (numbers41 h41 ((hc.keep hk).keep F.k) ((hf.keep hk).keep F.k) hx).mono fun o hq ⟨hkq, ho⟩ => ?_
  subst ho
  show Wo T _ _ _
  refine (Wo_run (fun call => by simp only [List.drop_succ_cons, List.drop_zero, iops_nil, iops_op, iops_grd, iK_some, iG_true, iG_false, gval_bool, beq_true, beq_false, Bool.not_true, Bool.not_false, iop, ev, upd, dstUpd, binV, binI, unV, ptr, Heap.cell, Heap.write, cellsOf, put, args0, partL, List.getD_cons_zero, List.getD_cons_succ, List.length_cons, List.length_nil, List.set_cons_zero, List.set_cons_succ, List.getElem?_cons_zero, List.getElem?_cons_succ, reduceIte, Nat.reduceEqDiff, Nat.reduceAdd, Nat.reduceMul, Nat.reduceLeDiff, Nat.zero_add, Nat.add_zero, Option.map_some, Int.reduceEq, Int.reduceLT, Int.reduceLE, Bool.false_eq_true, decide_true, decide_false, ge_iff_le, gt_iff_lt, set_get']; rfl) ?_)
  exact Wc_ret (fin _ hq _ (F.k.trans hkq) (by simp [upd, dstUpd]) hI)

end Go.Idl
end
