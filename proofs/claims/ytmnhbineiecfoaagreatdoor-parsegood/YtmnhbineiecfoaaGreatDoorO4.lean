/- Texts of the proof. -/
import Derived.Test.YtmnhbineiecfoaaGreatDoorL11
import Derived.Test.YtmnhbineiecfoaaGreatDoorI29
import Derived.Test.YtmnhbineiecfoaaGreatDoorI3f
set_option linter.unusedVariables false
set_option linter.unusedSimpArgs false
set_option maxRecDepth 100000
section
namespace Go.Idl
variable {T : Tbl}
theorem tok_len (t : Tok) : t.cells.length = 5 := rfl
def scanL : Nat → List UInt8 → Nat → List Tok → List Tok × Nat × Int
  | 0, _, _, _ => ([], 0, 0)
  | f + 1, l, a, acc =>
    let r := nextL l a
    if r.2.1 = 0 then (if r.1.kind = 0 then (acc ++ [r.1], 0, 0) else scanL f (l.drop (r.2.2 - a)) r.2.2 (acc ++ [r.1])) else ([], r.1.frm, r.2.1)
def scanS (s : ByteArray) : List Tok × Nat × Int := if 200000 < s.size then ([], 0, 2) else scanL (s.size + 1) (bs s) 0 []
theorem nextL_go {l : List UInt8} {a : Nat} (h : (nextL l a).2.1 = 0) (hk : (nextL l a).1.kind ≠ 0) : a < (nextL l a).2.2 ∧ (nextL l a).2.2 ≤ a + l.length := by
  have hs := skipN_le l false
  rw [nextL] at h hk ⊢
  generalize hl : l.drop (skipN l false) = l1 at h hk ⊢
  have hl1 : l1.length = l.length - skipN l false := by rw [← hl, List.length_drop]
  cases l1 with
  | nil => exact absurd rfl hk
  | cons c r =>
    have hn := lenT_le (l := c :: r) rfl (fun _ => sign_fits rfl)
    rw [hl1] at hn
    have hpos : 0 < l.length - skipN l false := by rw [← hl1]; simp
    simp only [nextA] at h ⊢
    split at h
    · cases h
    · rename_i h1
      rw [if_neg h1]
      split at h
      · cases h
      · rename_i h2
        rw [if_neg h2]
        simp only
        omega
theorem scan_ok (F : LexFns T) (hT : T.fn 17 = some C17) (hc : ∀ (h : Heap) (K : Out → Heap → Prop), K (.ret clsV) h → Wk T (.fn 35) [] h K) {s : ByteArray} {h : Heap} (hs : s.size < 4611686018427387904) :
    Wk T (.fn 17) [.string s] h (fun o h' => Kept h h' ∧ ∃ v, o = .ret (.tuple #[v, .int .i64 (scanS s).2.1, .int .i64 (scanS s).2.2]) ∧ ownL Tok.cells 5 h.next h' v (scanS s).1) := by
  refine Wk_fn hT (by simp [C17]) ?_
  simp only [C17]
  generalize hres : scanS s = res
  have fin : ∀ (e : Env) (h' : Heap) (v : Value) (x : Ex), (x = .normal ∨ x = .ret) → Kept h h' → e 2 = v → e 3 = .int .i64 res.2.1 → e 4 = .int .i64 res.2.2 → ownL Tok.cells 5 h.next h' v res.1 → (x = .normal ∨ x = .ret) ∧ some ([] : List Dfr) = some [] ∧ ∃ vs, resAll e h' [.tmp 2, .tmp 3, .tmp 4] = some vs ∧ Kept h h' ∧ ∃ v, Out.ret (tup vs) = .ret (.tuple #[v, .int .i64 res.2.1, .int .i64 res.2.2]) ∧ ownL Tok.cells 5 h.next h' v res.1 := fun e h' v x hx hk e2 e3 e4 ho =>
    ⟨hx, rfl, [v, .int .i64 res.2.1, .int .i64 res.2.2], by simp only [resAll, resV, e2, e3, e4], hk, v, rfl, ho⟩
  refine Wc_seq (Wc_ops (Wo_run (fun call => by simp only [go_sem, seval]; rfl) ?_))
  show Wc T _ _ _
  by_cases hlong : 200000 < s.size
  · have h1 : (200000 : Int) < ((s.size : Nat) : Int) := by omega
    rw [scanS, if_pos hlong] at hres
    subst hres
    refine Wc_seq (Wc_seq (Wc_ops (Wo_run (fun call => by simp only [go_sem, seval, h1]; rfl) ?_)))
    show Wc T _ _ _
    refine Wc_cond true (by first | rfl | assumption) (fun _ => ?_) (fun e => by cases e)
    refine Wc_seq (Wc_ops (Wo_run (fun call => by simp only [go_sem, seval]; rfl) ?_))
    exact Wc_ret (fin _ _ (.slice none 0 0) _ (.inr rfl) (.refl _) (by first | rfl | assumption) (by first | rfl | assumption) (by first | rfl | assumption) (.inl ⟨rfl, rfl⟩))
  have h1 : ¬ (200000 : Int) < ((s.size : Nat) : Int) := by omega
  rw [scanS, if_neg hlong] at hres
  refine Wc_seq (Wc_seq (Wc_ops (Wo_run (fun call => by simp only [go_sem, seval, h1]; rfl) ?_)))
  show Wc T _ _ _
  refine Wc_cond false (by first | rfl | assumption) (fun e => by cases e) (fun _ => Wc_skip ?_)
  show Wc T _ _ _
  refine Wc_seq (Wc_ops (Wo_pre 1 (fun call => by simp only [go_sem, seval]; rfl) ?_))
  refine Wo_call (hc _ _ ?_)
  show Wo T _ _ _
  refine Wo_op (v := .agg (scnC s 0).toArray) (h' := h) ?_ ?_
  · have := build_scn s
    simp only [iop, evps, List.map_cons, List.map_nil, ev, upd, dstUpd, args0, List.getD_cons_zero, reduceIte, Nat.reduceEqDiff]
    rw [show ([(0, 1, Value.string s), (2, 256, clsV)] : List (Nat × Nat × Value)) = [(0, 1, .string s), (2, 256, clsV)] from rfl]
    exact congrArg (Option.map _) this
  refine Wo_box (cs := scnC s 0) rfl fun h2 n2 => ?_
  refine (Wo_run (fun call => by simp only [go_sem, seval]; rfl) ?_)
  show Wc T _ _ _
  refine Wc_seq (Wc_ops (Wo_run (fun call => by simp only [go_sem, seval]; rfl) ?_))
  show Wc T _ _ _
  have hsz : s.size = (bs s).length := bs_size s
  refine Wc_block (Wc_loopF (fun e h' d => d = some [] ∧ Kept h h' ∧ h.next < h'.next ∧ ∃ a acc f, a ≤ s.size ∧ s.size - a < f ∧ acc.length ≤ a ∧ h'.get h.next = some (.cells (scnC s a) true 0) ∧ scanL f ((bs s).drop a) a acc = res ∧ ownL Tok.cells 5 (h.next + 1) h' (e 6) acc) (fun _ h' => farH h.next s h') ?_ ?_)
  · refine ⟨rfl, n2.kept, by show h.next < h2.next; rw [n2.next]; exact Nat.lt_succ_self _, 0, [], s.size + 1, Nat.zero_le _, by omega, Nat.le_refl _, n2.get, hres, .inl ⟨rfl, (by first | rfl | assumption)⟩⟩
  rintro e h3 d ⟨rfl, hk, hlt, a, acc, f, ha, hf, hacc, hg, hsc, hown⟩ hfr
  have e5 : e 5 = .pointer (some ⟨h.next, 0, none⟩) := ((hfr 5 (by decide)).trans (by first | rfl | assumption | (symm; assumption)))
  obtain ⟨f, rfl⟩ : ∃ g, f = g + 1 := ⟨f - 1, by omega⟩
  have hgo := nextL_go (l := (bs s).drop a) (a := a)
  rw [List.length_drop, ← hsz] at hgo
  rw [scanL] at hsc
  have far3 : farH h.next s h3 = s.size - a := by simp [farH, hg, scnC]
  have pp : ptr h.next 0 = .pointer (some ⟨h.next, 0, none⟩) := rfl
  refine Wc_block (Wc_seq (Wc_ops (Wo_pre 1 (fun call => by simp only [go_sem, seval, e5]; rfl) ?_)))
  refine Wo_call ((next_ok F hg hlt ha hs).mono ?_)
  generalize nextL ((bs s).drop a) a = r at hsc hgo ⊢
  obtain ⟨t, er, a'⟩ := r
  rintro o h4 ⟨k4, g4, rfl⟩
  simp only at hsc hgo g4
  show Wo T _ _ _
  refine (Wo_pre 4 (fun call => by simp only [go_sem, seval]; rfl) ?_)
  refine Wo_store_new (cs := t.cells) (h := h4) (by first | rfl | assumption) (by first | rfl | assumption) rfl rfl fun h5 n5 => ?_
  refine (Wo_run (fun call => by simp only [go_sem, seval]; rfl) ?_)
  show Wc T _ _ _
  have k34 : Kept h h5 := ⟨Nat.le_trans hk.next (Nat.le_trans k4.next n5.kept.next), fun b hb => by
    have := hk.next
    rw [n5.kept.get _ (by have := k4.next; omega), k4.get _ (by omega) (by omega), hk.get _ hb]⟩
  have h4n : h3.next ≤ h4.next := k4.next
  have ht5 := n5.get
  have hct : h5.cells h4.next 0 5 = some t.cells := cells_all ht5 rfl
  have g5 : h5.get h.next = some (.cells (scnC s a') true 0) := by rw [n5.kept.get _ (by omega)]; exact g4
  by_cases her : er = 0
  case neg =>
    have hb : (er != 0) = true := by simp [her]
    rw [if_neg her] at hsc
    subst hsc
    refine Wc_seq (Wc_seq (Wc_ops (Wo_run (fun call => by simp only [go_sem, seval, hb]; rfl) ?_)))
    show Wc T _ _ _
    refine Wc_cond true (by first | rfl | assumption) (fun _ => ?_) (fun e => by cases e)
    refine Wc_seq (Wc_draw_calm (by decide) (Wo_run (fun call => by simp only [go_sem, seval, ht5, Tok.cells]; rfl) ?_))
    refine ⟨rfl, ?_⟩
    exact Wc_ret (fin _ _ (.slice none 0 0) _ (.inr rfl) k34 (by first | rfl | assumption) (by first | rfl | assumption) (by first | rfl | assumption) (.inl ⟨rfl, rfl⟩))
  have hb : (er != 0) = false := by simp [her]
  rw [if_pos her] at hsc
  refine Wc_seq (Wc_seq (Wc_ops (Wo_run (fun call => by simp only [go_sem, seval, hb]; rfl) ?_)))
  show Wc T _ _ _
  refine Wc_cond false (by first | rfl | assumption) (fun e => by cases e) (fun _ => Wc_skip ?_)
  show Wc T _ _ _
  have own5 : ownL Tok.cells 5 (h.next + 1) h5 (e 6) acc := hown.keep (by have := n5.kept.next; omega) fun b h1 h2 => by
    rw [n5.kept.get _ (by omega), k4.get _ h2 (by omega)]
  refine Wc_seq (Wc_ops (Wo_pre 2 (fun call => by simp only [go_sem, seval, hct]; rfl) ?_))
  refine Wo_new (v := .slice (some ⟨h5.next, 0, none⟩) 1 1) (B := .cells t.cells true 5) (by rfl) fun h6 n6 => ?_
  have hel : elemsOf h6 5 (.slice (some ⟨h5.next, 0, none⟩) 1 1) = some ([t].length, [t].flatMap Tok.cells) := by
    simp only [elemsOf, Nat.one_ne_zero, if_false, Heap.cells, n6.get]; rfl
  have own6 := own5.kept n6.kept
  have h56 : h5.next ≤ h6.next := n6.kept.next
  have h45 : h4.next < h5.next := by rw [n5.next]; exact Nat.lt_succ_self _
  obtain ⟨v', h7, happ, hbs, own7⟩ := own6.append tok_len (bytes := 48) (x := .slice (some ⟨h5.next, 0, none⟩) 1 1) (m := [t]) (by omega) hel (by simp; omega)
  refine Wo_op (v := v') (h' := h7) (by simp only [iop, ev, upd, dstUpd, reduceIte, Nat.reduceEqDiff]; exact happ) ?_
  refine (Wo_run (fun call => by simp only [go_sem, seval]; rfl) ?_)
  show Wc T _ _ _
  have lo : ∀ b, b < h.next + 1 → h7.get b = h5.get b := fun b hb => by
    rw [own6.beside hbs hb (by omega), n6.kept.get _ (by omega)]
  have k7 : Kept h h7 := ⟨Nat.le_trans k34.next (Nat.le_trans h56 hbs.next), fun b hb => by rw [lo b (by omega), k34.get b hb]⟩
  have hct7 : h7.get h4.next = some (.cells t.cells true 0) := by
    have : h7.get h4.next = h6.get h4.next := by
      refine hbs.get _ (by omega) ?_
      intro p n c hv
      rcases own6 with ⟨_, e1⟩ | ⟨k, e1, e2, e3, e4⟩
      · rw [e1] at hv; cases hv
      · rw [e3] at hv
        cases hv
        rintro rfl
        rcases own5 with ⟨_, e5'⟩ | ⟨k', q1, q2, q3, q4⟩
        · rw [e5'] at e3; cases e3
        · rw [q3] at e3
          simp only [Value.slice.injEq, Option.some.injEq, Addr.mk.injEq, true_and] at e3
          have hkk := e3.1.1
          subst hkk
          rw [ht5] at q4
          simp only [Option.some.injEq, Blk.cells.injEq] at q4
          exact absurd q4.2.2 (by decide)
    rw [this, n6.kept.get _ (by omega)]; exact ht5
  refine Wc_seq (Wc_ops (Wo_run (fun call => by simp only [go_sem, seval, hct7, Tok.cells]; rfl) ?_))
  show Wc T _ _ _
  by_cases hk0 : t.kind = 0
  · have hz : (t.kind == 0) = true := beq_iff_eq.2 hk0
    rw [if_pos hk0] at hsc
    subst hsc
    refine Wc_cond true (by simp only [go_sem, seval, hz] <;> first | rfl | assumption | (symm; assumption)) (fun _ => ?_) (fun e => by cases e)
    refine Wc_seq (Wc_ops (Wo_run (fun call => by simp only [go_sem, seval]; rfl) ?_))
    exact Wc_ret (fin _ _ v' _ (.inr rfl) k7 (by first | rfl | assumption) (by first | rfl | assumption) (by first | rfl | assumption) (own7.mono (by omega)))
  · have hz : (t.kind == 0) = false := beq_eq_false_iff_ne.2 hk0
    rw [if_neg hk0] at hsc
    obtain ⟨g1, g2⟩ := hgo her hk0
    have g7 : h7.get h.next = some (.cells (scnC s a') true 0) := by rw [lo _ (by omega)]; exact g5
    have hdd : ((bs s).drop a).drop (a' - a) = (bs s).drop a' := by rw [List.drop_drop]; congr 1; omega
    rw [hdd] at hsc
    refine Wc_cond false (by simp only [go_sem, seval, hz] <;> first | rfl | assumption | (symm; assumption)) (fun e => by cases e) (fun _ => Wc_skip ?_)
    refine ⟨⟨rfl, k7, ?_, a', acc ++ [t], f, by omega, by omega, by rw [List.length_append, List.length_singleton]; omega, g7, hsc, ?_⟩, ?_⟩
    · show h.next < h7.next
      have := hbs.next; omega
    · have : (upd (fun _ => undef) 0 undef : Env) = upd (fun _ => undef) 0 undef := rfl
      simpa only [upd, dstUpd, reduceIte, Nat.reduceEqDiff] using own7
    · rw [far3]
      show farH h.next s h7 < _
      have : farH h.next s h7 = s.size - a' := by simp [farH, g7, scnC]
      rw [this]; omega
end Go.Idl
end

section
namespace Go.Idl
def C13L0 : IC := (.seq (.ops [⟨some 23, .op (.bin .lss (.t 22) (.t 21)), none⟩]) (.seq (.cond (.t 23) .skip (.exit 2)) (.seq (.block 3 (.seq (.ops [⟨some 24, .op (.iaddr (.sl 1) (.t 20) (.t 22)), none⟩, ⟨some 25, .op (.load none (.t 24)), none⟩, ⟨some 7, .op (.mov (.t 25)), none⟩]) (.seq (.draw [⟨some 26, .op (.mov (.t 7)), none⟩, ⟨some 27, .op (.bin .geq (.t 26) (.c (.int .i64 0))), none⟩, ⟨some 28, .op (.mov (.t 27)), none⟩, ⟨some 29, .op (.mov (.t 7)), (some (28, true))⟩, ⟨some 30, .op (.mov (.t 4)), (some (28, true))⟩, ⟨some 31, .op (.bin .lss (.t 29) (.t 30)), (some (28, true))⟩, ⟨some 32, .op (.pick (.t 28) (.t 31) (.c (.bool false))), none⟩, ⟨some 33, .op (.mov (.t 32)), none⟩, ⟨some 34, .op (.mov (.t 3)), (some (33, true))⟩, ⟨some 35, .op (.mov (.t 7)), (some (33, true))⟩, ⟨some 36, .op (.iaddr (.sl 1) (.t 34) (.t 35)), (some (33, true))⟩, ⟨some 37, .op (.load none (.t 36)), (some (33, true))⟩, ⟨some 38, .op (.mov (.t 3)), (some (33, true))⟩, ⟨some 39, .op (.mov (.t 4)), (some (33, true))⟩, ⟨some 40, .op (.iaddr (.sl 1) (.t 38) (.t 39)), (some (33, true))⟩, ⟨some 41, .op (.load none (.t 40)), (some (33, true))⟩, ⟨some 42, .op (.bin .gtr (.t 37) (.t 41)), (some (33, true))⟩, ⟨some 43, .op (.pick (.t 33) (.t 42) (.c (.bool false))), none⟩] [[], [0], [1, 0], [2, 1, 0], [2, 1, 0], [2, 1, 0, 4, 3], [5, 2, 1, 0, 4, 3], [2, 1, 0, 6, 5, 4, 3], [7, 2, 1, 0, 6, 5, 4, 3], [7, 2, 1, 0, 6, 5, 4, 3], [7, 2, 1, 0, 6, 5, 4, 3, 9, 8], [7, 2, 1, 0, 6, 5, 4, 3, 10, 9, 8], [7, 2, 1, 0, 6, 5, 4, 3], [7, 2, 1, 0, 6, 5, 4, 3], [7, 2, 1, 0, 6, 5, 4, 3, 13, 12], [7, 2, 1, 0, 6, 5, 4, 3, 14, 13, 12], [7, 2, 1, 0, 6, 5, 4, 3, 15, 14, 13, 12, 11, 10, 9, 8], [16, 7, 2, 1, 0, 6, 5, 4, 3, 15, 14, 13, 12, 11, 10, 9, 8]]) (.cond (.t 43) (.ops [⟨some 44, .op (.mov (.t 3)), none⟩, ⟨some 45, .op (.mov (.t 4)), none⟩, ⟨some 46, .op (.mov (.t 3)), none⟩, ⟨some 47, .op (.mov (.t 7)), none⟩, ⟨some 48, .op (.iaddr (.sl 1) (.t 46) (.t 47)), none⟩, ⟨some 49, .op (.load none (.t 48)), none⟩, ⟨some 50, .op (.iaddr (.sl 1) (.t 44) (.t 45)), none⟩, ⟨none, .op (.store 1 (.t 50) (.t 49)), none⟩]) .skip)))) (.ops [⟨some 51, .op (.bin .add (.t 22) (.c (.int .i64 1))), none⟩, ⟨some 22, .op (.mov (.t 51)), none⟩])))) def C13L1 : IC := (.seq (.ops [⟨some 15, .op (.bin .lss (.t 14) (.t 13)), none⟩]) (.seq (.cond (.t 15) .skip (.exit 0)) (.seq (.block 1 (.seq (.ops [⟨some 16, .op (.mov (.t 14)), none⟩, ⟨some 17, .op (.iaddr (.sl 4) (.t 12) (.t 14)), none⟩, ⟨some 18, .op (.load (some 4) (.t 17)), none⟩, ⟨some 5, .op (.alloc [.int .i64 0, .string ⟨#[]⟩, (.slice none 0 0), .int .i64 0]), none⟩, ⟨some 4, .op (.mov (.t 16)), none⟩, ⟨none, .op (.store 4 (.t 5) (.t 18)), none⟩]) (.seq (.seq (.ops [⟨some 19, .op (.faddr 2 (.t 5)), none⟩, ⟨some 20, .op (.load none (.t 19)), none⟩, ⟨some 21, .op (.len .sl (.t 20)), none⟩, ⟨some 22, .op (.mov (.c (.int .i64 0))), none⟩]) (.block 2 (.loop C13L0))) (.ops [⟨some 52, .op (.mov (.t 3)), none⟩, ⟨some 53, .op (.mov (.t 4)), none⟩, ⟨some 54, .op (.iaddr (.sl 1) (.t 52) (.t 53)), none⟩, ⟨some 55, .op (.load none (.t 54)), none⟩, ⟨some 56, .op (.bin .add (.t 55) (.c (.int .i64 1))), none⟩, ⟨some 57, .op (.iaddr (.sl 1) (.t 52) (.t 53)), none⟩, ⟨none, .op (.store 1 (.t 57) (.t 56)), none⟩])))) (.ops [⟨some 58, .op (.bin .add (.t 14) (.c (.int .i64 1))), none⟩, ⟨some 14, .op (.mov (.t 58)), none⟩])))) def C13 : IFn := ⟨66, (.seq (.ops [⟨some 2, .op (.mov (.c (.int .i64 0))), none⟩]) (.seq (.ops [⟨some 8, .op (.mov (.t 0)), none⟩, ⟨some 9, .op (.len .sl (.t 8)), none⟩, ⟨some 10, .op (.bin .add (.t 9) (.c (.int .i64 1))), none⟩, ⟨some 11, .op (.mkslice 1 8 [.int .i64 0] (.t 10) (.t 10)), none⟩, ⟨some 3, .op (.mov (.t 11)), none⟩]) (.seq (.seq (.ops [⟨some 12, .op (.mov (.t 0)), none⟩, ⟨some 13, .op (.len .sl (.t 12)), none⟩, ⟨some 14, .op (.mov (.c (.int .i64 0))), none⟩]) (.block 0 (.loop C13L1))) (.seq (.ops [⟨some 59, .op (.mov (.t 3)), none⟩, ⟨some 60, .op (.mov (.t 0)), none⟩, ⟨some 61, .op (.len .sl (.t 60)), none⟩, ⟨some 62, .op (.bin .sub (.t 61) (.c (.int .i64 1))), none⟩, ⟨some 63, .op (.minmax true (.t 62) (.c (.int .i64 0))), none⟩, ⟨some 64, .op (.iaddr (.sl 1) (.t 59) (.t 63)), none⟩, ⟨some 65, .op (.load none (.t 64)), none⟩, ⟨some 2, .op (.mov (.t 65)), none⟩]) .ret)))), [.tmp 2]⟩
def C16L0 : IC := (.seq (.ops [⟨some 25, .op (.bin .lss (.t 24) (.t 23)), none⟩]) (.seq (.cond (.t 25) .skip (.exit 2)) (.seq (.block 3 (.seq (.ops [⟨some 26, .op (.iaddr (.sl 1) (.t 22) (.t 24)), none⟩, ⟨some 27, .op (.load none (.t 26)), none⟩, ⟨some 7, .op (.mov (.t 27)), none⟩]) (.seq (.ops [⟨some 28, .op (.mov (.t 7)), none⟩, ⟨some 29, .op (.bin .geq (.t 28) (.c (.int .i64 0))), none⟩, ⟨some 30, .op (.mov (.t 29)), none⟩, ⟨some 31, .op (.mov (.t 7)), (some (30, true))⟩, ⟨some 32, .op (.mov (.t 4)), (some (30, true))⟩, ⟨some 33, .op (.bin .lss (.t 31) (.t 32)), (some (30, true))⟩, ⟨some 34, .op (.pick (.t 30) (.t 33) (.c (.bool false))), none⟩]) (.cond (.t 34) (.draw [⟨some 35, .op (.mov (.t 3)), none⟩, ⟨some 36, .op (.mov (.t 4)), none⟩, ⟨some 37, .op (.mov (.t 3)), none⟩, ⟨some 38, .op (.mov (.t 4)), none⟩, ⟨some 39, .op (.iaddr (.sl 1) (.t 37) (.t 38)), none⟩, ⟨some 40, .op (.load none (.t 39)), none⟩, ⟨some 41, .op (.mov (.t 3)), none⟩, ⟨some 42, .op (.mov (.t 7)), none⟩, ⟨some 43, .op (.iaddr (.sl 1) (.t 41) (.t 42)), none⟩, ⟨some 44, .op (.load none (.t 43)), none⟩, ⟨some 45, .op (.bin .add (.t 44) (.c (.int .i64 1))), none⟩, ⟨some 46, .op (.minmax true (.t 40) (.t 45)), none⟩, ⟨some 47, .op (.iaddr (.sl 1) (.t 35) (.t 36)), none⟩, ⟨none, .op (.store 1 (.t 47) (.t 46)), none⟩] [[], [], [], [], [3, 2], [4, 3, 2], [], [], [7, 6], [8, 7, 6], [9, 8, 7, 6], [10, 9, 8, 7, 6, 5, 4, 3, 2], [11, 10, 9, 8, 7, 6, 5, 4, 3, 2, 1, 0], [11, 10, 9, 8, 7, 6, 5, 4, 3, 2, 1, 0, 12]]) .skip)))) (.ops [⟨some 48, .op (.bin .add (.t 24) (.c (.int .i64 1))), none⟩, ⟨some 24, .op (.mov (.t 48)), none⟩])))) def C16L1 : IC := (.seq (.ops [⟨some 14, .op (.bin .lss (.t 13) (.t 12)), none⟩]) (.seq (.cond (.t 14) .skip (.exit 0)) (.seq (.block 1 (.seq (.ops [⟨some 15, .op (.mov (.t 13)), none⟩, ⟨some 16, .op (.iaddr (.sl 4) (.t 11) (.t 13)), none⟩, ⟨some 17, .op (.load (some 4) (.t 16)), none⟩, ⟨some 5, .op (.alloc [.int .i64 0, .string ⟨#[]⟩, (.slice none 0 0), .int .i64 0]), none⟩, ⟨some 4, .op (.mov (.t 15)), none⟩, ⟨none, .op (.store 4 (.t 5) (.t 17)), none⟩]) (.seq (.ops [⟨some 18, .op (.mov (.t 3)), none⟩, ⟨some 19, .op (.mov (.t 4)), none⟩, ⟨some 20, .op (.iaddr (.sl 1) (.t 18) (.t 19)), none⟩, ⟨none, .op (.store 1 (.t 20) (.c (.int .i64 1))), none⟩]) (.seq (.ops [⟨some 21, .op (.faddr 2 (.t 5)), none⟩, ⟨some 22, .op (.load none (.t 21)), none⟩, ⟨some 23, .op (.len .sl (.t 22)), none⟩, ⟨some 24, .op (.mov (.c (.int .i64 0))), none⟩]) (.block 2 (.loop C16L0)))))) (.ops [⟨some 49, .op (.bin .add (.t 13) (.c (.int .i64 1))), none⟩, ⟨some 13, .op (.mov (.t 49)), none⟩])))) def C16 : IFn := ⟨59, (.seq (.ops [⟨some 2, .op (.mov (.c (.int .i64 0))), none⟩]) (.seq (.ops [⟨some 8, .op (.mov (.t 0)), none⟩, ⟨some 9, .op (.len .sl (.t 8)), none⟩, ⟨some 10, .op (.mkslice 1 8 [.int .i64 0] (.t 9) (.t 9)), none⟩, ⟨some 3, .op (.mov (.t 10)), none⟩]) (.seq (.seq (.ops [⟨some 11, .op (.mov (.t 0)), none⟩, ⟨some 12, .op (.len .sl (.t 11)), none⟩, ⟨some 13, .op (.mov (.c (.int .i64 0))), none⟩]) (.block 0 (.loop C16L1))) (.seq (.seq (.ops [⟨some 50, .op (.mov (.t 0)), none⟩, ⟨some 51, .op (.len .sl (.t 50)), none⟩, ⟨some 52, .op (.bin .eql (.t 51) (.c (.int .i64 0))), none⟩]) (.cond (.t 52) (.seq (.ops [⟨some 2, .op (.mov (.c (.int .i64 0))), none⟩]) .ret) .skip)) (.seq (.ops [⟨some 53, .op (.mov (.t 3)), none⟩, ⟨some 54, .op (.mov (.t 0)), none⟩, ⟨some 55, .op (.len .sl (.t 54)), none⟩, ⟨some 56, .op (.bin .sub (.t 55) (.c (.int .i64 1))), none⟩, ⟨some 57, .op (.iaddr (.sl 1) (.t 53) (.t 56)), none⟩, ⟨some 58, .op (.load none (.t 57)), none⟩, ⟨some 2, .op (.mov (.t 58)), none⟩]) .ret))))), [.tmp 2]⟩ end Go.Idl
end

section
namespace Go.Idl
structure Nd where
  kind : Int
  text : ByteArray
  kids : List Int
  kv : Value
  pos : Int
def Nd.cells (x : Nd) : List Value := [.int .i64 x.kind, .string x.text, x.kv, .int .i64 x.pos]
def flatN : List Nd → List Value
  | [] => []
  | x :: l => .int .i64 x.kind :: .string x.text :: x.kv :: .int .i64 x.pos :: flatN l
def nodesAt (h : Heap) (v : Value) (l : List Nd) : Prop :=
  ((v = .slice none 0 0 ∧ l = []) ∨ ∃ b c, v = .slice (some ⟨b, 0, none⟩) l.length c ∧ b < h.next ∧ (l = [] ∨ ∃ o z, h.get b = some (.cells (flatN l) o z))) ∧ ∀ x ∈ l, intsAt h x.kv x.kids
theorem nodesAt.keep {h h' : Heap} (hk : Kept h h') {v : Value} {l : List Nd} (hh : nodesAt h v l) : nodesAt h' v l := by
  refine ⟨?_, fun x hx => (hh.2 x hx).keep hk⟩
  rcases hh.1 with hh | ⟨b, c, h1, h2, h3⟩
  · exact .inl hh
  · exact .inr ⟨b, c, h1, Nat.lt_of_lt_of_le h2 hk.next, h3.imp id fun ⟨o, z, h⟩ => ⟨o, z, by rw [hk.get b h2]; exact h⟩⟩
theorem flatN_length : ∀ l : List Nd, (flatN l).length = l.length * 4
  | [] => rfl
  | x :: l => by simp [flatN, flatN_length l]; omega
theorem flatN_drop : ∀ (l : List Nd) (i : Nat) (x : Nd), l[i]? = some x → ((flatN l).drop (i * 4)).take 4 = [.int .i64 x.kind, .string x.text, x.kv, .int .i64 x.pos]
  | [], i, x, h => by simp at h
  | y :: l, 0, x, h => by simp at h; subst h; simp [flatN]
  | y :: l, i + 1, x, h => by
    have := flatN_drop l i x (by simpa using h)
    rw [show (i + 1) * 4 = i * 4 + 4 by omega]
    simpa [flatN] using this
theorem nodesAt.load {h : Heap} {v : Value} {l : List Nd} (hh : nodesAt h v l) {i : Nat} {x : Nd} (hi : l[i]? = some x) : ∃ b c, v = .slice (some ⟨b, 0, none⟩) l.length c ∧ b < h.next ∧ (∃ o z, h.get b = some (.cells (flatN l) o z)) ∧ h.cells b (0 + i * 4) 4 = some [.int .i64 x.kind, .string x.text, x.kv, .int .i64 x.pos] := by
  have hlt : i < l.length := (List.getElem?_eq_some_iff.1 hi).1
  rcases hh.1 with ⟨_, rfl⟩ | ⟨b, c, h1, h2, h3⟩
  · simp at hlt
  · rcases h3 with rfl | h3
    · simp at hlt
    · refine ⟨b, c, h1, h2, h3, ?_⟩
      obtain ⟨o, z, h3⟩ := h3
      simp only [Heap.cells, h3, flatN_length, Nat.zero_add]
      rw [if_pos (by omega), flatN_drop l i x hi]
end Go.Idl
end

section
namespace Go.Idl
theorem nodesAt.len {h : Heap} {v : Value} {l : List Nd} (hh : nodesAt h v l) : ∃ a c, v = .slice a l.length c := by
  rcases hh.1 with ⟨rfl, rfl⟩ | ⟨b, c, h1, _⟩
  · exact ⟨none, 0, rfl⟩
  · exact ⟨_, c, h1⟩
end Go.Idl
end

section
namespace Go.Idl
def inner (D : List Nat) (m : Nat) (k : Int) : Nat := if 0 ≤ k ∧ k < D.length then max m (D.getD k.toNat 0 + 1) else m
def dep (D : List Nat) (ks : List Int) : Nat := ks.foldl (inner D) 1
def kidsOf (l : List Nd) (n : Nat) : List Int := (l[n]?.map (·.kids)).getD []
def depsN (l : List Nd) : Nat → List Nat
  | 0 => []
  | n + 1 => depsN l n ++ [dep (depsN l n) (kidsOf l n)]
def deepOf (l : List Nd) : Nat := (depsN l l.length).getD (l.length - 1) 0
theorem depsN_length (l : List Nd) : ∀ n, (depsN l n).length = n
  | 0 => rfl
  | n + 1 => by simp [depsN, depsN_length l n]
theorem inner_take {D : List Nat} {ks : List Int} {j : Nat} {k : Int} (h : ks[j]? = some k) (m : Nat) : (ks.take (j + 1)).foldl (inner D) m = inner D ((ks.take j).foldl (inner D) m) k := by
  rw [List.take_add_one, h]; simp
theorem fold_pos (D : List Nat) : ∀ (ks : List Int) (m : Nat), m ≤ ks.foldl (inner D) m
  | [], m => Nat.le_refl _
  | k :: ks, m => Nat.le_trans (by unfold inner; split <;> omega) (fold_pos D ks _)
theorem fold_le {D : List Nat} {B : Nat} (hD : ∀ k, D.getD k 0 ≤ B) : ∀ (ks : List Int) (m : Nat), m ≤ B + 1 → ks.foldl (inner D) m ≤ B + 1
  | [], m, h => h
  | k :: ks, m, h => fold_le hD ks _ (by have := hD k.toNat; unfold inner; split <;> omega)
theorem depsN_le (l : List Nd) : ∀ n k, (depsN l n).getD k 0 ≤ n
  | 0, k => by simp [depsN]
  | n + 1, k => by
    have ih := depsN_le l n
    simp only [depsN, List.getD_eq_getElem?_getD] at ih ⊢
    rw [List.getElem?_append]
    split
    · have := ih k; omega
    · rw [List.getElem?_singleton]
      split
      · exact fold_le (fun k => by simpa [List.getD_eq_getElem?_getD] using ih k) _ 1 (by omega)
      · simp
def natC (A : List Nat) : List Value := A.map fun (n : Nat) => Value.int .i64 (n : Int)
theorem natC_get {A : List Nat} {i a : Nat} (h : A[i]? = some a) : (natC A)[i]? = some (.int .i64 a) := by simp [natC, h]
theorem natC_set (A : List Nat) (i a : Nat) : (natC A).set i (.int .i64 a) = natC (A.set i a) := by simp [natC]
theorem natC_length (A : List Nat) : (natC A).length = A.length := by simp [natC]
theorem natC_zero (n : Nat) : (List.replicate n [Value.int .i64 0]).flatten = natC (List.replicate n 0) := by
  induction n with
  | zero => rfl
  | succ n ih => simp only [List.replicate_succ, List.flatten_cons, ih]; rfl
end Go.Idl
end

section
namespace Go.Idl
structure Arr (l : List Nd) (n m : Nat) (A : List Nat) : Prop where
  len : A.length = l.length + 1
  low : ∀ k, k < n → A[k]? = (depsN l n)[k]?
  at' : A[n]? = some (m - 1)
  high : ∀ k, n < k → k ≤ l.length → A[k]? = some 0
def slN (b n : Nat) : Value := .slice (some ⟨b, 0, none⟩) n n
theorem deep13_kid {T : Tbl} {l : List Nd} {n : Nat} (hn : n < l.length) (hN : l.length ≤ 100000) {ks : List Int} {h0 : Heap} {bl : Nat} {kv : Value} (hbl : h0.next ≤ bl) (hki : intsAt h0 kv ks)
    {e : Env} {hp : Heap} (h3 : e 3 = slN bl (l.length + 1)) (h4 : e 4 = .int .i64 n) (h20 : e 20 = kv) (h21 : e 21 = .int .i64 ks.length) {j : Nat} (hj : j ≤ ks.length) (h22 : e 22 = .int .i64 j)
    (hkl : ks.length < 4611686018427387904) (hk : Kept h0 hp) (hbn : bl < hp.next) {A : List Nat} (hA : hp.get bl = some (.cells (natC A) true 1)) (ha : Arr l n ((ks.take j).foldl (inner (depsN l n)) 1) A) {Q : Ex → St → Prop}
    (hgo : ∀ (e' : Env) (hp' : Heap) (A' : List Nat), (∀ t, t < 7 → e' t = e t) → (∀ t, 7 < t → t < 22 → e' t = e t) → e' 22 = .int .i64 ((j + 1 : Nat) : Int) → j < ks.length → Kept h0 hp' → hp.next = hp'.next → hp'.get bl = some (.cells (natC A') true 1) → Arr l n ((ks.take (j + 1)).foldl (inner (depsN l n)) 1) A' →
      (∀ b, b ≠ bl → hp'.get b = hp.get b) → Q .normal ⟨e', hp', some []⟩)
    (hend : ∀ e' : Env, (∀ t, t < 22 → e' t = e t) → j = ks.length → Q (.brk 2) ⟨e', hp, some []⟩) : Wc T C13L0 ⟨e, hp, some []⟩ Q := by
  rw [C13L0]
  refine Wc_seq (Wc_ops (Wo_run (fun call => by simp only [iops_nil, iops_op, iops_grd, iK_some, iG_true, iG_false, gval_bool, beq_true, beq_false, Bool.not_true, Bool.not_false, iop, ev, upd, dstUpd, h21, h22, binV, binI, reduceIte, Option.map_some]; rfl) ?_))
  show Wc T _ _ _
  refine Wc_seq (Wc_cond (decide ((j : Int) < ks.length)) (by simp [ev, upd]) (fun hlt => Wc_skip ?_) (fun hge => Wc_exit ?_))
  case refine_2 =>
    refine hend _ (fun t ht => by simp only [upd]; rw [if_neg (by omega)]) (by simp at hge; omega)
  show Wc T _ _ _
  have hjl : j < ks.length := by simpa using hlt
  obtain ⟨k, hkj⟩ : ∃ k, ks[j]? = some k := ⟨_, List.getElem?_eq_getElem hjl⟩
  obtain ⟨b, c, rfl, hb0, ⟨o, z, hg0⟩, hcell⟩ := hki.load hkj
  have hb : b < hp.next := Nat.lt_of_lt_of_le hb0 hk.next
  have hg : hp.get b = some (.cells (ints64 ks) o z) := by rw [hk.get b hb0]; exact hg0
  have e1 : IntKind.i64.wrap ((j : Int) + 1) = ((j + 1 : Nat) : Int) := by rw [wrap64] <;> omega
  have hfold := inner_take hkj (D := depsN l n) 1
  have hDl := depsN_length l n
  have hbb : b ≠ bl := by omega
  refine Wc_seq (Wc_block (Wc_seq (Wc_ops (Wo_run (fun call => by
    simp only [iops_nil, iops_op, iops_grd, iK_some, iG_true, iG_false, gval_bool, beq_true, beq_false, Bool.not_true, Bool.not_false, iop, ev, upd, dstUpd, h20, h22, idx_ok hjl, ptr, Heap.cell, hg, hcell, Option.map_some, reduceIte, Nat.reduceEqDiff]
    rfl) ?_))))
  show Wc T _ _ _
  have last : ∀ (e' : Env) (hp' : Heap) (A' : List Nat), (∀ t, t < 7 → e' t = e t) → (∀ t, 7 < t → t < 23 → e' t = e t) → Kept h0 hp' → hp.next = hp'.next → hp'.get bl = some (.cells (natC A') true 1) → Arr l n (inner (depsN l n) ((ks.take j).foldl (inner (depsN l n)) 1) k) A' → (∀ b, b ≠ bl → hp'.get b = hp.get b) →
      To (Tb 3 (Tn T (.ops [⟨(some 51), .op (.bin .add (.t 22) (.c (.int .i64 1))), none⟩, ⟨(some 22), .op (.mov (.t 51)), none⟩]) Q)) none ⟨e', hp', some []⟩ := by
    intro e' hp' A' f1 f2 f3 f4 f5 f6 f7
    show Wc T _ _ _
    have g22 : e' 22 = .int .i64 j := by rw [f2 22 (by omega) (by omega)]; exact h22
    refine Wc_ops (Wo_run (fun call => by simp only [iops_nil, iops_op, iops_grd, iK_some, iG_true, iG_false, gval_bool, beq_true, beq_false, Bool.not_true, Bool.not_false, iop, ev, upd, dstUpd, g22, e1, binV, binI, reduceIte, Nat.reduceEqDiff, Option.map_some]; rfl) ?_)
    refine hgo _ hp' A' (fun t ht => ?_) (fun t h1 h2 => ?_) (by simp [upd]) hjl f3 f4 f5 (by rw [hfold]; exact f6) f7
    · simp only [upd]; rw [if_neg (by omega), if_neg (by omega)]; exact f1 t ht
    · simp only [upd]; rw [if_neg (by omega), if_neg (by omega)]; exact f2 t h1 (by omega)
  have hcalm : calm [⟨(some 26), .op (.mov (.t 7)), none⟩,
      ⟨(some 27), .op (.bin .geq (.t 26) (.c (.int .i64 0))), none⟩,
      ⟨(some 28), .op (.mov (.t 27)), none⟩,
      ⟨(some 29), .op (.mov (.t 7)), (some (28, true))⟩,
      ⟨(some 30), .op (.mov (.t 4)), (some (28, true))⟩,
      ⟨(some 31), .op (.bin .lss (.t 29) (.t 30)), (some (28, true))⟩,
      ⟨(some 32), .op (.pick (.t 28) (.t 31) (.c (.bool false))), none⟩,
      ⟨(some 33), .op (.mov (.t 32)), none⟩,
      ⟨(some 34), .op (.mov (.t 3)), (some (33, true))⟩,
      ⟨(some 35), .op (.mov (.t 7)), (some (33, true))⟩,
      ⟨(some 36), .op (.iaddr (.sl 1) (.t 34) (.t 35)), (some (33, true))⟩,
      ⟨(some 37), .op (.load none (.t 36)), (some (33, true))⟩,
      ⟨(some 38), .op (.mov (.t 3)), (some (33, true))⟩,
      ⟨(some 39), .op (.mov (.t 4)), (some (33, true))⟩,
      ⟨(some 40), .op (.iaddr (.sl 1) (.t 38) (.t 39)), (some (33, true))⟩,
      ⟨(some 41), .op (.load none (.t 40)), (some (33, true))⟩,
      ⟨(some 42), .op (.bin .gtr (.t 37) (.t 41)), (some (33, true))⟩,
      ⟨(some 43), .op (.pick (.t 33) (.t 42) (.c (.bool false))), none⟩] = true := by decide
  have easy : ∀ (e' : Env), (∀ t, t < 7 → e' t = e t) → (∀ t, 7 < t → t < 23 → e' t = e t) → inner (depsN l n) ((ks.take j).foldl (inner (depsN l n)) 1) k = (ks.take j).foldl (inner (depsN l n)) 1 →
      To (Tb 3 (Tn T (.ops [⟨(some 51), .op (.bin .add (.t 22) (.c (.int .i64 1))), none⟩, ⟨(some 22), .op (.mov (.t 51)), none⟩]) Q)) none ⟨e', hp, some []⟩ := fun e' f1 f2 f3 =>
    last e' hp A f1 f2 hk rfl hA (by rw [f3]; exact ha) (fun _ _ => rfl)
  by_cases hk0 : 0 ≤ k
  case neg =>
    refine Wc_seq (Wc_draw_calm hcalm (Wo_run (fun call => by
      simp only [iops_nil, iops_op, iops_grd, iK_some, iG_true, iG_false, gval_bool, beq_true, beq_false, Bool.not_true, Bool.not_false, iop, ev, upd, dstUpd, h4, binV, binI, hk0, ge_iff_le, decide_false, reduceIte, Nat.reduceEqDiff, Option.map_some, Bool.false_eq_true, beq_iff_eq]
      rfl) ⟨rfl, ?_⟩))
    show Wc T _ _ _
    refine Wc_cond false (by simp [ev, upd]) (fun h => by cases h) (fun _ => Wc_skip ?_)
    exact easy _ (fun t ht => by simp only [upd]; repeat rw [if_neg (by omega)]) (fun t h1 h2 => by simp only [upd]; repeat rw [if_neg (by omega)]) (by unfold inner; rw [if_neg (by omega)])
  by_cases hkn : k < n
  case neg =>
    refine Wc_seq (Wc_draw_calm hcalm (Wo_run (fun call => by
      simp only [iops_nil, iops_op, iops_grd, iK_some, iG_true, iG_false, gval_bool, beq_true, beq_false, Bool.not_true, Bool.not_false, iop, ev, upd, dstUpd, h4, binV, binI, hk0, hkn, ge_iff_le, decide_true, decide_false, reduceIte, Nat.reduceEqDiff, Option.map_some, Bool.false_eq_true, beq_iff_eq]
      rfl) ⟨rfl, ?_⟩))
    show Wc T _ _ _
    refine Wc_cond false (by simp [ev, upd]) (fun h => by cases h) (fun _ => Wc_skip ?_)
    exact easy _ (fun t ht => by simp only [upd]; repeat rw [if_neg (by omega)]) (fun t h1 h2 => by simp only [upd]; repeat rw [if_neg (by omega)]) (by unfold inner; rw [if_neg (by omega)])
  obtain ⟨kk, rfl⟩ : ∃ kk : Nat, k = kk := ⟨k.toNat, by omega⟩
  have hkn' : kk < n := by omega
  obtain ⟨a, hDa⟩ : ∃ a, (depsN l n)[kk]? = some a := ⟨_, List.getElem?_eq_getElem (by omega)⟩
  have hAk : A[kk]? = some a := by rw [ha.low kk hkn', hDa]
  have hm := fold_pos (depsN l n) (ks.take j) 1
  have hin : inner (depsN l n) ((ks.take j).foldl (inner (depsN l n)) 1) (kk : Int) = max ((ks.take j).foldl (inner (depsN l n)) 1) (a + 1) := by
    unfold inner
    rw [if_pos (by omega)]
    simp [List.getD_eq_getElem?_getD, hDa]
  generalize (ks.take j).foldl (inner (depsN l n)) 1 = m at *
  have hkA : (natC A)[0 + kk * 1]? = some (.int .i64 a) := by rw [Nat.zero_add, Nat.mul_one]; exact natC_get hAk
  have hnA : (natC A)[0 + n * 1]? = some (.int .i64 ((m - 1 : Nat) : Int)) := by rw [Nat.zero_add, Nat.mul_one]; exact natC_get ha.at'
  have hset : (natC A).set (0 + n * 1) (.int .i64 a) = natC (A.set n a) := by rw [Nat.zero_add, Nat.mul_one]; exact natC_set A n a
  have hlen : 0 + n * 1 + 1 ≤ (natC A).length := by rw [natC_length, ha.len]; omega
  by_cases hgt : ((m - 1 : Nat) : Int) < (a : Int)
  · refine Wc_seq (Wc_draw_calm hcalm (Wo_run (fun call => by
      simp only [iops_nil, iops_op, iops_grd, iK_some, iG_true, iG_false, gval_bool, beq_true, beq_false, Bool.not_true, Bool.not_false, iop, ev, upd, dstUpd, h3, h4, slN, binV, binI, hk0, hkn, idx_ok (show kk < l.length + 1 by omega), idx_ok (show n < l.length + 1 by omega), ptr, Heap.cell, hA, hkA, hnA, hgt, gt_iff_lt, ge_iff_le, decide_true, decide_false, reduceIte, Nat.reduceEqDiff, Option.map_some, Bool.false_eq_true, beq_iff_eq]
      rfl) ⟨rfl, ?_⟩))
    show Wc T _ _ _
    refine Wc_cond true (by simp [ev, upd]) (fun _ => ?_) (fun h => by cases h)
    refine Wc_ops (Wo_run (fun call => by
      simp only [iops_nil, iops_op, iops_grd, iK_some, iop, ev, upd, dstUpd, h3, h4, slN, idx_ok (show kk < l.length + 1 by omega), idx_ok (show n < l.length + 1 by omega), ptr, Heap.cell, Heap.write, cellsOf, put, hA, hkA, hset, hlen, List.length_cons, List.length_nil, reduceIte, Nat.reduceEqDiff, Nat.reduceAdd, Option.map_some]
      rfl) ?_)
    refine last _ _ (A.set n a) (fun t ht => by simp only [upd]; repeat rw [if_neg (by omega)]) (fun t h1 h2 => by simp only [upd]; repeat rw [if_neg (by omega)]) (hk.set hbl _) rfl (set_get' _ _ _) ?_ (fun b hb => set_get_ne' _ _ hb)
    rw [hin]
    have he : max m (a + 1) = a + 1 := by omega
    rw [he]
    refine ⟨by simp [ha.len], fun t ht => ?_, ?_, fun t h1 h2 => ?_⟩
    · rw [List.getElem?_set_ne (by omega)]; exact ha.low t ht
    · rw [List.getElem?_set_self (by rw [ha.len]; omega)]; rfl
    · rw [List.getElem?_set_ne (by omega)]; exact ha.high t h1 h2
  · refine Wc_seq (Wc_draw_calm hcalm (Wo_run (fun call => by
      simp only [iops_nil, iops_op, iops_grd, iK_some, iG_true, iG_false, gval_bool, beq_true, beq_false, Bool.not_true, Bool.not_false, iop, ev, upd, dstUpd, h3, h4, slN, binV, binI, hk0, hkn, idx_ok (show kk < l.length + 1 by omega), idx_ok (show n < l.length + 1 by omega), ptr, Heap.cell, hA, hkA, hnA, hgt, gt_iff_lt, ge_iff_le, decide_true, decide_false, reduceIte, Nat.reduceEqDiff, Option.map_some, Bool.false_eq_true, beq_iff_eq]
      rfl) ⟨rfl, ?_⟩))
    show Wc T _ _ _
    refine Wc_cond false (by simp [ev, upd]) (fun h => by cases h) (fun _ => Wc_skip ?_)
    exact easy _ (fun t ht => by simp only [upd]; repeat rw [if_neg (by omega)]) (fun t h1 h2 => by simp only [upd]; repeat rw [if_neg (by omega)]) (by rw [hin]; omega)
end Go.Idl
end

section
namespace Go.Idl
theorem Arr.done {l : List Nd} {n : Nat} (hn : n < l.length) {A : List Nat} (ha : Arr l n (dep (depsN l n) (kidsOf l n)) A) : Arr l (n + 1) 1 (A.set n (dep (depsN l n) (kidsOf l n))) := by
  have hD := depsN_length l n
  refine ⟨by simp [ha.len], fun k hk => ?_, ?_, fun k h1 h2 => ?_⟩
  · simp only [depsN]
    by_cases e : k = n
    · subst e
      rw [List.getElem?_set_self (by rw [ha.len]; omega), List.getElem?_append_right (by omega), hD, Nat.sub_self]; rfl
    · rw [List.getElem?_set_ne (by omega), List.getElem?_append_left (by omega)]
      exact ha.low k (by omega)
  · rw [List.getElem?_set_ne (by omega)]; exact ha.high (n + 1) (by omega) (by omega)
  · rw [List.getElem?_set_ne (by omega)]; exact ha.high k (by omega) h2
theorem deep13_node {T : Tbl} {l : List Nd} (hN : l.length ≤ 100000) (hK : ∀ x ∈ l, x.kids.length ≤ 100000) {h0 : Heap} {bl : Nat} {v : Value} (hbl : h0.next ≤ bl) (hn : nodesAt h0 v l)
    {e : Env} {hp : Heap} {n : Nat} (hnl : n ≤ l.length) (h3 : e 3 = slN bl (l.length + 1)) (h12 : e 12 = v) (h13 : e 13 = .int .i64 l.length) (h14 : e 14 = .int .i64 n) (h0' : e 0 = v)
    (hk : Kept h0 hp) (hbn : bl < hp.next) {A : List Nat} (hA : hp.get bl = some (.cells (natC A) true 1)) (ha : Arr l n 1 A) {Q : Ex → St → Prop}
    (hgo : n < l.length → ∀ (e' : Env) (hp' : Heap) (A' : List Nat), e' 3 = e 3 → e' 12 = v → e' 13 = e 13 → e' 14 = .int .i64 ((n + 1 : Nat) : Int) → e' 0 = v → Kept h0 hp' → bl < hp'.next → hp'.get bl = some (.cells (natC A') true 1) → Arr l (n + 1) 1 A' → Q .normal ⟨e', hp', some []⟩)
    (hend : n = l.length → ∀ e' : Env, e' 3 = e 3 → e' 0 = v → Q (.brk 0) ⟨e', hp, some []⟩) : Wc T C13L1 ⟨e, hp, some []⟩ Q := by
  rw [C13L1]
  refine Wc_seq (Wc_ops (Wo_run (fun call => by simp only [iops_nil, iops_op, iK_some, iop, ev, upd, dstUpd, h13, h14, binV, binI, reduceIte, Option.map_some]; rfl) ?_))
  show Wc T _ _ _
  refine Wc_seq (Wc_cond (decide ((n : Int) < l.length)) (by simp [ev, upd]) (fun hlt => Wc_skip ?_) (fun hge => Wc_exit ?_))
  case refine_2 => exact hend (by simp at hge; omega) _ (by simp [upd]) (by simp only [upd, Nat.reduceEqDiff, reduceIte]; exact h0')
  show Wc T _ _ _
  have hil : n < l.length := by simpa using hlt
  obtain ⟨x, hx⟩ : ∃ x, l[n]? = some x := ⟨_, List.getElem?_eq_getElem hil⟩
  have hxm := List.mem_of_getElem? hx
  obtain ⟨b, c, rfl, hb, ⟨o, z, hg⟩, hcells⟩ := (hn.keep hk).load hx
  obtain ⟨ka, kc, hkv⟩ := (hn.2 x hxm).len
  have hki := hn.2 x hxm
  have hkl := hK x hxm
  have e1 : IntKind.i64.wrap ((n : Int) + 1) = ((n + 1 : Nat) : Int) := by rw [wrap64] <;> omega
  have hkids : kidsOf l n = x.kids := by simp [kidsOf, hx]
  refine Wc_seq (Wc_block (Wc_seq (Wc_ops (Wo_run (fun call => by
    simp only [iops_nil, iops_op, iK_some, iop, ev, upd, dstUpd, h12, h14, idx_ok hil, ptr, hcells, Option.map_some, cellsOf, Heap.write, Heap.new, Heap.set, put, List.length_cons, List.length_nil, reduceIte, Nat.reduceEqDiff, Nat.reduceAdd, Nat.reduceLeDiff, List.set_cons_zero, List.set_cons_succ]
    rfl) ?_))))
  show Wc T _ _ _
  refine Wc_seq (Wc_seq (Wc_ops (Wo_run (fun call => by
    simp only [iops_nil, iops_op, iK_some, iop, ev, upd, dstUpd, ptr, hkv, Option.map_some, Heap.cell, reduceIte, Nat.reduceEqDiff, Nat.reduceAdd, Nat.zero_add, List.getElem?_cons_zero, List.getElem?_cons_succ]
    rfl) ?_)))
  show Wc T _ _ _
  have hbb : bl ≠ hp.next := by omega
  refine Wc_block (Wc_loop (fun s => s.d = some [] ∧ Kept h0 s.h ∧ bl < s.h.next ∧ s.e 0 = .slice (some ⟨b, 0, none⟩) l.length c ∧ s.e 3 = e 3 ∧ s.e 4 = .int .i64 n ∧ s.e 12 = .slice (some ⟨b, 0, none⟩) l.length c ∧ s.e 13 = e 13 ∧ s.e 14 = .int .i64 n ∧ s.e 20 = x.kv ∧ s.e 21 = .int .i64 x.kids.length ∧
      ∃ j : Nat, j ≤ x.kids.length ∧ s.e 22 = .int .i64 j ∧ ∃ A, s.h.get bl = some (.cells (natC A) true 1) ∧ Arr l n ((x.kids.take j).foldl (inner (depsN l n)) 1) A)
    (fun s => match s.e 22 with | .int _ i => (x.kids.length - i).toNat | _ => 0) ?_ ?_)
  · refine ⟨rfl, (hk.new _).set hk.next _, by simp only [Heap.set, Heap.new]; omega, by simp only [upd, Nat.reduceEqDiff, reduceIte]; exact h0', by simp only [upd, Nat.reduceEqDiff, reduceIte], by simp only [upd, Nat.reduceEqDiff, reduceIte],
      by simp only [upd, Nat.reduceEqDiff, reduceIte]; exact h12, by simp only [upd, Nat.reduceEqDiff, reduceIte], by simp only [upd, Nat.reduceEqDiff, reduceIte]; exact h14, by simp only [upd, Nat.reduceEqDiff, reduceIte, hkv], by simp only [upd, Nat.reduceEqDiff, reduceIte],
      0, Nat.zero_le _, by simp only [upd, Nat.reduceEqDiff, reduceIte]; rfl, A, ?_, ha⟩
    simp only [if_neg hbb]; exact hA
  · rintro ⟨e2, hp2, d2⟩ ⟨hd, gk, gbn, g0, g3, g4, g12, g13, g14, g20, g21, j, hj, g22, A2, gA, ga⟩
    simp only at hd gk gbn g0 g3 g4 g12 g13 g14 g20 g21 g22 gA
    subst hd
    refine deep13_kid hil hN hbl hki (g3.trans h3) g4 g20 g21 hj g22 (by omega) gk gbn gA ga ?_ ?_
    · intro e' hp' A' f1 f2 f3 f4 f5 f6 f7 f8 f9
      refine ⟨⟨rfl, f5, by rw [← f6]; exact gbn, (f1 0 (by omega)).trans g0, (f1 3 (by omega)).trans g3, (f1 4 (by omega)).trans g4, (f2 12 (by omega) (by omega)).trans g12, (f2 13 (by omega) (by omega)).trans g13,
        (f2 14 (by omega) (by omega)).trans g14, (f2 20 (by omega) (by omega)).trans g20, (f2 21 (by omega) (by omega)).trans g21, j + 1, f4, f3, A', f7, f8⟩, ?_⟩
      simp only [f3, g22]
      omega
    · intro e' f1 f2
      subst f2
      show Wc T _ _ _
      rw [List.take_length] at ga
      have hdep : (x.kids.foldl (inner (depsN l n)) 1) = dep (depsN l n) (kidsOf l n) := by rw [hkids]; rfl
      rw [hdep] at ga
      have hpos : 1 ≤ dep (depsN l n) (kidsOf l n) := fold_pos _ _ 1
      have hle : dep (depsN l n) (kidsOf l n) ≤ n + 1 := fold_le (fun k => depsN_le l n k) _ 1 (by omega)
      have k3 : e' 3 = slN bl (l.length + 1) := by rw [f1 3 (by omega), g3, h3]
      have k4 : e' 4 = .int .i64 n := by rw [f1 4 (by omega), g4]
      have k14 : e' 14 = .int .i64 n := by rw [f1 14 (by omega), g14]
      have hnA : (natC A2)[0 + n * 1]? = some (.int .i64 ((dep (depsN l n) (kidsOf l n) - 1 : Nat) : Int)) := by rw [Nat.zero_add, Nat.mul_one]; exact natC_get ga.at'
      have hset : (natC A2).set (0 + n * 1) (.int .i64 (dep (depsN l n) (kidsOf l n))) = natC (A2.set n (dep (depsN l n) (kidsOf l n))) := by rw [Nat.zero_add, Nat.mul_one]; exact natC_set A2 n _
      have hlen : 0 + n * 1 + 1 ≤ (natC A2).length := by rw [natC_length, ga.len]; omega
      have e2 : IntKind.i64.wrap (((dep (depsN l n) (kidsOf l n) - 1 : Nat) : Int) + 1) = ((dep (depsN l n) (kidsOf l n) : Nat) : Int) := by rw [wrap64] <;> omega
      refine Wc_ops (Wo_run (fun call => by
        simp only [iops_nil, iops_op, iK_some, iop, ev, upd, dstUpd, k3, k4, slN, idx_ok (show n < l.length + 1 by omega), ptr, Heap.cell, Heap.write, cellsOf, put, gA, hnA, binV, binI, e2, hset, hlen, List.length_cons, List.length_nil, reduceIte, Nat.reduceEqDiff, Nat.reduceAdd, Option.map_some]
        rfl) ?_)
      show Wc T _ _ _
      refine Wc_ops (Wo_run (fun call => by simp only [iops_nil, iops_op, iK_some, iop, ev, upd, dstUpd, k14, e1, binV, binI, reduceIte, Nat.reduceEqDiff, Option.map_some]; rfl) ?_)
      refine hgo hil _ _ _ ?_ ?_ ?_ ?_ ?_ (gk.set hbl _) gbn (set_get' _ _ _) (ga.done hil)
      · simp only [upd, Nat.reduceEqDiff, reduceIte]; rw [f1 3 (by omega), g3]
      · simp only [upd, Nat.reduceEqDiff, reduceIte]; rw [f1 12 (by omega), g12]
      · simp only [upd, Nat.reduceEqDiff, reduceIte]; rw [f1 13 (by omega), g13]
      · simp only [upd, Nat.reduceEqDiff, reduceIte]
      · simp only [upd, Nat.reduceEqDiff, reduceIte]; rw [f1 0 (by omega), g0]
theorem arr_begin (l : List Nd) : Arr l 0 1 (List.replicate (l.length + 1) 0) :=
  ⟨by simp, fun k hk => by omega, by simp, fun k h1 h2 => by rw [List.getElem?_replicate, if_pos (by omega)]⟩
theorem deep13 {T : Tbl} (hT : T.fn 13 = some C13) {h : Heap} {v : Value} {l : List Nd} (hn : nodesAt h v l) (hN : l.length ≤ 100000) (hK : ∀ x ∈ l, x.kids.length ≤ 100000) :
    Wk T (.fn 13) [v] h (fun o h' => Kept h h' ∧ o = .ret (.int .i64 (deepOf l))) := by
  obtain ⟨va, vc, hv⟩ := hn.len
  refine Wk_fn hT (by simp [C13]) ?_
  simp only [C13]
  refine Wc_seq (Wc_ops (Wo_run (fun call => by simp only [iops_nil, iops_op, iK_some, iop, ev, upd, dstUpd, reduceIte]; rfl) ?_))
  show Wc T _ _ _
  have e1 : IntKind.i64.wrap ((l.length : Int) + 1) = ((l.length + 1 : Nat) : Int) := by rw [wrap64] <;> omega
  have hsz : (0 : Int) ≤ ((l.length + 1 : Nat) : Int) ∧ ((l.length + 1 : Nat) : Int) ≤ ((l.length + 1 : Nat) : Int) ∧ ((l.length + 1 : Nat) : Int) * ((8 : Nat) : Int) ≤ 140737488355328 := by omega
  refine Wc_seq (Wc_ops (Wo_run (fun call => by
    simp only [iops_nil, iops_op, iK_some, iop, ev, upd, dstUpd, args0, hv, e1, hsz, and_self, binV, binI, reduceIte, Nat.reduceEqDiff, Option.map_some, List.getD_cons_zero, Int.toNat_natCast, natC_zero]
    rfl) ?_))
  show Wc T _ _ _
  refine Wc_seq (Wc_seq (Wc_ops (Wo_run (fun call => by simp only [iops_nil, iops_op, iK_some, iop, ev, upd, dstUpd, args0, hv, reduceIte, Nat.reduceEqDiff, List.getD_cons_zero]; rfl) ?_)))
  show Wc T _ _ _
  have hk0 : Kept h (h.new (.cells (natC (List.replicate (l.length + 1) 0)) true 1)) := (Kept.refl h).new _
  refine Wc_block (Wc_loop (fun s => s.d = some [] ∧ Kept h s.h ∧ h.next < s.h.next ∧ s.e 0 = v ∧ s.e 3 = slN h.next (l.length + 1) ∧ s.e 12 = v ∧ s.e 13 = .int .i64 l.length ∧ ∃ n : Nat, n ≤ l.length ∧ s.e 14 = .int .i64 n ∧ ∃ A, s.h.get h.next = some (.cells (natC A) true 1) ∧ Arr l n 1 A)
    (fun s => match s.e 14 with | .int _ i => (l.length - i).toNat | _ => 0) ?_ ?_)
  · refine ⟨rfl, hk0, Nat.lt_succ_self _, by simp only [upd, Nat.reduceEqDiff, reduceIte, args0, List.getD_cons_zero, hv], by simp only [upd, Nat.reduceEqDiff, reduceIte, slN], by simp only [upd, Nat.reduceEqDiff, reduceIte, hv], by simp only [upd, Nat.reduceEqDiff, reduceIte],
      0, Nat.zero_le _, by simp only [upd, Nat.reduceEqDiff, reduceIte]; rfl, _, ?_, arr_begin l⟩
    simp [Heap.new]
  · rintro ⟨e, hp, d⟩ ⟨hd, gk, gbn, g0, g3, g12, g13, n, hnl, g14, A, gA, ga⟩
    simp only at hd gk gbn g0 g3 g12 g13 g14 gA
    subst hd
    refine deep13_node hN hK (Nat.le_refl _) hn hnl g3 g12 g13 g14 g0 gk gbn gA ga ?_ ?_
    · intro hlt e' hp' A' f3 f12 f13 f14 f0 fk fbn fA fa
      refine ⟨⟨rfl, fk, fbn, f0, f3.trans g3, f12, f13.trans g13, n + 1, hlt, f14, A', fA, fa⟩, ?_⟩
      simp only [f14, g14]
      omega
    · intro hnn e' f3 f0
      subst hnn
      show Wc T _ _ _
      have k3 : e' 3 = slN h.next (l.length + 1) := f3.trans g3
      have hmx : (if (0 : Int) > IntKind.i64.wrap ((l.length : Int) - 1) then (0 : Int) else IntKind.i64.wrap ((l.length : Int) - 1)) = ((l.length - 1 : Nat) : Int) := by
        rw [wrap64] <;> first | (split <;> omega) | omega
      have hAt : A[l.length - 1]? = some (deepOf l) := by
        by_cases hz : l.length = 0
        · have := ga.at'
          rw [hz] at this ⊢
          simp only [this, deepOf, hz, depsN]
          rfl
        · rw [ga.low _ (by omega)]
          unfold deepOf
          rw [List.getD_eq_getElem?_getD, List.getElem?_eq_getElem (by rw [depsN_length]; omega)]
          rfl
      have hg : (natC A)[0 + (l.length - 1) * 1]? = some (.int .i64 (deepOf l)) := by rw [Nat.zero_add, Nat.mul_one]; exact natC_get hAt
      refine Wc_seq (Wc_ops (Wo_run (fun call => by
        simp only [iops_nil, iops_op, iK_some, iop, ev, upd, dstUpd, k3, f0, hv, slN, hmx, idx_ok (show l.length - 1 < l.length + 1 by omega), ptr, Heap.cell, gA, hg, binV, binI, reduceIte, Nat.reduceEqDiff, Option.map_some]
        rfl) ?_))
      show Wc T _ _ _
      refine Wc_ret ⟨.inr rfl, rfl, [.int .i64 (deepOf l)], ?_, gk, rfl⟩
      simp only [C13, resAll, resV, upd, Nat.reduceEqDiff, reduceIte]
end Go.Idl
end

section
namespace Go.Idl
structure Arr2 (l : List Nd) (n : Nat) (A : List Nat) : Prop where
  len : A.length = l.length
  low : ∀ k, k < n → A[k]? = (depsN l n)[k]?
theorem deep14_kid {T : Tbl} {l : List Nd} {n : Nat} (hn : n < l.length) (hN : l.length ≤ 100000) {ks : List Int} {h0 : Heap} {bl : Nat} {kv : Value} (hbl : h0.next ≤ bl) (hki : intsAt h0 kv ks)
    {e : Env} {hp : Heap} (h3 : e 3 = slN bl l.length) (h4 : e 4 = .int .i64 n) (h22 : e 22 = kv) (h23 : e 23 = .int .i64 ks.length) {j : Nat} (hj : j ≤ ks.length) (h24 : e 24 = .int .i64 j)
    (hkl : ks.length < 4611686018427387904) (hk : Kept h0 hp) (hbn : bl < hp.next) {A : List Nat} (hA : hp.get bl = some (.cells (natC A) true 1)) (ha : Arr2 l n A) (hat : A[n]? = some ((ks.take j).foldl (inner (depsN l n)) 1)) {Q : Ex → St → Prop}
    (hgo : ∀ (e' : Env) (hp' : Heap) (A' : List Nat), (∀ t, t < 7 → e' t = e t) → (∀ t, 7 < t → t < 24 → e' t = e t) → e' 24 = .int .i64 ((j + 1 : Nat) : Int) → j < ks.length → Kept h0 hp' → hp.next = hp'.next → hp'.get bl = some (.cells (natC A') true 1) → Arr2 l n A' → A'[n]? = some ((ks.take (j + 1)).foldl (inner (depsN l n)) 1) →
      Q .normal ⟨e', hp', some []⟩)
    (hend : ∀ e' : Env, (∀ t, t < 24 → e' t = e t) → j = ks.length → Q (.brk 2) ⟨e', hp, some []⟩) : Wc T C16L0 ⟨e, hp, some []⟩ Q := by
  rw [C16L0]
  refine Wc_seq (Wc_ops (Wo_run (fun call => by simp only [iops_nil, iops_op, iK_some, iop, ev, upd, dstUpd, h23, h24, binV, binI, reduceIte, Option.map_some]; rfl) ?_))
  show Wc T _ _ _
  refine Wc_seq (Wc_cond (decide ((j : Int) < ks.length)) (by simp [ev, upd]) (fun hlt => Wc_skip ?_) (fun hge => Wc_exit ?_))
  case refine_2 =>
    refine hend _ (fun t ht => by simp only [upd]; rw [if_neg (by omega)]) (by simp at hge; omega)
  show Wc T _ _ _
  have hjl : j < ks.length := by simpa using hlt
  obtain ⟨k, hkj⟩ : ∃ k, ks[j]? = some k := ⟨_, List.getElem?_eq_getElem hjl⟩
  obtain ⟨b, c, rfl, hb0, ⟨o, z, hg0⟩, hcell⟩ := hki.load hkj
  have hb : b < hp.next := Nat.lt_of_lt_of_le hb0 hk.next
  have hg : hp.get b = some (.cells (ints64 ks) o z) := by rw [hk.get b hb0]; exact hg0
  have e1 : IntKind.i64.wrap ((j : Int) + 1) = ((j + 1 : Nat) : Int) := by rw [wrap64] <;> omega
  have hfold := inner_take hkj (D := depsN l n) 1
  have hDl := depsN_length l n
  have hbb : b ≠ bl := by omega
  refine Wc_seq (Wc_block (Wc_seq (Wc_ops (Wo_run (fun call => by
    simp only [iops_nil, iops_op, iK_some, iop, ev, upd, dstUpd, h22, h24, idx_ok hjl, ptr, Heap.cell, hg, hcell, Option.map_some, reduceIte, Nat.reduceEqDiff]
    rfl) ?_))))
  show Wc T _ _ _
  have last : ∀ (e' : Env) (hp' : Heap) (A' : List Nat), (∀ t, t < 7 → e' t = e t) → (∀ t, 7 < t → t < 25 → e' t = e t) → Kept h0 hp' → hp.next = hp'.next → hp'.get bl = some (.cells (natC A') true 1) → Arr2 l n A' → A'[n]? = some (inner (depsN l n) ((ks.take j).foldl (inner (depsN l n)) 1) k) →
      To (Tb 3 (Tn T (.ops [⟨(some 48), .op (.bin .add (.t 24) (.c (.int .i64 1))), none⟩, ⟨(some 24), .op (.mov (.t 48)), none⟩]) Q)) none ⟨e', hp', some []⟩ := by
    intro e' hp' A' f1 f2 f3 f4 f5 f6 f7
    show Wc T _ _ _
    have g24 : e' 24 = .int .i64 j := by rw [f2 24 (by omega) (by omega)]; exact h24
    refine Wc_ops (Wo_run (fun call => by simp only [iops_nil, iops_op, iK_some, iop, ev, upd, dstUpd, g24, e1, binV, binI, reduceIte, Nat.reduceEqDiff, Option.map_some]; rfl) ?_)
    refine hgo _ hp' A' (fun t ht => ?_) (fun t h1 h2 => ?_) (by simp [upd]) hjl f3 f4 f5 f6 (by rw [hfold]; exact f7)
    · simp only [upd]; rw [if_neg (by omega), if_neg (by omega)]; exact f1 t ht
    · simp only [upd]; rw [if_neg (by omega), if_neg (by omega)]; exact f2 t h1 (by omega)
  have easy : ∀ (e' : Env), (∀ t, t < 7 → e' t = e t) → (∀ t, 7 < t → t < 25 → e' t = e t) → inner (depsN l n) ((ks.take j).foldl (inner (depsN l n)) 1) k = (ks.take j).foldl (inner (depsN l n)) 1 →
      To (Tb 3 (Tn T (.ops [⟨(some 48), .op (.bin .add (.t 24) (.c (.int .i64 1))), none⟩, ⟨(some 24), .op (.mov (.t 48)), none⟩]) Q)) none ⟨e', hp, some []⟩ := fun e' f1 f2 f3 =>
    last e' hp A f1 f2 hk rfl hA ha (by rw [f3]; exact hat)
  by_cases hk0 : 0 ≤ k
  case neg =>
    refine Wc_seq (Wc_ops (Wo_run (fun call => by
      simp only [iops_nil, iops_op, iops_grd, iK_some, iG_true, iG_false, gval_bool, beq_true, beq_false, Bool.not_true, Bool.not_false, iop, ev, upd, dstUpd, h4, binV, binI, hk0, ge_iff_le, decide_false, reduceIte, Nat.reduceEqDiff, Option.map_some, Bool.false_eq_true, beq_iff_eq]
      rfl) ?_))
    show Wc T _ _ _
    refine Wc_cond false (by simp [ev, upd]) (fun h => by cases h) (fun _ => Wc_skip ?_)
    exact easy _ (fun t ht => by simp only [upd]; repeat rw [if_neg (by omega)]) (fun t h1 h2 => by simp only [upd]; repeat rw [if_neg (by omega)]) (by unfold inner; rw [if_neg (by omega)])
  by_cases hkn : k < n
  case neg =>
    refine Wc_seq (Wc_ops (Wo_run (fun call => by
      simp only [iops_nil, iops_op, iops_grd, iK_some, iG_true, iG_false, gval_bool, beq_true, beq_false, Bool.not_true, Bool.not_false, iop, ev, upd, dstUpd, h4, binV, binI, hk0, hkn, ge_iff_le, decide_true, decide_false, reduceIte, Nat.reduceEqDiff, Option.map_some, Bool.false_eq_true, beq_iff_eq]
      rfl) ?_))
    show Wc T _ _ _
    refine Wc_cond false (by simp [ev, upd]) (fun h => by cases h) (fun _ => Wc_skip ?_)
    exact easy _ (fun t ht => by simp only [upd]; repeat rw [if_neg (by omega)]) (fun t h1 h2 => by simp only [upd]; repeat rw [if_neg (by omega)]) (by unfold inner; rw [if_neg (by omega)])
  obtain ⟨kk, rfl⟩ : ∃ kk : Nat, k = kk := ⟨k.toNat, by omega⟩
  have hkn' : kk < n := by omega
  obtain ⟨a, hDa⟩ : ∃ a, (depsN l n)[kk]? = some a := ⟨_, List.getElem?_eq_getElem (by omega)⟩
  have hAk : A[kk]? = some a := by rw [ha.low kk hkn', hDa]
  have hal : a ≤ n := by have := depsN_le l n kk; rw [List.getD_eq_getElem?_getD, hDa] at this; exact this
  have hml : (ks.take j).foldl (inner (depsN l n)) 1 ≤ n + 1 := fold_le (fun k => depsN_le l n k) _ 1 (by omega)
  have hin : inner (depsN l n) ((ks.take j).foldl (inner (depsN l n)) 1) (kk : Int) = max ((ks.take j).foldl (inner (depsN l n)) 1) (a + 1) := by
    unfold inner
    rw [if_pos (by omega)]
    simp [List.getD_eq_getElem?_getD, hDa]
  generalize (ks.take j).foldl (inner (depsN l n)) 1 = m at *
  have hkA : (natC A)[0 + kk * 1]? = some (.int .i64 a) := by rw [Nat.zero_add, Nat.mul_one]; exact natC_get hAk
  have hnA : (natC A)[0 + n * 1]? = some (.int .i64 (m : Int)) := by rw [Nat.zero_add, Nat.mul_one]; exact natC_get hat
  have hset : (natC A).set (0 + n * 1) (.int .i64 ((max m (a + 1) : Nat) : Int)) = natC (A.set n (max m (a + 1))) := by rw [Nat.zero_add, Nat.mul_one]; exact natC_set A n _
  have hlen : 0 + n * 1 + 1 ≤ (natC A).length := by rw [natC_length, ha.len]; omega
  have e3 : IntKind.i64.wrap ((a : Int) + 1) = ((a + 1 : Nat) : Int) := by rw [wrap64] <;> omega
  have hmx : (if ((a + 1 : Nat) : Int) > (m : Int) then ((a + 1 : Nat) : Int) else (m : Int)) = ((max m (a + 1) : Nat) : Int) := by split <;> omega
  refine Wc_seq (Wc_ops (Wo_run (fun call => by
    simp only [iops_nil, iops_op, iops_grd, iK_some, iG_true, iG_false, gval_bool, beq_true, beq_false, Bool.not_true, Bool.not_false, iop, ev, upd, dstUpd, h4, binV, binI, hk0, hkn, ge_iff_le, decide_true, decide_false, reduceIte, Nat.reduceEqDiff, Option.map_some, Bool.false_eq_true, beq_iff_eq]
    rfl) ?_))
  show Wc T _ _ _
  refine Wc_cond true (by simp [ev, upd]) (fun _ => ?_) (fun h => by cases h)
  refine Wc_draw_still (by decide) (Wo_run (fun call => by
    simp only [iops_nil, iops_op, iK_some, iop, ev, upd, dstUpd, h3, h4, slN, idx_ok (show kk < l.length by omega), idx_ok hn, ptr, Heap.cell, Heap.write, cellsOf, put, hA, hkA, hnA, e3, hmx, hset, hlen, binV, binI, List.length_cons, List.length_nil, reduceIte, Nat.reduceEqDiff, Nat.reduceAdd, Option.map_some]
    rfl) ⟨rfl, ?_⟩)
  refine last _ _ (A.set n (max m (a + 1))) (fun t ht => by simp only [upd]; repeat rw [if_neg (by omega)]) (fun t h1 h2 => by simp only [upd]; repeat rw [if_neg (by omega)]) (hk.set hbl _) rfl (set_get' _ _ _) ⟨by simp [ha.len], fun t ht => ?_⟩ ?_
  · rw [List.getElem?_set_ne (by omega)]; exact ha.low t ht
  · rw [List.getElem?_set_self (by rw [ha.len]; omega), hin]
end Go.Idl
end

section
namespace Go.Idl
theorem Arr2.done {l : List Nd} {n : Nat} (hn : n < l.length) {A : List Nat} (ha : Arr2 l n A) (hat : A[n]? = some (dep (depsN l n) (kidsOf l n))) : Arr2 l (n + 1) A := by
  have hD := depsN_length l n
  refine ⟨ha.len, fun k hk => ?_⟩
  simp only [depsN]
  by_cases e : k = n
  · subst e
    rw [hat, List.getElem?_append_right (by omega), hD, Nat.sub_self]; rfl
  · rw [List.getElem?_append_left (by omega)]
    exact ha.low k (by omega)
theorem deep14_node {T : Tbl} {l : List Nd} (hN : l.length ≤ 100000) (hK : ∀ x ∈ l, x.kids.length ≤ 100000) {h0 : Heap} {bl : Nat} {v : Value} (hbl : h0.next ≤ bl) (hn : nodesAt h0 v l)
    {e : Env} {hp : Heap} {n : Nat} (hnl : n ≤ l.length) (h3 : e 3 = slN bl l.length) (h11 : e 11 = v) (h12 : e 12 = .int .i64 l.length) (h13 : e 13 = .int .i64 n) (h0' : e 0 = v)
    (hk : Kept h0 hp) (hbn : bl < hp.next) {A : List Nat} (hA : hp.get bl = some (.cells (natC A) true 1)) (ha : Arr2 l n A) {Q : Ex → St → Prop}
    (hgo : n < l.length → ∀ (e' : Env) (hp' : Heap) (A' : List Nat), e' 3 = e 3 → e' 11 = v → e' 12 = e 12 → e' 13 = .int .i64 ((n + 1 : Nat) : Int) → e' 0 = v → Kept h0 hp' → bl < hp'.next → hp'.get bl = some (.cells (natC A') true 1) → Arr2 l (n + 1) A' → Q .normal ⟨e', hp', some []⟩)
    (hend : n = l.length → ∀ e' : Env, e' 3 = e 3 → e' 0 = v → Q (.brk 0) ⟨e', hp, some []⟩) : Wc T C16L1 ⟨e, hp, some []⟩ Q := by
  rw [C16L1]
  refine Wc_seq (Wc_ops (Wo_run (fun call => by simp only [iops_nil, iops_op, iK_some, iop, ev, upd, dstUpd, h12, h13, binV, binI, reduceIte, Option.map_some]; rfl) ?_))
  show Wc T _ _ _
  refine Wc_seq (Wc_cond (decide ((n : Int) < l.length)) (by simp [ev, upd]) (fun hlt => Wc_skip ?_) (fun hge => Wc_exit ?_))
  case refine_2 => exact hend (by simp at hge; omega) _ (by simp [upd]) (by simp only [upd, Nat.reduceEqDiff, reduceIte]; exact h0')
  show Wc T _ _ _
  have hil : n < l.length := by simpa using hlt
  obtain ⟨x, hx⟩ : ∃ x, l[n]? = some x := ⟨_, List.getElem?_eq_getElem hil⟩
  have hxm := List.mem_of_getElem? hx
  obtain ⟨b, c, rfl, hb, ⟨o, z, hg⟩, hcells⟩ := (hn.keep hk).load hx
  obtain ⟨ka, kc, hkv⟩ := (hn.2 x hxm).len
  have hki := hn.2 x hxm
  have hkl := hK x hxm
  have e1 : IntKind.i64.wrap ((n : Int) + 1) = ((n + 1 : Nat) : Int) := by rw [wrap64] <;> omega
  have hkids : kidsOf l n = x.kids := by simp [kidsOf, hx]
  have hbb : bl ≠ hp.next := by omega
  refine Wc_seq (Wc_block (Wc_seq (Wc_ops (Wo_run (fun call => by
    simp only [iops_nil, iops_op, iK_some, iop, ev, upd, dstUpd, h11, h13, idx_ok hil, ptr, hcells, Option.map_some, cellsOf, Heap.write, Heap.new, Heap.set, put, List.length_cons, List.length_nil, reduceIte, Nat.reduceEqDiff, Nat.reduceAdd, Nat.reduceLeDiff, List.set_cons_zero, List.set_cons_succ]
    rfl) ?_))))
  show Wc T _ _ _
  have hset : (natC A).set (0 + n * 1) (.int .i64 1) = natC (A.set n 1) := by rw [Nat.zero_add, Nat.mul_one]; exact natC_set A n 1
  have hlen : 0 + n * 1 + 1 ≤ (natC A).length := by rw [natC_length, ha.len]; omega
  refine Wc_seq (Wc_ops (Wo_run (fun call => by
    simp only [iops_nil, iops_op, iK_some, iop, ev, upd, dstUpd, h3, slN, idx_ok hil, ptr, hA, hbb, hset, hlen, Option.map_some, cellsOf, Heap.write, Heap.set, put, List.length_cons, List.length_nil, reduceIte, Nat.reduceEqDiff, Nat.reduceAdd]
    rfl) ?_))
  show Wc T _ _ _
  have hbb' : hp.next ≠ bl := Ne.symm hbb
  refine Wc_seq (Wc_ops (Wo_run (fun call => by
    simp only [iops_nil, iops_op, iK_some, iop, ev, upd, dstUpd, ptr, hkv, hbb', Option.map_some, Heap.cell, reduceIte, Nat.reduceEqDiff, Nat.reduceAdd, Nat.zero_add, List.getElem?_cons_zero, List.getElem?_cons_succ]
    rfl) ?_))
  show Wc T _ _ _
  have hkk := ((hk.new (.cells [Value.int .i64 0, .string ⟨#[]⟩, .slice none 0 0, .int .i64 0] true 0)).set hk.next (.cells [Value.int .i64 x.kind, .string x.text, .slice ka x.kids.length kc, .int .i64 x.pos] true 0)).set hbl (.cells (natC (A.set n 1)) true 1)
  refine Wc_block (Wc_loop (fun s => s.d = some [] ∧ Kept h0 s.h ∧ bl < s.h.next ∧ s.e 0 = .slice (some ⟨b, 0, none⟩) l.length c ∧ s.e 3 = e 3 ∧ s.e 4 = .int .i64 n ∧ s.e 11 = .slice (some ⟨b, 0, none⟩) l.length c ∧ s.e 12 = e 12 ∧ s.e 13 = .int .i64 n ∧ s.e 22 = x.kv ∧ s.e 23 = .int .i64 x.kids.length ∧
      ∃ j : Nat, j ≤ x.kids.length ∧ s.e 24 = .int .i64 j ∧ ∃ A, s.h.get bl = some (.cells (natC A) true 1) ∧ Arr2 l n A ∧ A[n]? = some ((x.kids.take j).foldl (inner (depsN l n)) 1))
    (fun s => match s.e 24 with | .int _ i => (x.kids.length - i).toNat | _ => 0) ?_ ?_)
  · refine ⟨rfl, hkk, by simp only; omega, by simp only [upd, Nat.reduceEqDiff, reduceIte]; exact h0', by simp only [upd, Nat.reduceEqDiff, reduceIte], by simp only [upd, Nat.reduceEqDiff, reduceIte],
      by simp only [upd, Nat.reduceEqDiff, reduceIte]; exact h11, by simp only [upd, Nat.reduceEqDiff, reduceIte], by simp only [upd, Nat.reduceEqDiff, reduceIte]; exact h13, by simp only [upd, Nat.reduceEqDiff, reduceIte, hkv], by simp only [upd, Nat.reduceEqDiff, reduceIte],
      0, Nat.zero_le _, by simp only [upd, Nat.reduceEqDiff, reduceIte]; rfl, A.set n 1, by simp only [reduceIte], ⟨by simp [ha.len], fun k hk => ?_⟩, ?_⟩
    · rw [List.getElem?_set_ne (by omega)]; exact ha.low k hk
    · rw [List.getElem?_set_self (by rw [ha.len]; omega)]; rfl
  · rintro ⟨e2, hp2, d2⟩ ⟨hd, gk, gbn, g0, g3, g4, g11, g12, g13, g22, g23, j, hj, g24, A2, gA, ga, gat⟩
    simp only at hd gk gbn g0 g3 g4 g11 g12 g13 g22 g23 g24 gA
    subst hd
    refine deep14_kid hil hN hbl hki (g3.trans h3) g4 g22 g23 hj g24 (by omega) gk gbn gA ga gat ?_ ?_
    · intro e' hp' A' f1 f2 f3 f4 f5 f6 f7 f8 f9
      refine ⟨⟨rfl, f5, by rw [← f6]; exact gbn, (f1 0 (by omega)).trans g0, (f1 3 (by omega)).trans g3, (f1 4 (by omega)).trans g4, (f2 11 (by omega) (by omega)).trans g11, (f2 12 (by omega) (by omega)).trans g12,
        (f2 13 (by omega) (by omega)).trans g13, (f2 22 (by omega) (by omega)).trans g22, (f2 23 (by omega) (by omega)).trans g23, j + 1, f4, f3, A', f7, f8, f9⟩, ?_⟩
      simp only [f3, g24]
      omega
    · intro e' f1 f2
      subst f2
      show Wc T _ _ _
      rw [List.take_length] at gat
      have hdep : (x.kids.foldl (inner (depsN l n)) 1) = dep (depsN l n) (kidsOf l n) := by rw [hkids]; rfl
      rw [hdep] at gat
      have k13 : e' 13 = .int .i64 n := by rw [f1 13 (by omega), g13]
      refine Wc_ops (Wo_run (fun call => by simp only [iops_nil, iops_op, iK_some, iop, ev, upd, dstUpd, k13, e1, binV, binI, reduceIte, Nat.reduceEqDiff, Option.map_some]; rfl) ?_)
      refine hgo hil _ _ _ ?_ ?_ ?_ ?_ ?_ gk gbn gA (ga.done hil gat)
      · simp only [upd, Nat.reduceEqDiff, reduceIte]; rw [f1 3 (by omega), g3]
      · simp only [upd, Nat.reduceEqDiff, reduceIte]; rw [f1 11 (by omega), g11]
      · simp only [upd, Nat.reduceEqDiff, reduceIte]; rw [f1 12 (by omega), g12]
      · simp only [upd, Nat.reduceEqDiff, reduceIte]
      · simp only [upd, Nat.reduceEqDiff, reduceIte]; rw [f1 0 (by omega), g0]
theorem deep14 {T : Tbl} (hT : T.fn 16 = some C16) {h : Heap} {v : Value} {l : List Nd} (hn : nodesAt h v l) (hN : l.length ≤ 100000) (hK : ∀ x ∈ l, x.kids.length ≤ 100000) :
    Wk T (.fn 16) [v] h (fun o h' => Kept h h' ∧ o = .ret (.int .i64 (deepOf l))) := by
  obtain ⟨va, vc, hv⟩ := hn.len
  refine Wk_fn hT (by simp [C16]) ?_
  simp only [C16]
  refine Wc_seq (Wc_ops (Wo_run (fun call => by simp only [iops_nil, iops_op, iK_some, iop, ev, upd, dstUpd, reduceIte]; rfl) ?_))
  show Wc T _ _ _
  have hsz : (0 : Int) ≤ (l.length : Int) ∧ (l.length : Int) ≤ (l.length : Int) ∧ (l.length : Int) * ((8 : Nat) : Int) ≤ 140737488355328 := by omega
  refine Wc_seq (Wc_ops (Wo_run (fun call => by
    simp only [iops_nil, iops_op, iK_some, iop, ev, upd, dstUpd, args0, hv, hsz, and_self, binV, binI, reduceIte, Nat.reduceEqDiff, Option.map_some, List.getD_cons_zero, Int.toNat_natCast, natC_zero]
    rfl) ?_))
  show Wc T _ _ _
  refine Wc_seq (Wc_seq (Wc_ops (Wo_run (fun call => by simp only [iops_nil, iops_op, iK_some, iop, ev, upd, dstUpd, args0, hv, reduceIte, Nat.reduceEqDiff, List.getD_cons_zero]; rfl) ?_)))
  show Wc T _ _ _
  have hk0 : Kept h (h.new (.cells (natC (List.replicate l.length 0)) true 1)) := (Kept.refl h).new _
  refine Wc_block (Wc_loop (fun s => s.d = some [] ∧ Kept h s.h ∧ h.next < s.h.next ∧ s.e 0 = v ∧ s.e 3 = slN h.next l.length ∧ s.e 11 = v ∧ s.e 12 = .int .i64 l.length ∧ ∃ n : Nat, n ≤ l.length ∧ s.e 13 = .int .i64 n ∧ ∃ A, s.h.get h.next = some (.cells (natC A) true 1) ∧ Arr2 l n A)
    (fun s => match s.e 13 with | .int _ i => (l.length - i).toNat | _ => 0) ?_ ?_)
  · refine ⟨rfl, hk0, Nat.lt_succ_self _, by simp only [upd, Nat.reduceEqDiff, reduceIte, args0, List.getD_cons_zero, hv], by simp only [upd, Nat.reduceEqDiff, reduceIte, slN], by simp only [upd, Nat.reduceEqDiff, reduceIte, hv], by simp only [upd, Nat.reduceEqDiff, reduceIte],
      0, Nat.zero_le _, by simp only [upd, Nat.reduceEqDiff, reduceIte]; rfl, List.replicate l.length 0, ?_, ⟨by simp, fun k hk => by omega⟩⟩
    simp [Heap.new]
  · rintro ⟨e, hp, d⟩ ⟨hd, gk, gbn, g0, g3, g11, g12, n, hnl, g13, A, gA, ga⟩
    simp only at hd gk gbn g0 g3 g11 g12 g13 gA
    subst hd
    refine deep14_node hN hK (Nat.le_refl _) hn hnl g3 g11 g12 g13 g0 gk gbn gA ga ?_ ?_
    · intro hlt e' hp' A' f3 f11 f12 f13 f0 fk fbn fA fa
      refine ⟨⟨rfl, fk, fbn, f0, f3.trans g3, f11, f12.trans g12, n + 1, hlt, f13, A', fA, fa⟩, ?_⟩
      simp only [f13, g13]
      omega
    · intro hnn e' f3 f0
      subst hnn
      show Wc T _ _ _
      have k3 : e' 3 = slN h.next l.length := f3.trans g3
      refine Wc_seq (Wc_seq (Wc_ops (Wo_run (fun call => by
        simp only [iops_nil, iops_op, iK_some, iop, ev, upd, dstUpd, f0, hv, binV, binI, reduceIte, Nat.reduceEqDiff, Option.map_some]
        rfl) ?_)))
      show Wc T _ _ _
      by_cases hz : l.length = 0
      · refine Wc_cond true (by simp [ev, upd, hz]) (fun _ => ?_) (fun h => by cases h)
        refine Wc_seq (Wc_ops (Wo_run (fun call => by simp only [iops_nil, iops_op, iK_some, iop, ev, upd, dstUpd, reduceIte]; rfl) ?_))
        show Wc T _ _ _
        refine Wc_ret ⟨.inr rfl, rfl, [.int .i64 (deepOf l)], ?_, gk, rfl⟩
        have : deepOf l = 0 := by unfold deepOf; rw [hz]; rfl
        rw [this]
        simp only [C16, resAll, resV, upd, Nat.reduceEqDiff, reduceIte]
        rfl
      · have hz' : ((l.length : Int) == 0) = false := beq_eq_false_iff_ne.2 (by omega)
        refine Wc_cond false (by simp only [ev, upd, Nat.reduceEqDiff, reduceIte, hz']) (fun h => by cases h) (fun _ => Wc_skip ?_)
        show Wc T _ _ _
        have hsub : IntKind.i64.wrap ((l.length : Int) - 1) = ((l.length - 1 : Nat) : Int) := by rw [wrap64] <;> omega
        have hAt : A[l.length - 1]? = some (deepOf l) := by
          rw [ga.low _ (by omega)]
          unfold deepOf
          rw [List.getD_eq_getElem?_getD, List.getElem?_eq_getElem (by rw [depsN_length]; omega)]
          rfl
        have hg : (natC A)[0 + (l.length - 1) * 1]? = some (.int .i64 (deepOf l)) := by rw [Nat.zero_add, Nat.mul_one]; exact natC_get hAt
        refine Wc_seq (Wc_ops (Wo_run (fun call => by
          simp only [iops_nil, iops_op, iK_some, iop, ev, upd, dstUpd, k3, f0, hv, slN, hsub, idx_ok (show l.length - 1 < l.length by omega), ptr, Heap.cell, gA, hg, binV, binI, reduceIte, Nat.reduceEqDiff, Option.map_some]
          rfl) ?_))
        show Wc T _ _ _
        refine Wc_ret ⟨.inr rfl, rfl, [.int .i64 (deepOf l)], ?_, gk, rfl⟩
        simp only [C16, resAll, resV, upd, Nat.reduceEqDiff, reduceIte]
end Go.Idl
end

section
namespace Go.Idl
def C6L0 : IC := (.seq (.ops [⟨some 48, .op (.bin .lss (.t 47) (.t 46)), none⟩]) (.seq (.cond (.t 48) .skip (.exit 2)) (.seq (.block 3 (.seq (.ops [⟨some 49, .op (.iaddr (.sl 1) (.t 45) (.t 47)), none⟩, ⟨some 50, .op (.load none (.t 49)), none⟩, ⟨some 11, .op (.mov (.t 50)), none⟩]) (.seq (.seq (.ops [⟨some 51, .op (.mov (.t 11)), none⟩, ⟨some 52, .op (.bin .lss (.t 51) (.c (.int .i64 0))), none⟩, ⟨some 53, .op (.mov (.t 52)), none⟩, ⟨some 54, .op (.mov (.t 11)), (some (53, false))⟩, ⟨some 55, .op (.mov (.t 6)), (some (53, false))⟩, ⟨some 56, .op (.bin .geq (.t 54) (.t 55)), (some (53, false))⟩, ⟨some 57, .op (.pick (.t 53) (.c (.bool true)) (.t 56)), none⟩, ⟨some 58, .op (.mov (.t 57)), none⟩, ⟨some 59, .op (.mov (.t 5)), (some (58, false))⟩, ⟨some 60, .op (.mov (.t 11)), (some (58, false))⟩, ⟨some 61, .op (.iaddr (.sl 1) (.t 59) (.t 60)), (some (58, false))⟩, ⟨some 62, .op (.load none (.t 61)), (some (58, false))⟩, ⟨some 63, .op (.bin .gtr (.t 62) (.c (.int .i64 0))), (some (58, false))⟩, ⟨some 64, .op (.pick (.t 58) (.c (.bool true)) (.t 63)), none⟩]) (.cond (.t 64) (.seq (.ops [⟨some 65, .op (.mov (.t 6)), none⟩, ⟨some 2, .op (.mov (.t 65)), none⟩, ⟨some 3, .op (.mov (.c (.int .i64 50))), none⟩]) .ret) .skip)) (.ops [⟨some 66, .op (.mov (.t 5)), none⟩, ⟨some 67, .op (.mov (.t 11)), none⟩, ⟨some 68, .op (.mov (.t 6)), none⟩, ⟨some 69, .op (.bin .add (.t 68) (.c (.int .i64 1))), none⟩, ⟨some 70, .op (.iaddr (.sl 1) (.t 66) (.t 67)), none⟩, ⟨none, .op (.store 1 (.t 70) (.t 69)), none⟩])))) (.ops [⟨some 71, .op (.bin .add (.t 47) (.c (.int .i64 1))), none⟩, ⟨some 47, .op (.mov (.t 71)), none⟩])))) def C6L1 : IC := (.seq (.ops [⟨some 25, .op (.bin .lss (.t 24) (.t 23)), none⟩]) (.seq (.cond (.t 25) .skip (.exit 0)) (.seq (.block 1 (.seq (.ops [⟨some 26, .op (.mov (.t 24)), none⟩, ⟨some 27, .op (.iaddr (.sl 4) (.t 22) (.t 24)), none⟩, ⟨some 28, .op (.load (some 4) (.t 27)), none⟩, ⟨some 7, .op (.alloc [.int .i64 0, .string ⟨#[]⟩, (.slice none 0 0), .int .i64 0]), none⟩, ⟨some 6, .op (.mov (.t 26)), none⟩, ⟨none, .op (.store 4 (.t 7) (.t 28)), none⟩]) (.seq (.ops [⟨some 30, .op (.mov (.t 4)), none⟩, ⟨some 31, .op (.faddr 0 (.t 7)), none⟩, ⟨some 32, .op (.load none (.t 31)), none⟩, ⟨some 33, .op (.lookup (.one (.int .i64)) (.string ⟨#[]⟩) true (.t 30) (.t 32)), none⟩, ⟨some 29, .op (.mov (.t 33)), none⟩, ⟨some 34, .op (.extract (.t 29) 0), none⟩, ⟨some 35, .op (.extract (.t 29) 1), none⟩, ⟨some 8, .op (.mov (.t 34)), none⟩, ⟨some 9, .op (.mov (.t 35)), none⟩]) (.seq (.seq (.ops [⟨some 36, .op (.mov (.t 9)), none⟩, ⟨some 37, .op (.un .not (.t 36)), none⟩, ⟨some 38, .op (.mov (.t 37)), none⟩, ⟨some 39, .op (.faddr 3 (.t 7)), (some (38, false))⟩, ⟨some 40, .op (.load none (.t 39)), (some (38, false))⟩, ⟨some 41, .op (.bin .lss (.t 40) (.c (.int .i64 0))), (some (38, false))⟩, ⟨some 42, .op (.pick (.t 38) (.c (.bool true)) (.t 41)), none⟩]) (.cond (.t 42) (.seq (.ops [⟨some 43, .op (.mov (.t 6)), none⟩, ⟨some 2, .op (.mov (.t 43)), none⟩, ⟨some 3, .op (.mov (.c (.int .i64 50))), none⟩]) .ret) .skip)) (.seq (.seq (.ops [⟨some 44, .op (.faddr 2 (.t 7)), none⟩, ⟨some 45, .op (.load none (.t 44)), none⟩, ⟨some 46, .op (.len .sl (.t 45)), none⟩, ⟨some 47, .op (.mov (.c (.int .i64 0))), none⟩]) (.block 2 (.loop C6L0))) (.block 4 (.seq (.ops [⟨some 73, .op (.load (some 4) (.t 7)), none⟩, ⟨some 74, .call 11 [.t 73], none⟩, ⟨some 75, .op (.un .not (.t 74)), none⟩, ⟨some 72, .op (.mov (.t 75)), none⟩]) (.cond (.t 72) (.seq (.ops [⟨some 76, .op (.mov (.t 6)), none⟩, ⟨some 2, .op (.mov (.t 76)), none⟩, ⟨some 3, .op (.mov (.c (.int .i64 52))), none⟩]) .ret) (.seq (.ops [⟨some 78, .op (.mov (.t 0)), none⟩, ⟨some 79, .op (.faddr 2 (.t 7)), none⟩, ⟨some 80, .op (.load none (.t 79)), none⟩, ⟨some 81, .op (.mov (.t 8)), none⟩, ⟨some 82, .call 12 [.t 78, .t 80, .t 81], none⟩, ⟨some 83, .op (.un .not (.t 82)), none⟩, ⟨some 77, .op (.mov (.t 83)), none⟩]) (.cond (.t 77) (.seq (.ops [⟨some 84, .op (.mov (.t 6)), none⟩, ⟨some 2, .op (.mov (.t 84)), none⟩, ⟨some 3, .op (.mov (.c (.int .i64 53))), none⟩]) .ret) .skip)))))))))) (.ops [⟨some 85, .op (.bin .add (.t 24) (.c (.int .i64 1))), none⟩, ⟨some 24, .op (.mov (.t 85)), none⟩])))) def C6L2 : IC := (.seq (.ops [⟨some 92, .op (.bin .lss (.t 91) (.t 90)), none⟩]) (.seq (.cond (.t 92) .skip (.exit 5)) (.seq (.block 6 (.seq (.ops [⟨some 93, .op (.mov (.t 91)), none⟩, ⟨some 94, .op (.iaddr (.sl 4) (.t 89) (.t 91)), none⟩, ⟨some 95, .op (.load (some 4) (.t 94)), none⟩, ⟨some 14, .op (.alloc [.int .i64 0, .string ⟨#[]⟩, (.slice none 0 0), .int .i64 0]), none⟩, ⟨some 13, .op (.mov (.t 93)), none⟩, ⟨none, .op (.store 4 (.t 14) (.t 95)), none⟩]) (.seq (.ops [⟨some 96, .op (.faddr 0 (.t 14)), none⟩, ⟨some 97, .op (.load none (.t 96)), none⟩, ⟨some 98, .op (.bin .eql (.t 97) (.c (.int .i64 1))), none⟩, ⟨some 99, .op (.mov (.t 13)), none⟩, ⟨some 100, .op (.mov (.t 12)), none⟩, ⟨some 101, .op (.bin .eql (.t 99) (.t 100)), none⟩, ⟨some 102, .op (.beq true (.t 98) (.t 101)), none⟩, ⟨some 103, .op (.mov (.t 102)), none⟩, ⟨some 104, .op (.mov (.t 5)), (some (103, false))⟩, ⟨some 105, .op (.mov (.t 13)), (some (103, false))⟩, ⟨some 106, .op (.iaddr (.sl 1) (.t 104) (.t 105)), (some (103, false))⟩, ⟨some 107, .op (.load none (.t 106)), (some (103, false))⟩, ⟨some 108, .op (.bin .eql (.t 107) (.c (.int .i64 0))), (some (103, false))⟩, ⟨some 109, .op (.mov (.t 13)), (some (103, false))⟩, ⟨some 110, .op (.mov (.t 12)), (some (103, false))⟩, ⟨some 111, .op (.bin .eql (.t 109) (.t 110)), (some (103, false))⟩, ⟨some 112, .op (.beq true (.t 108) (.t 111)), (some (103, false))⟩, ⟨some 113, .op (.pick (.t 103) (.c (.bool true)) (.t 112)), none⟩]) (.cond (.t 113) (.seq (.ops [⟨some 114, .op (.mov (.t 12)), none⟩, ⟨some 2, .op (.mov (.t 114)), none⟩, ⟨some 3, .op (.mov (.c (.int .i64 50))), none⟩]) .ret) .skip)))) (.ops [⟨some 115, .op (.bin .add (.t 91) (.c (.int .i64 1))), none⟩, ⟨some 91, .op (.mov (.t 115)), none⟩])))) def C6 : IFn := ⟨123, (.seq (.ops [⟨some 2, .op (.mov (.c (.int .i64 0))), none⟩, ⟨some 3, .op (.mov (.c (.int .i64 0))), none⟩]) (.seq (.seq (.ops [⟨some 15, .op (.mov (.t 0)), none⟩, ⟨some 16, .op (.len .sl (.t 15)), none⟩, ⟨some 17, .op (.bin .gtr (.t 16) (.c (.int .i64 50000))), none⟩]) (.cond (.t 17) (.seq (.ops [⟨some 2, .op (.mov (.c (.int .i64 0))), none⟩, ⟨some 3, .op (.mov (.c (.int .i64 2))), none⟩]) .ret) .skip)) (.seq (.ops [⟨some 18, .call 10 [], none⟩, ⟨some 4, .op (.mov (.t 18)), none⟩]) (.seq (.ops [⟨some 19, .op (.mov (.t 0)), none⟩, ⟨some 20, .op (.len .sl (.t 19)), none⟩, ⟨some 21, .op (.mkslice 1 8 [.int .i64 0] (.t 20) (.t 20)), none⟩, ⟨some 5, .op (.mov (.t 21)), none⟩]) (.seq (.seq (.ops [⟨some 22, .op (.mov (.t 0)), none⟩, ⟨some 23, .op (.len .sl (.t 22)), none⟩, ⟨some 24, .op (.mov (.c (.int .i64 0))), none⟩]) (.block 0 (.loop C6L1))) (.seq (.ops [⟨some 86, .op (.mov (.t 0)), none⟩, ⟨some 87, .op (.len .sl (.t 86)), none⟩, ⟨some 88, .op (.bin .sub (.t 87) (.c (.int .i64 1))), none⟩, ⟨some 12, .op (.mov (.t 88)), none⟩]) (.seq (.seq (.ops [⟨some 89, .op (.mov (.t 0)), none⟩, ⟨some 90, .op (.len .sl (.t 89)), none⟩, ⟨some 91, .op (.mov (.c (.int .i64 0))), none⟩]) (.block 5 (.loop C6L2))) (.seq (.block 7 (.seq (.ops [⟨some 117, .op (.mov (.t 12)), none⟩, ⟨some 118, .op (.bin .lss (.t 117) (.c (.int .i64 0))), none⟩, ⟨some 116, .op (.mov (.t 118)), none⟩]) (.cond (.t 116) (.seq (.ops [⟨some 2, .op (.mov (.c (.int .i64 0))), none⟩, ⟨some 3, .op (.mov (.c (.int .i64 50))), none⟩]) .ret) (.seq (.ops [⟨some 120, .op (.mov (.t 0)), none⟩, ⟨some 121, .call 13 [.t 120], none⟩, ⟨some 122, .op (.bin .gtr (.t 121) (.c (.int .i64 200))), none⟩, ⟨some 119, .op (.mov (.t 122)), none⟩]) (.cond (.t 119) (.seq (.ops [⟨some 2, .op (.mov (.c (.int .i64 0))), none⟩, ⟨some 3, .op (.mov (.c (.int .i64 51))), none⟩]) .ret) .skip))))) (.seq (.ops [⟨some 2, .op (.mov (.c (.int .i64 0))), none⟩, ⟨some 3, .op (.mov (.c (.int .i64 0))), none⟩]) .ret))))))))), [.tmp 2, .tmp 3]⟩
def C7L0 : IC := (.seq (.ops [⟨some 30, .op (.bin .lss (.t 29) (.t 28)), none⟩]) (.seq (.cond (.t 30) .skip (.exit 2)) (.seq (.block 3 (.seq (.ops [⟨some 31, .op (.iaddr (.sl 1) (.t 27) (.t 29)), none⟩, ⟨some 32, .op (.load none (.t 31)), none⟩, ⟨some 9, .op (.mov (.t 32)), none⟩]) (.seq (.seq (.ops [⟨some 33, .op (.mov (.t 9)), none⟩, ⟨some 34, .op (.bin .lss (.t 33) (.c (.int .i64 0))), none⟩, ⟨some 35, .op (.mov (.t 34)), none⟩, ⟨some 36, .op (.mov (.t 9)), (some (35, false))⟩, ⟨some 37, .op (.mov (.t 5)), (some (35, false))⟩, ⟨some 38, .op (.bin .geq (.t 36) (.t 37)), (some (35, false))⟩, ⟨some 39, .op (.pick (.t 35) (.c (.bool true)) (.t 38)), none⟩, ⟨some 40, .op (.mov (.t 39)), none⟩, ⟨some 41, .op (.mov (.t 4)), (some (40, false))⟩, ⟨some 42, .op (.mov (.t 9)), (some (40, false))⟩, ⟨some 43, .op (.iaddr (.sl 1) (.t 41) (.t 42)), (some (40, false))⟩, ⟨some 44, .op (.load none (.t 43)), (some (40, false))⟩, ⟨some 45, .op (.pick (.t 40) (.c (.bool true)) (.t 44)), none⟩]) (.cond (.t 45) (.seq (.ops [⟨some 46, .op (.mov (.t 5)), none⟩, ⟨some 2, .op (.mov (.t 46)), none⟩, ⟨some 3, .op (.mov (.c (.int .i64 50))), none⟩]) .ret) .skip)) (.seq (.ops [⟨some 47, .op (.mov (.t 4)), none⟩, ⟨some 48, .op (.mov (.t 9)), none⟩, ⟨some 49, .op (.iaddr (.sl 1) (.t 47) (.t 48)), none⟩, ⟨none, .op (.store 1 (.t 49) (.c (.bool true))), none⟩]) (.ops [⟨some 50, .op (.mov (.t 7)), none⟩, ⟨some 51, .op (.mov (.t 0)), none⟩, ⟨some 52, .op (.mov (.t 9)), none⟩, ⟨some 53, .op (.iaddr (.sl 4) (.t 51) (.t 52)), none⟩, ⟨some 54, .op (.faddr 0 (.t 53)), none⟩, ⟨some 55, .op (.load none (.t 54)), none⟩, ⟨some 56, .op (.lit 1 1 [.int .i64 0] [(0, 1, .t 55)]), none⟩, ⟨some 57, .op (.append 1 8 (.t 50) (.t 56)), none⟩, ⟨some 7, .op (.mov (.t 57)), none⟩]))))) (.ops [⟨some 58, .op (.bin .add (.t 29) (.c (.int .i64 1))), none⟩, ⟨some 29, .op (.mov (.t 58)), none⟩])))) def C7L1 : IC := (.seq (.ops [⟨some 22, .op (.bin .lss (.t 21) (.t 20)), none⟩]) (.seq (.cond (.t 22) .skip (.exit 0)) (.seq (.block 1 (.seq (.ops [⟨some 23, .op (.mov (.t 21)), none⟩, ⟨some 24, .op (.iaddr (.sl 4) (.t 19) (.t 21)), none⟩, ⟨some 25, .op (.load (some 4) (.t 24)), none⟩, ⟨some 6, .op (.alloc [.int .i64 0, .string ⟨#[]⟩, (.slice none 0 0), .int .i64 0]), none⟩, ⟨some 5, .op (.mov (.t 23)), none⟩, ⟨none, .op (.store 4 (.t 6) (.t 25)), none⟩]) (.seq (.ops [⟨some 7, .op (.mov (.c (.slice none 0 0))), none⟩]) (.seq (.seq (.ops [⟨some 26, .op (.faddr 2 (.t 6)), none⟩, ⟨some 27, .op (.load none (.t 26)), none⟩, ⟨some 28, .op (.len .sl (.t 27)), none⟩, ⟨some 29, .op (.mov (.c (.int .i64 0))), none⟩]) (.block 2 (.loop C7L0))) (.seq (.seq (.ops [⟨some 59, .op (.faddr 3 (.t 6)), none⟩, ⟨some 60, .op (.load none (.t 59)), none⟩, ⟨some 61, .op (.bin .lss (.t 60) (.c (.int .i64 0))), none⟩, ⟨some 62, .op (.mov (.t 61)), none⟩, ⟨some 63, .op (.faddr 0 (.t 6)), (some (62, false))⟩, ⟨some 64, .op (.load none (.t 63)), (some (62, false))⟩, ⟨some 65, .op (.bin .lss (.t 64) (.c (.int .i64 1))), (some (62, false))⟩, ⟨some 66, .op (.pick (.t 62) (.c (.bool true)) (.t 65)), none⟩, ⟨some 67, .op (.mov (.t 66)), none⟩, ⟨some 68, .op (.faddr 0 (.t 6)), (some (67, false))⟩, ⟨some 69, .op (.load none (.t 68)), (some (67, false))⟩, ⟨some 70, .op (.bin .gtr (.t 69) (.c (.int .i64 30))), (some (67, false))⟩, ⟨some 71, .op (.pick (.t 67) (.c (.bool true)) (.t 70)), none⟩]) (.cond (.t 71) (.seq (.ops [⟨some 72, .op (.mov (.t 5)), none⟩, ⟨some 2, .op (.mov (.t 72)), none⟩, ⟨some 3, .op (.mov (.c (.int .i64 50))), none⟩]) .ret) .skip)) (.seq (.seq (.ops [⟨some 73, .op (.load (some 4) (.t 6)), none⟩, ⟨some 74, .call 14 [.t 73], none⟩, ⟨some 75, .op (.un .not (.t 74)), none⟩]) (.cond (.t 75) (.seq (.ops [⟨some 76, .op (.mov (.t 5)), none⟩, ⟨some 2, .op (.mov (.t 76)), none⟩, ⟨some 3, .op (.mov (.c (.int .i64 52))), none⟩]) .ret) .skip)) (.seq (.ops [⟨some 77, .op (.faddr 0 (.t 6)), none⟩, ⟨some 78, .op (.load none (.t 77)), none⟩, ⟨some 79, .op (.mov (.t 7)), none⟩, ⟨some 80, .call 15 [.t 78, .t 79], none⟩, ⟨some 81, .op (.un .not (.t 80)), none⟩]) (.cond (.t 81) (.seq (.ops [⟨some 82, .op (.mov (.t 5)), none⟩, ⟨some 2, .op (.mov (.t 82)), none⟩, ⟨some 3, .op (.mov (.c (.int .i64 53))), none⟩]) .ret) .skip)))))))) (.ops [⟨some 83, .op (.bin .add (.t 21) (.c (.int .i64 1))), none⟩, ⟨some 21, .op (.mov (.t 83)), none⟩])))) def C7L2 : IC := (.seq (.ops [⟨some 92, .op (.bin .lss (.t 91) (.t 90)), none⟩]) (.seq (.cond (.t 92) .skip (.exit 4)) (.seq (.block 5 (.seq (.ops [⟨some 93, .op (.mov (.t 91)), none⟩, ⟨some 94, .op (.iaddr (.sl 4) (.t 89) (.t 91)), none⟩, ⟨some 95, .op (.load (some 4) (.t 94)), none⟩, ⟨some 12, .op (.alloc [.int .i64 0, .string ⟨#[]⟩, (.slice none 0 0), .int .i64 0]), none⟩, ⟨some 11, .op (.mov (.t 93)), none⟩, ⟨none, .op (.store 4 (.t 12) (.t 95)), none⟩]) (.seq (.ops [⟨some 96, .op (.faddr 0 (.t 12)), none⟩, ⟨some 97, .op (.load none (.t 96)), none⟩, ⟨some 98, .op (.bin .eql (.t 97) (.c (.int .i64 1))), none⟩, ⟨some 99, .op (.mov (.t 11)), none⟩, ⟨some 100, .op (.mov (.t 10)), none⟩, ⟨some 101, .op (.bin .eql (.t 99) (.t 100)), none⟩, ⟨some 102, .op (.beq true (.t 98) (.t 101)), none⟩, ⟨some 103, .op (.mov (.t 102)), none⟩, ⟨some 104, .op (.mov (.t 4)), (some (103, false))⟩, ⟨some 105, .op (.mov (.t 11)), (some (103, false))⟩, ⟨some 106, .op (.iaddr (.sl 1) (.t 104) (.t 105)), (some (103, false))⟩, ⟨some 107, .op (.load none (.t 106)), (some (103, false))⟩, ⟨some 108, .op (.un .not (.t 107)), (some (103, false))⟩, ⟨some 109, .op (.mov (.t 108)), (some (103, false))⟩, ⟨some 110, .op (.mov (.t 11)), (some (109, true))⟩, ⟨some 111, .op (.mov (.t 10)), (some (109, true))⟩, ⟨some 112, .op (.bin .neq (.t 110) (.t 111)), (some (109, true))⟩, ⟨some 113, .op (.pick (.t 109) (.t 112) (.c (.bool false))), (some (103, false))⟩, ⟨some 114, .op (.pick (.t 103) (.c (.bool true)) (.t 113)), none⟩]) (.cond (.t 114) (.seq (.ops [⟨some 115, .op (.mov (.t 10)), none⟩, ⟨some 2, .op (.mov (.t 115)), none⟩, ⟨some 3, .op (.mov (.c (.int .i64 50))), none⟩]) .ret) .skip)))) (.ops [⟨some 116, .op (.bin .add (.t 91) (.c (.int .i64 1))), none⟩, ⟨some 91, .op (.mov (.t 116)), none⟩])))) def C7 : IFn := ⟨120, (.seq (.ops [⟨some 2, .op (.mov (.c (.int .i64 0))), none⟩, ⟨some 3, .op (.mov (.c (.int .i64 0))), none⟩]) (.seq (.seq (.ops [⟨some 13, .op (.mov (.t 0)), none⟩, ⟨some 14, .op (.len .sl (.t 13)), none⟩, ⟨some 15, .op (.bin .gtr (.t 14) (.c (.int .i64 50000))), none⟩]) (.cond (.t 15) (.seq (.ops [⟨some 2, .op (.mov (.c (.int .i64 0))), none⟩, ⟨some 3, .op (.mov (.c (.int .i64 2))), none⟩]) .ret) .skip)) (.seq (.ops [⟨some 16, .op (.mov (.t 0)), none⟩, ⟨some 17, .op (.len .sl (.t 16)), none⟩, ⟨some 18, .op (.mkslice 1 1 [(.bool false)] (.t 17) (.t 17)), none⟩, ⟨some 4, .op (.mov (.t 18)), none⟩]) (.seq (.seq (.ops [⟨some 19, .op (.mov (.t 0)), none⟩, ⟨some 20, .op (.len .sl (.t 19)), none⟩, ⟨some 21, .op (.mov (.c (.int .i64 0))), none⟩]) (.block 0 (.loop C7L1))) (.seq (.ops [⟨some 84, .op (.mov (.t 0)), none⟩, ⟨some 85, .op (.len .sl (.t 84)), none⟩, ⟨some 86, .op (.bin .sub (.t 85) (.c (.int .i64 1))), none⟩, ⟨some 10, .op (.mov (.t 86)), none⟩]) (.seq (.seq (.ops [⟨some 87, .op (.mov (.t 10)), none⟩, ⟨some 88, .op (.bin .lss (.t 87) (.c (.int .i64 0))), none⟩]) (.cond (.t 88) (.seq (.ops [⟨some 2, .op (.mov (.c (.int .i64 0))), none⟩, ⟨some 3, .op (.mov (.c (.int .i64 50))), none⟩]) .ret) .skip)) (.seq (.seq (.ops [⟨some 89, .op (.mov (.t 0)), none⟩, ⟨some 90, .op (.len .sl (.t 89)), none⟩, ⟨some 91, .op (.mov (.c (.int .i64 0))), none⟩]) (.block 4 (.loop C7L2))) (.seq (.seq (.ops [⟨some 117, .op (.mov (.t 0)), none⟩, ⟨some 118, .call 16 [.t 117], none⟩, ⟨some 119, .op (.bin .gtr (.t 118) (.c (.int .i64 200))), none⟩]) (.cond (.t 119) (.seq (.ops [⟨some 2, .op (.mov (.c (.int .i64 0))), none⟩, ⟨some 3, .op (.mov (.c (.int .i64 51))), none⟩]) .ret) .skip)) (.seq (.ops [⟨some 2, .op (.mov (.c (.int .i64 0))), none⟩, ⟨some 3, .op (.mov (.c (.int .i64 0))), none⟩]) .ret))))))))), [.tmp 2, .tmp 3]⟩
def C10 : IFn := ⟨3, (.seq (.ops [⟨some 0, .op (.mov (.c (.map none))), none⟩]) (.seq (.ops [⟨some 1, .op (.mkmap (.one (.int .i64))), none⟩, ⟨none, .op (.mapset (.one (.int .i64)) (.t 1) (.c (.int .i64 1)) (.c (.string ⟨#[42, 100]⟩))), none⟩, ⟨none, .op (.mapset (.one (.int .i64)) (.t 1) (.c (.int .i64 2)) (.c (.string ⟨#[42, 110]⟩))), none⟩, ⟨none, .op (.mapset (.one (.int .i64)) (.t 1) (.c (.int .i64 3)) (.c (.string ⟨#[42, 110, 98]⟩))), none⟩, ⟨none, .op (.mapset (.one (.int .i64)) (.t 1) (.c (.int .i64 4)) (.c (.string ⟨#[42, 115]⟩))), none⟩, ⟨none, .op (.mapset (.one (.int .i64)) (.t 1) (.c (.int .i64 5)) (.c (.string ⟨#[101]⟩))), none⟩, ⟨none, .op (.mapset (.one (.int .i64)) (.t 1) (.c (.int .i64 6)) (.c (.string ⟨#[112, 101]⟩))), none⟩, ⟨none, .op (.mapset (.one (.int .i64)) (.t 1) (.c (.int .i64 7)) (.c (.string ⟨#[101, 98, 111]⟩))), none⟩, ⟨none, .op (.mapset (.one (.int .i64)) (.t 1) (.c (.int .i64 8)) (.c (.string ⟨#[101, 98]⟩))), none⟩, ⟨none, .op (.mapset (.one (.int .i64)) (.t 1) (.c (.int .i64 9)) (.c (.string ⟨#[101]⟩))), none⟩, ⟨none, .op (.mapset (.one (.int .i64)) (.t 1) (.c (.int .i64 10)) (.c (.string ⟨#[101]⟩))), none⟩, ⟨none, .op (.mapset (.one (.int .i64)) (.t 1) (.c (.int .i64 11)) (.c (.string ⟨#[101]⟩))), none⟩, ⟨none, .op (.mapset (.one (.int .i64)) (.t 1) (.c (.int .i64 12)) (.c (.string ⟨#[99]⟩))), none⟩, ⟨none, .op (.mapset (.one (.int .i64)) (.t 1) (.c (.int .i64 13)) (.c (.string ⟨#[42, 110]⟩))), none⟩, ⟨none, .op (.mapset (.one (.int .i64)) (.t 1) (.c (.int .i64 14)) (.c (.string ⟨#[]⟩))), none⟩, ⟨none, .op (.mapset (.one (.int .i64)) (.t 1) (.c (.int .i64 15)) (.c (.string ⟨#[]⟩))), none⟩, ⟨none, .op (.mapset (.one (.int .i64)) (.t 1) (.c (.int .i64 16)) (.c (.string ⟨#[]⟩))), none⟩, ⟨none, .op (.mapset (.one (.int .i64)) (.t 1) (.c (.int .i64 17)) (.c (.string ⟨#[]⟩))), none⟩, ⟨none, .op (.mapset (.one (.int .i64)) (.t 1) (.c (.int .i64 18)) (.c (.string ⟨#[101]⟩))), none⟩, ⟨none, .op (.mapset (.one (.int .i64)) (.t 1) (.c (.int .i64 19)) (.c (.string ⟨#[101, 101]⟩))), none⟩, ⟨none, .op (.mapset (.one (.int .i64)) (.t 1) (.c (.int .i64 20)) (.c (.string ⟨#[101]⟩))), none⟩, ⟨none, .op (.mapset (.one (.int .i64)) (.t 1) (.c (.int .i64 21)) (.c (.string ⟨#[101, 101]⟩))), none⟩, ⟨none, .op (.mapset (.one (.int .i64)) (.t 1) (.c (.int .i64 22)) (.c (.string ⟨#[42, 101]⟩))), none⟩, ⟨none, .op (.mapset (.one (.int .i64)) (.t 1) (.c (.int .i64 23)) (.c (.string ⟨#[]⟩))), none⟩, ⟨none, .op (.mapset (.one (.int .i64)) (.t 1) (.c (.int .i64 24)) (.c (.string ⟨#[101]⟩))), none⟩, ⟨none, .op (.mapset (.one (.int .i64)) (.t 1) (.c (.int .i64 25)) (.c (.string ⟨#[101]⟩))), none⟩, ⟨none, .op (.mapset (.one (.int .i64)) (.t 1) (.c (.int .i64 26)) (.c (.string ⟨#[]⟩))), none⟩, ⟨none, .op (.mapset (.one (.int .i64)) (.t 1) (.c (.int .i64 27)) (.c (.string ⟨#[101]⟩))), none⟩, ⟨none, .op (.mapset (.one (.int .i64)) (.t 1) (.c (.int .i64 28)) (.c (.string ⟨#[]⟩))), none⟩, ⟨none, .op (.mapset (.one (.int .i64)) (.t 1) (.c (.int .i64 29)) (.c (.string ⟨#[101]⟩))), none⟩, ⟨none, .op (.mapset (.one (.int .i64)) (.t 1) (.c (.int .i64 30)) (.c (.string ⟨#[]⟩))), none⟩, ⟨some 2, .op (.mov (.t 1)), none⟩, ⟨some 0, .op (.mov (.t 2)), none⟩]) .ret)), [.tmp 0]⟩
def C11 : IFn := ⟨70, (.seq (.ops [⟨some 1, .op (.box (.t 0)), none⟩, ⟨some 2, .op (.mov (.c (.bool false))), none⟩]) (.seq (.seq (.ops [⟨some 5, .op (.faddr 0 (.t 1)), none⟩, ⟨some 6, .op (.load none (.t 5)), none⟩]) (.block 0 (.seq (.seq (.ops [⟨some 8, .op (.bin .eql (.t 6) (.c (.int .i64 2))), none⟩, ⟨some 7, .op (.mov (.t 8)), none⟩]) (.cond (.t 7) .skip (.seq (.ops [⟨some 9, .op (.bin .eql (.t 6) (.c (.int .i64 3))), none⟩, ⟨some 7, .op (.mov (.t 9)), none⟩]) (.cond (.t 7) .skip (.seq (.ops [⟨some 10, .op (.bin .eql (.t 6) (.c (.int .i64 5))), none⟩, ⟨some 7, .op (.mov (.t 10)), none⟩]) (.cond (.t 7) .skip (.seq (.ops [⟨some 11, .op (.bin .eql (.t 6) (.c (.int .i64 17))), none⟩, ⟨some 7, .op (.mov (.t 11)), none⟩]) (.cond (.t 7) .skip (.seq (.ops [⟨some 12, .op (.bin .eql (.t 6) (.c (.int .i64 20))), none⟩, ⟨some 7, .op (.mov (.t 12)), none⟩]) (.cond (.t 7) .skip (.seq (.ops [⟨some 13, .op (.bin .eql (.t 6) (.c (.int .i64 22))), none⟩, ⟨some 7, .op (.mov (.t 13)), none⟩]) (.cond (.t 7) .skip (.ops [⟨some 14, .op (.bin .eql (.t 6) (.c (.int .i64 23))), none⟩, ⟨some 7, .op (.mov (.t 14)), none⟩]))))))))))))) (.cond (.t 7) (.seq (.ops [⟨some 15, .op (.faddr 1 (.t 1)), none⟩, ⟨some 16, .op (.load none (.t 15)), none⟩, ⟨some 17, .call 22 [.t 16], none⟩, ⟨some 2, .op (.mov (.t 17)), none⟩]) .ret) (.seq (.ops [⟨some 19, .op (.bin .eql (.t 6) (.c (.int .i64 15))), none⟩, ⟨some 18, .op (.mov (.t 19)), none⟩]) (.cond (.t 18) (.seq (.ops [⟨some 21, .op (.faddr 1 (.t 1)), none⟩, ⟨some 22, .op (.load none (.t 21)), none⟩, ⟨some 23, .call 23 [.t 22], none⟩, ⟨some 20, .op (.mov (.t 23)), none⟩, ⟨some 24, .op (.extract (.t 20) 0), none⟩, ⟨some 25, .op (.extract (.t 20) 1), none⟩, ⟨some 3, .op (.mov (.t 24)), none⟩, ⟨some 4, .op (.mov (.t 25)), none⟩]) (.seq (.ops [⟨some 26, .op (.mov (.t 4)), none⟩, ⟨some 27, .op (.mov (.t 26)), none⟩, ⟨some 28, .op (.faddr 1 (.t 1)), (some (27, true))⟩, ⟨some 29, .op (.load none (.t 28)), (some (27, true))⟩, ⟨some 30, .op (.bin .eql (.t 29) (.c (.string ⟨#[48]⟩))), (some (27, true))⟩, ⟨some 31, .op (.mov (.t 30)), (some (27, true))⟩, ⟨some 32, .op (.faddr 1 (.t 1)), (some (31, false))⟩, ⟨some 33, .op (.load none (.t 32)), (some (31, false))⟩, ⟨some 34, .op (.sidx (.t 33) (.c (.int .i64 0))), (some (31, false))⟩, ⟨some 35, .op (.bin .geq (.t 34) (.c (.int .u8 49))), (some (31, false))⟩, ⟨some 36, .op (.mov (.t 35)), (some (31, false))⟩, ⟨some 37, .op (.faddr 1 (.t 1)), (some (36, true))⟩, ⟨some 38, .op (.load none (.t 37)), (some (36, true))⟩, ⟨some 39, .op (.sidx (.t 38) (.c (.int .i64 0))), (some (36, true))⟩, ⟨some 40, .op (.bin .leq (.t 39) (.c (.int .u8 57))), (some (36, true))⟩, ⟨some 41, .op (.pick (.t 36) (.t 40) (.c (.bool false))), (some (31, false))⟩, ⟨some 42, .op (.pick (.t 31) (.c (.bool true)) (.t 41)), (some (27, true))⟩, ⟨some 43, .op (.pick (.t 27) (.t 42) (.c (.bool false))), none⟩, ⟨some 2, .op (.mov (.t 43)), none⟩]) .ret)) (.seq (.ops [⟨some 45, .op (.bin .eql (.t 6) (.c (.int .i64 18))), none⟩, ⟨some 44, .op (.mov (.t 45)), none⟩]) (.cond (.t 44) (.seq (.ops [⟨some 46, .op (.faddr 1 (.t 1)), none⟩, ⟨some 47, .op (.load none (.t 46)), none⟩, ⟨some 48, .op (.len .str (.t 47)), none⟩, ⟨some 49, .op (.bin .eql (.t 48) (.c (.int .i64 1))), none⟩, ⟨some 50, .op (.mov (.t 49)), none⟩, ⟨some 51, .op (.faddr 1 (.t 1)), (some (50, true))⟩, ⟨some 52, .op (.load none (.t 51)), (some (50, true))⟩, ⟨some 53, .call 24 [.c (.string ⟨#[45, 33, 126]⟩), .t 52], (some (50, true))⟩, ⟨some 54, .op (.pick (.t 50) (.t 53) (.c (.bool false))), none⟩, ⟨some 2, .op (.mov (.t 54)), none⟩]) .ret) (.seq (.ops [⟨some 56, .op (.bin .eql (.t 6) (.c (.int .i64 19))), none⟩, ⟨some 55, .op (.mov (.t 56)), none⟩]) (.cond (.t 55) (.seq (.ops [⟨some 57, .op (.faddr 1 (.t 1)), none⟩, ⟨some 58, .op (.load none (.t 57)), none⟩, ⟨some 59, .op (.bin .neq (.t 58) (.c (.string ⟨#[]⟩))), none⟩, ⟨some 60, .op (.mov (.t 59)), none⟩, ⟨some 61, .op (.faddr 1 (.t 1)), (some (60, true))⟩, ⟨some 62, .op (.load none (.t 61)), (some (60, true))⟩, ⟨some 63, .op (.bin .add (.c (.string ⟨#[32]⟩)) (.t 62)), (some (60, true))⟩, ⟨some 64, .op (.bin .add (.t 63) (.c (.string ⟨#[32]⟩))), (some (60, true))⟩, ⟨some 65, .call 24 [.c (.string ⟨#[32, 43, 32, 45, 32, 42, 32, 47, 32, 37, 32, 60, 60, 32, 62, 62, 32, 38, 32, 94, 32, 124, 32, 61, 61, 32, 33, 61, 32, 60, 32, 60, 61, 32]⟩), .t 64], (some (60, true))⟩, ⟨some 66, .op (.pick (.t 60) (.t 65) (.c (.bool false))), none⟩, ⟨some 2, .op (.mov (.t 66)), none⟩]) .ret) .skip)))))))))) (.seq (.ops [⟨some 67, .op (.faddr 1 (.t 1)), none⟩, ⟨some 68, .op (.load none (.t 67)), none⟩, ⟨some 69, .op (.bin .eql (.t 68) (.c (.string ⟨#[]⟩))), none⟩, ⟨some 2, .op (.mov (.t 69)), none⟩]) .ret))), [.tmp 2]⟩
def C12L0 : IC := (.seq (.seq (.ops [⟨some 32, .op (.mov (.t 11)), none⟩, ⟨some 33, .op (.bin .gtr (.t 32) (.c (.int .i64 0))), none⟩]) (.cond (.t 33) .skip (.exit 2))) (.seq (.block 3 (.seq (.seq (.ops [⟨some 36, .op (.mov (.t 7)), none⟩, ⟨some 37, .op (.mov (.t 1)), none⟩, ⟨some 38, .op (.len .sl (.t 37)), none⟩, ⟨some 39, .op (.bin .geq (.t 36) (.t 38)), none⟩, ⟨some 40, .op (.mov (.t 39)), none⟩, ⟨some 41, .op (.mov (.t 0)), (some (40, false))⟩, ⟨some 42, .op (.mov (.t 1)), (some (40, false))⟩, ⟨some 43, .op (.mov (.t 7)), (some (40, false))⟩, ⟨some 44, .op (.iaddr (.sl 1) (.t 42) (.t 43)), (some (40, false))⟩, ⟨some 45, .op (.load none (.t 44)), (some (40, false))⟩, ⟨some 46, .op (.iaddr (.sl 4) (.t 41) (.t 45)), (some (40, false))⟩, ⟨some 47, .op (.faddr 0 (.t 46)), (some (40, false))⟩, ⟨some 48, .op (.load none (.t 47)), (some (40, false))⟩, ⟨some 49, .call 27 [.t 48], (some (40, false))⟩, ⟨some 50, .op (.mov (.t 10)), (some (40, false))⟩, ⟨some 51, .call 26 [.t 49, .t 50], (some (40, false))⟩, ⟨some 52, .op (.un .not (.t 51)), (some (40, false))⟩, ⟨some 53, .op (.pick (.t 40) (.c (.bool true)) (.t 52)), none⟩]) (.cond (.t 53) (.seq (.ops [⟨some 6, .op (.mov (.c (.bool false))), none⟩]) .ret) .skip)) (.ops [⟨some 54, .op (.mov (.t 7)), none⟩, ⟨some 55, .op (.bin .add (.t 54) (.c (.int .i64 1))), none⟩, ⟨some 7, .op (.mov (.t 55)), none⟩]))) (.ops [⟨some 34, .op (.mov (.t 11)), none⟩, ⟨some 35, .op (.bin .sub (.t 34) (.c (.int .i64 1))), none⟩, ⟨some 11, .op (.mov (.t 35)), none⟩]))) def C12L1 : IC := (.seq (.ops [⟨some 14, .op (.next (.t 13)), none⟩, ⟨some 15, .op (.extract (.t 14) 0), none⟩]) (.seq (.cond (.t 15) .skip (.exit 0)) (.block 1 (.seq (.ops [⟨some 16, .op (.extract (.t 14) 2), none⟩, ⟨some 10, .op (.mov (.t 16)), none⟩]) (.seq (.seq (.ops [⟨some 17, .op (.mov (.t 10)), none⟩, ⟨some 18, .op (.bin .eql (.t 17) (.c (.int .i32 42))), none⟩]) (.cond (.t 18) (.seq (.ops [⟨some 8, .op (.mov (.c (.bool true))), none⟩]) (.exit 1)) .skip)) (.seq (.ops [⟨some 11, .op (.mov (.c (.int .i64 1))), none⟩]) (.seq (.seq (.ops [⟨some 19, .op (.mov (.t 8)), none⟩]) (.cond (.t 19) (.seq (.ops [⟨some 20, .op (.mov (.t 1)), none⟩, ⟨some 21, .op (.len .sl (.t 20)), none⟩, ⟨some 22, .op (.mov (.t 7)), none⟩, ⟨some 23, .op (.bin .sub (.t 21) (.t 22)), none⟩, ⟨some 24, .op (.mov (.t 2)), none⟩, ⟨some 25, .op (.len .str (.t 24)), none⟩, ⟨some 26, .op (.mov (.t 2)), none⟩, ⟨some 27, .op (.mov (.t 10)), none⟩, ⟨some 28, .call 25 [.t 26, .t 27], none⟩, ⟨some 29, .op (.bin .sub (.t 25) (.t 28)), none⟩, ⟨some 30, .op (.bin .sub (.t 29) (.c (.int .i64 1))), none⟩, ⟨some 31, .op (.bin .sub (.t 23) (.t 30)), none⟩, ⟨some 11, .op (.mov (.t 31)), none⟩]) (.ops [⟨some 8, .op (.mov (.c (.bool false))), none⟩])) .skip)) (.block 2 (.loop C12L0))))))))) def C12 : IFn := ⟨60, (.seq (.ops [⟨some 6, .op (.mov (.c (.bool false))), none⟩]) (.seq (.ops [⟨some 7, .op (.mov (.c (.int .i64 0))), none⟩, ⟨some 8, .op (.mov (.c (.bool false))), none⟩]) (.seq (.seq (.ops [⟨some 12, .op (.mov (.t 2)), none⟩, ⟨some 13, .op (.range (.t 12)), none⟩]) (.block 0 (.loop C12L1))) (.seq (.ops [⟨some 56, .op (.mov (.t 7)), none⟩, ⟨some 57, .op (.mov (.t 1)), none⟩, ⟨some 58, .op (.len .sl (.t 57)), none⟩, ⟨some 59, .op (.bin .eql (.t 56) (.t 58)), none⟩, ⟨some 6, .op (.mov (.t 59)), none⟩]) .ret)))), [.tmp 6]⟩
def C14 : IFn := ⟨74, (.seq (.ops [⟨some 1, .op (.box (.t 0)), none⟩, ⟨some 2, .op (.mov (.c (.bool false))), none⟩]) (.seq (.seq (.ops [⟨some 5, .op (.faddr 0 (.t 1)), none⟩, ⟨some 6, .op (.load none (.t 5)), none⟩]) (.block 0 (.seq (.seq (.ops [⟨some 8, .op (.bin .eql (.t 6) (.c (.int .i64 2))), none⟩, ⟨some 7, .op (.mov (.t 8)), none⟩]) (.cond (.t 7) .skip (.seq (.ops [⟨some 9, .op (.bin .eql (.t 6) (.c (.int .i64 3))), none⟩, ⟨some 7, .op (.mov (.t 9)), none⟩]) (.cond (.t 7) .skip (.seq (.ops [⟨some 10, .op (.bin .eql (.t 6) (.c (.int .i64 5))), none⟩, ⟨some 7, .op (.mov (.t 10)), none⟩]) (.cond (.t 7) .skip (.seq (.ops [⟨some 11, .op (.bin .eql (.t 6) (.c (.int .i64 17))), none⟩, ⟨some 7, .op (.mov (.t 11)), none⟩]) (.cond (.t 7) .skip (.seq (.ops [⟨some 12, .op (.bin .eql (.t 6) (.c (.int .i64 20))), none⟩, ⟨some 7, .op (.mov (.t 12)), none⟩]) (.cond (.t 7) .skip (.seq (.ops [⟨some 13, .op (.bin .eql (.t 6) (.c (.int .i64 22))), none⟩, ⟨some 7, .op (.mov (.t 13)), none⟩]) (.cond (.t 7) .skip (.ops [⟨some 14, .op (.bin .eql (.t 6) (.c (.int .i64 23))), none⟩, ⟨some 7, .op (.mov (.t 14)), none⟩]))))))))))))) (.cond (.t 7) (.seq (.ops [⟨some 15, .op (.faddr 1 (.t 1)), none⟩, ⟨some 16, .op (.load none (.t 15)), none⟩, ⟨some 17, .call 28 [.t 16], none⟩, ⟨some 2, .op (.mov (.t 17)), none⟩]) .ret) (.seq (.ops [⟨some 19, .op (.bin .eql (.t 6) (.c (.int .i64 15))), none⟩, ⟨some 18, .op (.mov (.t 19)), none⟩]) (.cond (.t 18) (.seq (.ops [⟨some 21, .op (.faddr 1 (.t 1)), none⟩, ⟨some 22, .op (.load none (.t 21)), none⟩, ⟨some 23, .call 29 [.t 22], none⟩, ⟨some 20, .op (.mov (.t 23)), none⟩, ⟨some 24, .op (.extract (.t 20) 0), none⟩, ⟨some 25, .op (.extract (.t 20) 1), none⟩, ⟨some 3, .op (.mov (.t 24)), none⟩, ⟨some 4, .op (.mov (.t 25)), none⟩]) (.seq (.ops [⟨some 26, .op (.mov (.t 4)), none⟩, ⟨some 27, .op (.mov (.t 26)), none⟩, ⟨some 28, .op (.faddr 1 (.t 1)), (some (27, true))⟩, ⟨some 29, .op (.load none (.t 28)), (some (27, true))⟩, ⟨some 30, .op (.sidx (.t 29) (.c (.int .i64 0))), (some (27, true))⟩, ⟨some 31, .op (.bin .geq (.t 30) (.c (.int .u8 48))), (some (27, true))⟩, ⟨some 32, .op (.pick (.t 27) (.t 31) (.c (.bool false))), none⟩, ⟨some 33, .op (.mov (.t 32)), none⟩, ⟨some 34, .op (.faddr 1 (.t 1)), (some (33, true))⟩, ⟨some 35, .op (.load none (.t 34)), (some (33, true))⟩, ⟨some 36, .op (.sidx (.t 35) (.c (.int .i64 0))), (some (33, true))⟩, ⟨some 37, .op (.bin .leq (.t 36) (.c (.int .u8 57))), (some (33, true))⟩, ⟨some 38, .op (.pick (.t 33) (.t 37) (.c (.bool false))), none⟩, ⟨some 39, .op (.mov (.t 38)), none⟩, ⟨some 40, .op (.faddr 1 (.t 1)), (some (39, true))⟩, ⟨some 41, .op (.load none (.t 40)), (some (39, true))⟩, ⟨some 42, .op (.len .str (.t 41)), (some (39, true))⟩, ⟨some 43, .op (.bin .eql (.t 42) (.c (.int .i64 1))), (some (39, true))⟩, ⟨some 44, .op (.mov (.t 43)), (some (39, true))⟩, ⟨some 45, .op (.faddr 1 (.t 1)), (some (44, false))⟩, ⟨some 46, .op (.load none (.t 45)), (some (44, false))⟩, ⟨some 47, .op (.sidx (.t 46) (.c (.int .i64 0))), (some (44, false))⟩, ⟨some 48, .op (.bin .neq (.t 47) (.c (.int .u8 48))), (some (44, false))⟩, ⟨some 49, .op (.pick (.t 44) (.c (.bool true)) (.t 48)), (some (39, true))⟩, ⟨some 50, .op (.pick (.t 39) (.t 49) (.c (.bool false))), none⟩, ⟨some 2, .op (.mov (.t 50)), none⟩]) .ret)) (.seq (.ops [⟨some 52, .op (.bin .eql (.t 6) (.c (.int .i64 18))), none⟩, ⟨some 51, .op (.mov (.t 52)), none⟩]) (.cond (.t 51) (.seq (.ops [⟨some 53, .op (.faddr 1 (.t 1)), none⟩, ⟨some 54, .op (.load none (.t 53)), none⟩, ⟨some 55, .op (.bin .eql (.t 54) (.c (.string ⟨#[45]⟩))), none⟩, ⟨some 56, .op (.mov (.t 55)), none⟩, ⟨some 57, .op (.faddr 1 (.t 1)), (some (56, false))⟩, ⟨some 58, .op (.load none (.t 57)), (some (56, false))⟩, ⟨some 59, .op (.bin .eql (.t 58) (.c (.string ⟨#[33]⟩))), (some (56, false))⟩, ⟨some 60, .op (.pick (.t 56) (.c (.bool true)) (.t 59)), none⟩, ⟨some 61, .op (.mov (.t 60)), none⟩, ⟨some 62, .op (.faddr 1 (.t 1)), (some (61, false))⟩, ⟨some 63, .op (.load none (.t 62)), (some (61, false))⟩, ⟨some 64, .op (.bin .eql (.t 63) (.c (.string ⟨#[126]⟩))), (some (61, false))⟩, ⟨some 65, .op (.pick (.t 61) (.c (.bool true)) (.t 64)), none⟩, ⟨some 2, .op (.mov (.t 65)), none⟩]) .ret) (.seq (.ops [⟨some 67, .op (.bin .eql (.t 6) (.c (.int .i64 19))), none⟩, ⟨some 66, .op (.mov (.t 67)), none⟩]) (.cond (.t 66) (.seq (.ops [⟨some 68, .op (.faddr 1 (.t 1)), none⟩, ⟨some 69, .op (.load none (.t 68)), none⟩, ⟨some 70, .call 30 [.t 69], none⟩, ⟨some 2, .op (.mov (.t 70)), none⟩]) .ret) .skip)))))))))) (.seq (.ops [⟨some 71, .op (.faddr 1 (.t 1)), none⟩, ⟨some 72, .op (.load none (.t 71)), none⟩, ⟨some 73, .op (.bin .eql (.t 72) (.c (.string ⟨#[]⟩))), none⟩, ⟨some 2, .op (.mov (.t 73)), none⟩]) .ret))), [.tmp 2]⟩
def C15L0 : IC := (.seq (.ops [⟨some 18, .op (.bin .lss (.t 17) (.t 16)), none⟩]) (.seq (.cond (.t 18) .skip (.exit 1)) (.seq (.block 2 (.seq (.ops [⟨some 19, .op (.iaddr (.sl 1) (.t 15) (.t 17)), none⟩, ⟨some 20, .op (.load none (.t 19)), none⟩, ⟨some 7, .op (.mov (.t 20)), none⟩]) (.seq (.ops [⟨some 21, .op (.mov (.t 7)), none⟩, ⟨some 22, .op (.bin .neq (.t 21) (.c (.int .i64 2))), none⟩, ⟨some 23, .op (.mov (.t 22)), none⟩, ⟨some 24, .op (.mov (.t 7)), (some (23, true))⟩, ⟨some 25, .op (.bin .neq (.t 24) (.c (.int .i64 3))), (some (23, true))⟩, ⟨some 26, .op (.pick (.t 23) (.t 25) (.c (.bool false))), none⟩]) (.cond (.t 26) (.seq (.ops [⟨some 4, .op (.mov (.c (.bool false))), none⟩]) .ret) .skip)))) (.ops [⟨some 27, .op (.bin .add (.t 17) (.c (.int .i64 1))), none⟩, ⟨some 17, .op (.mov (.t 27)), none⟩])))) def C15L1 : IC := (.seq (.ops [⟨some 57, .op (.bin .lss (.t 56) (.t 55)), none⟩]) (.seq (.cond (.t 57) .skip (.exit 3)) (.seq (.block 4 (.seq (.ops [⟨some 58, .op (.iaddr (.sl 1) (.t 54) (.t 56)), none⟩, ⟨some 59, .op (.load none (.t 58)), none⟩, ⟨some 9, .op (.mov (.t 59)), none⟩]) (.seq (.ops [⟨some 60, .op (.mov (.t 9)), none⟩, ⟨some 61, .call 32 [.t 60], none⟩, ⟨some 62, .op (.un .not (.t 61)), none⟩]) (.cond (.t 62) (.seq (.ops [⟨some 4, .op (.mov (.c (.bool false))), none⟩]) .ret) .skip)))) (.ops [⟨some 63, .op (.bin .add (.t 56) (.c (.int .i64 1))), none⟩, ⟨some 56, .op (.mov (.t 63)), none⟩])))) def C15 : IFn := ⟨180, (.seq (.ops [⟨some 4, .op (.mov (.c (.bool false))), none⟩]) (.seq (.ops [⟨some 10, .op (.mov (.t 1)), none⟩, ⟨some 11, .op (.len .sl (.t 10)), none⟩, ⟨some 5, .op (.mov (.t 11)), none⟩]) (.seq (.seq (.ops [⟨some 12, .op (.mov (.t 0)), none⟩]) (.block 0 (.seq (.ops [⟨some 14, .op (.bin .eql (.t 12) (.c (.int .i64 1))), none⟩, ⟨some 13, .op (.mov (.t 14)), none⟩]) (.cond (.t 13) (.seq (.seq (.ops [⟨some 15, .op (.mov (.t 1)), none⟩, ⟨some 16, .op (.len .sl (.t 15)), none⟩, ⟨some 17, .op (.mov (.c (.int .i64 0))), none⟩]) (.block 1 (.loop C15L0))) (.seq (.ops [⟨some 4, .op (.mov (.c (.bool true))), none⟩]) .ret)) (.seq (.seq (.ops [⟨some 29, .op (.bin .eql (.t 12) (.c (.int .i64 2))), none⟩, ⟨some 28, .op (.mov (.t 29)), none⟩]) (.cond (.t 28) .skip (.ops [⟨some 30, .op (.bin .eql (.t 12) (.c (.int .i64 13))), none⟩, ⟨some 28, .op (.mov (.t 30)), none⟩]))) (.cond (.t 28) (.seq (.ops [⟨some 31, .op (.mov (.t 1)), none⟩, ⟨some 32, .call 31 [.t 31, .c (.int .i64 17)], none⟩, ⟨some 4, .op (.mov (.t 32)), none⟩]) .ret) (.seq (.ops [⟨some 34, .op (.bin .eql (.t 12) (.c (.int .i64 3))), none⟩, ⟨some 33, .op (.mov (.t 34)), none⟩]) (.cond (.t 33) (.seq (.ops [⟨some 35, .op (.mov (.t 5)), none⟩, ⟨some 36, .op (.bin .gtr (.t 35) (.c (.int .i64 0))), none⟩, ⟨some 37, .op (.mov (.t 36)), none⟩, ⟨some 38, .op (.mov (.t 1)), (some (37, true))⟩, ⟨some 39, .op (.mov (.t 5)), (some (37, true))⟩, ⟨some 40, .op (.bin .sub (.t 39) (.c (.int .i64 1))), (some (37, true))⟩, ⟨some 41, .op (.sub (.sl 1) (.t 38) none (some (.t 40)) none), (some (37, true))⟩, ⟨some 42, .call 31 [.t 41, .c (.int .i64 17)], (some (37, true))⟩, ⟨some 43, .op (.pick (.t 37) (.t 42) (.c (.bool false))), none⟩, ⟨some 44, .op (.mov (.t 43)), none⟩, ⟨some 45, .op (.mov (.t 1)), (some (44, true))⟩, ⟨some 46, .op (.mov (.t 5)), (some (44, true))⟩, ⟨some 47, .op (.bin .sub (.t 46) (.c (.int .i64 1))), (some (44, true))⟩, ⟨some 48, .op (.iaddr (.sl 1) (.t 45) (.t 47)), (some (44, true))⟩, ⟨some 49, .op (.load none (.t 48)), (some (44, true))⟩, ⟨some 50, .op (.bin .eql (.t 49) (.c (.int .i64 4))), (some (44, true))⟩, ⟨some 51, .op (.pick (.t 44) (.t 50) (.c (.bool false))), none⟩, ⟨some 4, .op (.mov (.t 51)), none⟩]) .ret) (.seq (.ops [⟨some 53, .op (.bin .eql (.t 12) (.c (.int .i64 4))), none⟩, ⟨some 52, .op (.mov (.t 53)), none⟩]) (.cond (.t 52) (.seq (.seq (.ops [⟨some 54, .op (.mov (.t 1)), none⟩, ⟨some 55, .op (.len .sl (.t 54)), none⟩, ⟨some 56, .op (.mov (.c (.int .i64 0))), none⟩]) (.block 3 (.loop C15L1))) (.seq (.ops [⟨some 4, .op (.mov (.c (.bool true))), none⟩]) .ret)) (.seq (.seq (.ops [⟨some 65, .op (.bin .eql (.t 12) (.c (.int .i64 5))), none⟩, ⟨some 64, .op (.mov (.t 65)), none⟩]) (.cond (.t 64) .skip (.seq (.ops [⟨some 66, .op (.bin .eql (.t 12) (.c (.int .i64 9))), none⟩, ⟨some 64, .op (.mov (.t 66)), none⟩]) (.cond (.t 64) .skip (.seq (.ops [⟨some 67, .op (.bin .eql (.t 12) (.c (.int .i64 10))), none⟩, ⟨some 64, .op (.mov (.t 67)), none⟩]) (.cond (.t 64) .skip (.seq (.ops [⟨some 68, .op (.bin .eql (.t 12) (.c (.int .i64 11))), none⟩, ⟨some 64, .op (.mov (.t 68)), none⟩]) (.cond (.t 64) .skip (.seq (.ops [⟨some 69, .op (.bin .eql (.t 12) (.c (.int .i64 18))), none⟩, ⟨some 64, .op (.mov (.t 69)), none⟩]) (.cond (.t 64) .skip (.seq (.ops [⟨some 70, .op (.bin .eql (.t 12) (.c (.int .i64 20))), none⟩, ⟨some 64, .op (.mov (.t 70)), none⟩]) (.cond (.t 64) .skip (.seq (.ops [⟨some 71, .op (.bin .eql (.t 12) (.c (.int .i64 24))), none⟩, ⟨some 64, .op (.mov (.t 71)), none⟩]) (.cond (.t 64) .skip (.seq (.ops [⟨some 72, .op (.bin .eql (.t 12) (.c (.int .i64 25))), none⟩, ⟨some 64, .op (.mov (.t 72)), none⟩]) (.cond (.t 64) .skip (.seq (.ops [⟨some 73, .op (.bin .eql (.t 12) (.c (.int .i64 27))), none⟩, ⟨some 64, .op (.mov (.t 73)), none⟩]) (.cond (.t 64) .skip (.ops [⟨some 74, .op (.bin .eql (.t 12) (.c (.int .i64 29))), none⟩, ⟨some 64, .op (.mov (.t 74)), none⟩]))))))))))))))))))) (.cond (.t 64) (.seq (.ops [⟨some 75, .op (.mov (.t 1)), none⟩, ⟨some 76, .call 33 [.t 75, .c (.int .i64 1)], none⟩, ⟨some 4, .op (.mov (.t 76)), none⟩]) .ret) (.seq (.ops [⟨some 78, .op (.bin .eql (.t 12) (.c (.int .i64 6))), none⟩, ⟨some 77, .op (.mov (.t 78)), none⟩]) (.cond (.t 77) (.seq (.ops [⟨some 79, .op (.mov (.t 1)), none⟩, ⟨some 80, .call 33 [.t 79, .c (.int .i64 2)], none⟩, ⟨some 81, .op (.mov (.t 80)), none⟩, ⟨some 82, .op (.mov (.t 1)), (some (81, true))⟩, ⟨some 83, .op (.iaddr (.sl 1) (.t 82) (.c (.int .i64 0))), (some (81, true))⟩, ⟨some 84, .op (.load none (.t 83)), (some (81, true))⟩, ⟨some 85, .op (.bin .eql (.t 84) (.c (.int .i64 17))), (some (81, true))⟩, ⟨some 86, .op (.mov (.t 85)), (some (81, true))⟩, ⟨some 87, .op (.mov (.t 1)), (some (86, false))⟩, ⟨some 88, .op (.iaddr (.sl 1) (.t 87) (.c (.int .i64 0))), (some (86, false))⟩, ⟨some 89, .op (.load none (.t 88)), (some (86, false))⟩, ⟨some 90, .op (.bin .eql (.t 89) (.c (.int .i64 20))), (some (86, false))⟩, ⟨some 91, .op (.pick (.t 86) (.c (.bool true)) (.t 90)), (some (81, true))⟩, ⟨some 92, .op (.mov (.t 91)), (some (81, true))⟩, ⟨some 93, .op (.mov (.t 1)), (some (92, false))⟩, ⟨some 94, .op (.iaddr (.sl 1) (.t 93) (.c (.int .i64 0))), (some (92, false))⟩, ⟨some 95, .op (.load none (.t 94)), (some (92, false))⟩, ⟨some 96, .op (.bin .eql (.t 95) (.c (.int .i64 21))), (some (92, false))⟩, ⟨some 97, .op (.pick (.t 92) (.c (.bool true)) (.t 96)), (some (81, true))⟩, ⟨some 98, .op (.mov (.t 97)), (some (81, true))⟩, ⟨some 99, .op (.mov (.t 1)), (some (98, false))⟩, ⟨some 100, .op (.iaddr (.sl 1) (.t 99) (.c (.int .i64 0))), (some (98, false))⟩, ⟨some 101, .op (.load none (.t 100)), (some (98, false))⟩, ⟨some 102, .op (.bin .eql (.t 101) (.c (.int .i64 30))), (some (98, false))⟩, ⟨some 103, .op (.pick (.t 98) (.c (.bool true)) (.t 102)), (some (81, true))⟩, ⟨some 104, .op (.pick (.t 81) (.t 103) (.c (.bool false))), none⟩, ⟨some 4, .op (.mov (.t 104)), none⟩]) .ret) (.seq (.ops [⟨some 106, .op (.bin .eql (.t 12) (.c (.int .i64 7))), none⟩, ⟨some 105, .op (.mov (.t 106)), none⟩]) (.cond (.t 105) (.seq (.ops [⟨some 107, .op (.mov (.t 5)), none⟩, ⟨some 108, .op (.bin .eql (.t 107) (.c (.int .i64 3))), none⟩, ⟨some 109, .op (.mov (.t 108)), none⟩, ⟨some 110, .op (.mov (.t 1)), (some (109, true))⟩, ⟨some 111, .op (.iaddr (.sl 1) (.t 110) (.c (.int .i64 0))), (some (109, true))⟩, ⟨some 112, .op (.load none (.t 111)), (some (109, true))⟩, ⟨some 113, .call 34 [.t 112], (some (109, true))⟩, ⟨some 114, .op (.pick (.t 109) (.t 113) (.c (.bool false))), none⟩, ⟨some 115, .op (.mov (.t 114)), none⟩, ⟨some 116, .op (.mov (.t 1)), (some (115, true))⟩, ⟨some 117, .op (.iaddr (.sl 1) (.t 116) (.c (.int .i64 1))), (some (115, true))⟩, ⟨some 118, .op (.load none (.t 117)), (some (115, true))⟩, ⟨some 119, .op (.bin .eql (.t 118) (.c (.int .i64 4))), (some (115, true))⟩, ⟨some 120, .op (.pick (.t 115) (.t 119) (.c (.bool false))), none⟩, ⟨some 121, .op (.mov (.t 120)), none⟩, ⟨some 122, .op (.mov (.t 1)), (some (121, true))⟩, ⟨some 123, .op (.iaddr (.sl 1) (.t 122) (.c (.int .i64 2))), (some (121, true))⟩, ⟨some 124, .op (.load none (.t 123)), (some (121, true))⟩, ⟨some 125, .op (.bin .eql (.t 124) (.c (.int .i64 4))), (some (121, true))⟩, ⟨some 126, .op (.mov (.t 125)), (some (121, true))⟩, ⟨some 127, .op (.mov (.t 1)), (some (126, false))⟩, ⟨some 128, .op (.iaddr (.sl 1) (.t 127) (.c (.int .i64 2))), (some (126, false))⟩, ⟨some 129, .op (.load none (.t 128)), (some (126, false))⟩, ⟨some 130, .op (.bin .eql (.t 129) (.c (.int .i64 14))), (some (126, false))⟩, ⟨some 131, .op (.pick (.t 126) (.c (.bool true)) (.t 130)), (some (121, true))⟩, ⟨some 132, .op (.pick (.t 121) (.t 131) (.c (.bool false))), none⟩, ⟨some 4, .op (.mov (.t 132)), none⟩]) .ret) (.seq (.ops [⟨some 134, .op (.bin .eql (.t 12) (.c (.int .i64 8))), none⟩, ⟨some 133, .op (.mov (.t 134)), none⟩]) (.cond (.t 133) (.seq (.ops [⟨some 135, .op (.mov (.t 5)), none⟩, ⟨some 136, .op (.bin .eql (.t 135) (.c (.int .i64 2))), none⟩, ⟨some 137, .op (.mov (.t 136)), none⟩, ⟨some 138, .op (.mov (.t 1)), (some (137, true))⟩, ⟨some 139, .op (.iaddr (.sl 1) (.t 138) (.c (.int .i64 0))), (some (137, true))⟩, ⟨some 140, .op (.load none (.t 139)), (some (137, true))⟩, ⟨some 141, .call 34 [.t 140], (some (137, true))⟩, ⟨some 142, .op (.pick (.t 137) (.t 141) (.c (.bool false))), none⟩, ⟨some 143, .op (.mov (.t 142)), none⟩, ⟨some 144, .op (.mov (.t 1)), (some (143, true))⟩, ⟨some 145, .op (.iaddr (.sl 1) (.t 144) (.c (.int .i64 1))), (some (143, true))⟩, ⟨some 146, .op (.load none (.t 145)), (some (143, true))⟩, ⟨some 147, .op (.bin .eql (.t 146) (.c (.int .i64 4))), (some (143, true))⟩, ⟨some 148, .op (.pick (.t 143) (.t 147) (.c (.bool false))), none⟩, ⟨some 4, .op (.mov (.t 148)), none⟩]) .ret) (.seq (.ops [⟨some 150, .op (.bin .eql (.t 12) (.c (.int .i64 12))), none⟩, ⟨some 149, .op (.mov (.t 150)), none⟩]) (.cond (.t 149) (.seq (.ops [⟨some 151, .op (.mov (.t 5)), none⟩, ⟨some 152, .op (.bin .eql (.t 151) (.c (.int .i64 1))), none⟩, ⟨some 153, .op (.mov (.t 152)), none⟩, ⟨some 154, .op (.mov (.t 1)), (some (153, true))⟩, ⟨some 155, .op (.iaddr (.sl 1) (.t 154) (.c (.int .i64 0))), (some (153, true))⟩, ⟨some 156, .op (.load none (.t 155)), (some (153, true))⟩, ⟨some 157, .op (.bin .eql (.t 156) (.c (.int .i64 22))), (some (153, true))⟩, ⟨some 158, .op (.pick (.t 153) (.t 157) (.c (.bool false))), none⟩, ⟨some 4, .op (.mov (.t 158)), none⟩]) .ret) (.seq (.seq (.ops [⟨some 160, .op (.bin .eql (.t 12) (.c (.int .i64 19))), none⟩, ⟨some 159, .op (.mov (.t 160)), none⟩]) (.cond (.t 159) .skip (.ops [⟨some 161, .op (.bin .eql (.t 12) (.c (.int .i64 21))), none⟩, ⟨some 159, .op (.mov (.t 161)), none⟩]))) (.cond (.t 159) (.seq (.ops [⟨some 162, .op (.mov (.t 1)), none⟩, ⟨some 163, .call 33 [.t 162, .c (.int .i64 2)], none⟩, ⟨some 4, .op (.mov (.t 163)), none⟩]) .ret) (.seq (.ops [⟨some 165, .op (.bin .eql (.t 12) (.c (.int .i64 22))), none⟩, ⟨some 164, .op (.mov (.t 165)), none⟩]) (.cond (.t 164) (.seq (.ops [⟨some 166, .op (.mov (.t 1)), none⟩, ⟨some 167, .op (.mov (.t 5)), none⟩, ⟨some 168, .call 33 [.t 166, .t 167], none⟩, ⟨some 4, .op (.mov (.t 168)), none⟩]) .ret) (.seq (.seq (.ops [⟨some 170, .op (.bin .eql (.t 12) (.c (.int .i64 14))), none⟩, ⟨some 169, .op (.mov (.t 170)), none⟩]) (.cond (.t 169) .skip (.seq (.ops [⟨some 171, .op (.bin .eql (.t 12) (.c (.int .i64 15))), none⟩, ⟨some 169, .op (.mov (.t 171)), none⟩]) (.cond (.t 169) .skip (.seq (.ops [⟨some 172, .op (.bin .eql (.t 12) (.c (.int .i64 16))), none⟩, ⟨some 169, .op (.mov (.t 172)), none⟩]) (.cond (.t 169) .skip (.seq (.ops [⟨some 173, .op (.bin .eql (.t 12) (.c (.int .i64 17))), none⟩, ⟨some 169, .op (.mov (.t 173)), none⟩]) (.cond (.t 169) .skip (.seq (.ops [⟨some 174, .op (.bin .eql (.t 12) (.c (.int .i64 23))), none⟩, ⟨some 169, .op (.mov (.t 174)), none⟩]) (.cond (.t 169) .skip (.seq (.ops [⟨some 175, .op (.bin .eql (.t 12) (.c (.int .i64 26))), none⟩, ⟨some 169, .op (.mov (.t 175)), none⟩]) (.cond (.t 169) .skip (.seq (.ops [⟨some 176, .op (.bin .eql (.t 12) (.c (.int .i64 28))), none⟩, ⟨some 169, .op (.mov (.t 176)), none⟩]) (.cond (.t 169) .skip (.ops [⟨some 177, .op (.bin .eql (.t 12) (.c (.int .i64 30))), none⟩, ⟨some 169, .op (.mov (.t 177)), none⟩]))))))))))))))) (.cond (.t 169) (.seq (.ops [⟨some 178, .op (.mov (.t 5)), none⟩, ⟨some 179, .op (.bin .eql (.t 178) (.c (.int .i64 0))), none⟩, ⟨some 4, .op (.mov (.t 179)), none⟩]) .ret) .skip)))))))))))))))))))))))))) (.seq (.ops [⟨some 4, .op (.mov (.c (.bool false))), none⟩]) .ret)))), [.tmp 4]⟩
def C25L0 : IC := (.seq (.ops [⟨some 9, .op (.next (.t 8)), none⟩, ⟨some 10, .op (.extract (.t 9) 0), none⟩]) (.seq (.cond (.t 10) .skip (.exit 0)) (.block 1 (.seq (.ops [⟨some 11, .op (.extract (.t 9) 1), none⟩, ⟨some 12, .op (.extract (.t 9) 2), none⟩, ⟨some 5, .op (.mov (.t 11)), none⟩, ⟨some 6, .op (.mov (.t 12)), none⟩]) (.seq (.ops [⟨some 13, .op (.mov (.t 6)), none⟩, ⟨some 14, .op (.mov (.t 1)), none⟩, ⟨some 15, .op (.bin .eql (.t 13) (.t 14)), none⟩]) (.cond (.t 15) (.seq (.ops [⟨some 16, .op (.mov (.t 5)), none⟩, ⟨some 4, .op (.mov (.t 16)), none⟩]) .ret) .skip)))))) def C25 : IFn := ⟨17, (.seq (.ops [⟨some 4, .op (.mov (.c (.int .i64 0))), none⟩]) (.seq (.seq (.ops [⟨some 7, .op (.mov (.t 0)), none⟩, ⟨some 8, .op (.range (.t 7)), none⟩]) (.block 0 (.loop C25L0))) (.seq (.ops [⟨some 4, .op (.mov (.c (.int .i64 (-1)))), none⟩]) .ret))), [.tmp 4]⟩
def C26L0 : IC := (.seq (.ops [⟨some 9, .op (.next (.t 8)), none⟩, ⟨some 10, .op (.extract (.t 9) 0), none⟩]) (.seq (.cond (.t 10) .skip (.exit 0)) (.block 1 (.seq (.ops [⟨some 11, .op (.extract (.t 9) 2), none⟩, ⟨some 6, .op (.mov (.t 11)), none⟩]) (.seq (.ops [⟨some 12, .op (.mov (.t 6)), none⟩, ⟨some 13, .op (.mov (.t 1)), none⟩, ⟨some 14, .op (.bin .eql (.t 12) (.t 13)), none⟩]) (.cond (.t 14) (.seq (.ops [⟨some 4, .op (.mov (.c (.bool true))), none⟩]) .ret) .skip)))))) def C26 : IFn := ⟨15, (.seq (.ops [⟨some 4, .op (.mov (.c (.bool false))), none⟩]) (.seq (.seq (.ops [⟨some 7, .op (.mov (.t 0)), none⟩, ⟨some 8, .op (.range (.t 7)), none⟩]) (.block 0 (.loop C26L0))) (.seq (.ops [⟨some 4, .op (.mov (.c (.bool false))), none⟩]) .ret))), [.tmp 4]⟩
def C27 : IFn := ⟨33, (.seq (.ops [⟨some 2, .op (.mov (.c (.string ⟨#[]⟩))), none⟩]) (.seq (.seq (.ops [⟨some 3, .op (.mov (.t 0)), none⟩]) (.block 0 (.seq (.seq (.ops [⟨some 5, .op (.bin .eql (.t 3) (.c (.int .i64 2))), none⟩, ⟨some 4, .op (.mov (.t 5)), none⟩]) (.cond (.t 4) .skip (.ops [⟨some 6, .op (.bin .eql (.t 3) (.c (.int .i64 3))), none⟩, ⟨some 4, .op (.mov (.t 6)), none⟩]))) (.cond (.t 4) (.seq (.ops [⟨some 2, .op (.mov (.c (.string ⟨#[100]⟩))), none⟩]) .ret) (.seq (.ops [⟨some 8, .op (.bin .eql (.t 3) (.c (.int .i64 4))), none⟩, ⟨some 7, .op (.mov (.t 8)), none⟩]) (.cond (.t 7) (.seq (.ops [⟨some 2, .op (.mov (.c (.string ⟨#[98, 111]⟩))), none⟩]) .ret) (.seq (.ops [⟨some 10, .op (.bin .eql (.t 3) (.c (.int .i64 14))), none⟩, ⟨some 9, .op (.mov (.t 10)), none⟩]) (.cond (.t 9) (.seq (.ops [⟨some 2, .op (.mov (.c (.string ⟨#[111]⟩))), none⟩]) .ret) (.seq (.ops [⟨some 12, .op (.bin .eql (.t 3) (.c (.int .i64 17))), none⟩, ⟨some 11, .op (.mov (.t 12)), none⟩]) (.cond (.t 11) (.seq (.ops [⟨some 2, .op (.mov (.c (.string ⟨#[110, 101, 112]⟩))), none⟩]) .ret) (.seq (.seq (.ops [⟨some 14, .op (.bin .eql (.t 3) (.c (.int .i64 20))), none⟩, ⟨some 13, .op (.mov (.t 14)), none⟩]) (.cond (.t 13) .skip (.seq (.ops [⟨some 15, .op (.bin .eql (.t 3) (.c (.int .i64 21))), none⟩, ⟨some 13, .op (.mov (.t 15)), none⟩]) (.cond (.t 13) .skip (.ops [⟨some 16, .op (.bin .eql (.t 3) (.c (.int .i64 30))), none⟩, ⟨some 13, .op (.mov (.t 16)), none⟩]))))) (.cond (.t 13) (.seq (.ops [⟨some 2, .op (.mov (.c (.string ⟨#[101, 112]⟩))), none⟩]) .ret) (.seq (.ops [⟨some 18, .op (.bin .eql (.t 3) (.c (.int .i64 22))), none⟩, ⟨some 17, .op (.mov (.t 18)), none⟩]) (.cond (.t 17) (.seq (.ops [⟨some 2, .op (.mov (.c (.string ⟨#[101, 99]⟩))), none⟩]) .ret) .skip)))))))))))))) (.seq (.block 1 (.seq (.ops [⟨some 20, .op (.mov (.t 0)), none⟩, ⟨some 21, .op (.bin .geq (.t 20) (.c (.int .i64 5))), none⟩, ⟨some 22, .op (.mov (.t 21)), none⟩, ⟨some 23, .op (.mov (.t 0)), (some (22, true))⟩, ⟨some 24, .op (.bin .leq (.t 23) (.c (.int .i64 13))), (some (22, true))⟩, ⟨some 25, .op (.pick (.t 22) (.t 24) (.c (.bool false))), none⟩, ⟨some 19, .op (.mov (.t 25)), none⟩]) (.cond (.t 19) (.seq (.ops [⟨some 2, .op (.mov (.c (.string ⟨#[115]⟩))), none⟩]) .ret) (.seq (.ops [⟨some 27, .op (.mov (.t 0)), none⟩, ⟨some 28, .op (.bin .geq (.t 27) (.c (.int .i64 15))), none⟩, ⟨some 29, .op (.mov (.t 28)), none⟩, ⟨some 30, .op (.mov (.t 0)), (some (29, true))⟩, ⟨some 31, .op (.bin .leq (.t 30) (.c (.int .i64 30))), (some (29, true))⟩, ⟨some 32, .op (.pick (.t 29) (.t 31) (.c (.bool false))), none⟩, ⟨some 26, .op (.mov (.t 32)), none⟩]) (.cond (.t 26) (.seq (.ops [⟨some 2, .op (.mov (.c (.string ⟨#[101]⟩))), none⟩]) .ret) .skip))))) (.seq (.ops [⟨some 2, .op (.mov (.c (.string ⟨#[]⟩))), none⟩]) .ret)))), [.tmp 2]⟩
def C30L0 : IC := (.seq (.ops [⟨some 8, .op (.bin .lss (.t 7) (.t 6)), none⟩]) (.seq (.cond (.t 8) .skip (.exit 0)) (.seq (.block 1 (.seq (.ops [⟨some 9, .op (.iaddr (.sl 1) (.t 5) (.t 7)), none⟩, ⟨some 10, .op (.load none (.t 9)), none⟩, ⟨some 4, .op (.mov (.t 10)), none⟩]) (.seq (.ops [⟨some 11, .op (.mov (.t 0)), none⟩, ⟨some 12, .op (.mov (.t 4)), none⟩, ⟨some 13, .op (.bin .eql (.t 11) (.t 12)), none⟩]) (.cond (.t 13) (.seq (.ops [⟨some 2, .op (.mov (.c (.bool true))), none⟩]) .ret) .skip)))) (.ops [⟨some 14, .op (.bin .add (.t 7) (.c (.int .i64 1))), none⟩, ⟨some 7, .op (.mov (.t 14)), none⟩])))) def C30 : IFn := ⟨15, (.seq (.ops [⟨some 2, .op (.mov (.c (.bool false))), none⟩]) (.seq (.seq (.ops [⟨some 5, .op (.lit 1 14 [.string ⟨#[]⟩, .string ⟨#[]⟩, .string ⟨#[]⟩, .string ⟨#[]⟩, .string ⟨#[]⟩, .string ⟨#[]⟩, .string ⟨#[]⟩, .string ⟨#[]⟩, .string ⟨#[]⟩, .string ⟨#[]⟩, .string ⟨#[]⟩, .string ⟨#[]⟩, .string ⟨#[]⟩, .string ⟨#[]⟩] [(0, 1, .c (.string ⟨#[43]⟩)), (1, 1, .c (.string ⟨#[45]⟩)), (2, 1, .c (.string ⟨#[42]⟩)), (3, 1, .c (.string ⟨#[47]⟩)), (4, 1, .c (.string ⟨#[37]⟩)), (5, 1, .c (.string ⟨#[60, 60]⟩)), (6, 1, .c (.string ⟨#[62, 62]⟩)), (7, 1, .c (.string ⟨#[38]⟩)), (8, 1, .c (.string ⟨#[94]⟩)), (9, 1, .c (.string ⟨#[124]⟩)), (10, 1, .c (.string ⟨#[61, 61]⟩)), (11, 1, .c (.string ⟨#[33, 61]⟩)), (12, 1, .c (.string ⟨#[60]⟩)), (13, 1, .c (.string ⟨#[60, 61]⟩))]), none⟩, ⟨some 6, .op (.len .sl (.t 5)), none⟩, ⟨some 7, .op (.mov (.c (.int .i64 0))), none⟩]) (.block 0 (.loop C30L0))) (.seq (.ops [⟨some 2, .op (.mov (.c (.bool false))), none⟩]) .ret))), [.tmp 2]⟩
def C31L0 : IC := (.seq (.ops [⟨some 10, .op (.bin .lss (.t 9) (.t 8)), none⟩]) (.seq (.cond (.t 10) .skip (.exit 0)) (.seq (.block 1 (.seq (.ops [⟨some 11, .op (.iaddr (.sl 1) (.t 7) (.t 9)), none⟩, ⟨some 12, .op (.load none (.t 11)), none⟩, ⟨some 6, .op (.mov (.t 12)), none⟩]) (.seq (.ops [⟨some 13, .op (.mov (.t 6)), none⟩, ⟨some 14, .op (.mov (.t 1)), none⟩, ⟨some 15, .op (.bin .neq (.t 13) (.t 14)), none⟩]) (.cond (.t 15) (.seq (.ops [⟨some 4, .op (.mov (.c (.bool false))), none⟩]) .ret) .skip)))) (.ops [⟨some 16, .op (.bin .add (.t 9) (.c (.int .i64 1))), none⟩, ⟨some 9, .op (.mov (.t 16)), none⟩])))) def C31 : IFn := ⟨17, (.seq (.ops [⟨some 4, .op (.mov (.c (.bool false))), none⟩]) (.seq (.seq (.ops [⟨some 7, .op (.mov (.t 0)), none⟩, ⟨some 8, .op (.len .sl (.t 7)), none⟩, ⟨some 9, .op (.mov (.c (.int .i64 0))), none⟩]) (.block 0 (.loop C31L0))) (.seq (.ops [⟨some 4, .op (.mov (.c (.bool true))), none⟩]) .ret))), [.tmp 4]⟩
def C32 : IFn := ⟨9, (.seq (.ops [⟨some 2, .op (.mov (.c (.bool false))), none⟩]) (.seq (.ops [⟨some 3, .op (.mov (.t 0)), none⟩, ⟨some 4, .op (.bin .geq (.t 3) (.c (.int .i64 5))), none⟩, ⟨some 5, .op (.mov (.t 4)), none⟩, ⟨some 6, .op (.mov (.t 0)), (some (5, true))⟩, ⟨some 7, .op (.bin .leq (.t 6) (.c (.int .i64 13))), (some (5, true))⟩, ⟨some 8, .op (.pick (.t 5) (.t 7) (.c (.bool false))), none⟩, ⟨some 2, .op (.mov (.t 8)), none⟩]) .ret)), [.tmp 2]⟩
def C33L0 : IC := (.seq (.ops [⟨some 10, .op (.bin .lss (.t 9) (.t 8)), none⟩]) (.seq (.cond (.t 10) .skip (.exit 0)) (.seq (.block 1 (.seq (.ops [⟨some 11, .op (.iaddr (.sl 1) (.t 7) (.t 9)), none⟩, ⟨some 12, .op (.load none (.t 11)), none⟩, ⟨some 6, .op (.mov (.t 12)), none⟩]) (.seq (.ops [⟨some 13, .op (.mov (.t 6)), none⟩, ⟨some 14, .call 34 [.t 13], none⟩, ⟨some 15, .op (.un .not (.t 14)), none⟩]) (.cond (.t 15) (.seq (.ops [⟨some 4, .op (.mov (.c (.bool false))), none⟩]) .ret) .skip)))) (.ops [⟨some 16, .op (.bin .add (.t 9) (.c (.int .i64 1))), none⟩, ⟨some 9, .op (.mov (.t 16)), none⟩])))) def C33 : IFn := ⟨21, (.seq (.ops [⟨some 4, .op (.mov (.c (.bool false))), none⟩]) (.seq (.seq (.ops [⟨some 7, .op (.mov (.t 0)), none⟩, ⟨some 8, .op (.len .sl (.t 7)), none⟩, ⟨some 9, .op (.mov (.c (.int .i64 0))), none⟩]) (.block 0 (.loop C33L0))) (.seq (.ops [⟨some 17, .op (.mov (.t 0)), none⟩, ⟨some 18, .op (.len .sl (.t 17)), none⟩, ⟨some 19, .op (.mov (.t 1)), none⟩, ⟨some 20, .op (.bin .eql (.t 18) (.t 19)), none⟩, ⟨some 4, .op (.mov (.t 20)), none⟩]) .ret))), [.tmp 4]⟩
def C34 : IFn := ⟨9, (.seq (.ops [⟨some 2, .op (.mov (.c (.bool false))), none⟩]) (.seq (.ops [⟨some 3, .op (.mov (.t 0)), none⟩, ⟨some 4, .op (.bin .geq (.t 3) (.c (.int .i64 15))), none⟩, ⟨some 5, .op (.mov (.t 4)), none⟩, ⟨some 6, .op (.mov (.t 0)), (some (5, true))⟩, ⟨some 7, .op (.bin .leq (.t 6) (.c (.int .i64 30))), (some (5, true))⟩, ⟨some 8, .op (.pick (.t 5) (.t 7) (.c (.bool false))), none⟩, ⟨some 2, .op (.mov (.t 8)), none⟩]) .ret)), [.tmp 2]⟩
end Go.Idl
end

section
namespace Go.Idl
variable {T : Tbl}
def opsL : List ByteArray := [⟨#[43]⟩, ⟨#[45]⟩, ⟨#[42]⟩, ⟨#[47]⟩, ⟨#[37]⟩, ⟨#[60, 60]⟩, ⟨#[62, 62]⟩, ⟨#[38]⟩, ⟨#[94]⟩, ⟨#[124]⟩, ⟨#[61, 61]⟩, ⟨#[33, 61]⟩, ⟨#[60]⟩, ⟨#[60, 61]⟩]
def opB (s : ByteArray) : Bool := opsL.any fun w => decide (s = w)
theorem opB_of {s : ByteArray} (h : s ∈ opsL) : opB s = true := List.any_eq_true.2 ⟨s, h, decide_eq_true rfl⟩
theorem opB_no {s : ByteArray} (h : ∀ x ∈ opsL, s ≠ x) : opB s = false := by
  cases hb : opB s with
  | false => rfl
  | true =>
    obtain ⟨x, hx, he⟩ := List.any_eq_true.1 hb
    exact absurd (of_decide_eq_true he) (h x hx)
theorem operator_ok (hT : T.fn 30 = some C30) {s : ByteArray} {h : Heap} : Wk T (.fn 30) [.string s] h (fun o h' => Kept h h' ∧ o = .ret (.bool (opB s))) := by
  refine Wk_fn hT (by simp [C30]) ?_
  simp only [C30]
  refine Wc_seq (Wc_ops (Wo_run (fun call => by simp only [go_sem, seval]; rfl) ?_))
  show Wc T _ _ _
  refine Wc_seq (Wc_seq (Wc_ops (Wo_new (v := .slice (some ⟨h.next, 0, none⟩) 14 14) (B := .cells (opsL.flatMap strC) true 1) (by kernel_rfl) fun h1 n1 => (Wo_run (fun call => by simp only [go_sem, seval]; rfl) ?_))))
  show Wc T _ _ _
  have hv : strsAt h1 (.slice (some ⟨h.next, 0, none⟩) 14 14) opsL := ⟨.inr ⟨h.next, 14, rfl, by rw [n1.next]; omega, .inr ⟨true, 1, n1.get⟩⟩, fun _ _ => trivial⟩
  refine Wc_range 14 (fun j e h' d => d = some [] ∧ h' = h1 ∧ ∀ i, i < j → ∀ x, opsL[i]? = some x → s ≠ x) (by decide) (by simp only [upd, dstUpd, reduceIte, Nat.reduceEqDiff]) (by first | rfl | assumption) (by decide) (by decide) ⟨rfl, rfl, fun i hi => by omega⟩ ?_ ?_
  · rintro j e h' d hj ⟨rfl, hh, hne⟩ hfr h7 h6
    rw [hh]
    obtain ⟨x, hx⟩ : ∃ x, opsL[j]? = some x := ⟨_, List.getElem?_eq_getElem (by rw [show opsL.length = 14 from rfl]; exact hj)⟩
    obtain ⟨b, c, o, z, hvb, hb, hg, hcell⟩ := strsAt.load hv hx
    have e5 : e 5 = .slice (some ⟨h.next, 0, none⟩) 14 14 := ((hfr 5 (by decide)).trans (by first | rfl | assumption | (symm; assumption)))
    have e0 : e 0 = .string s := ((hfr 0 (by decide)).trans (by first | rfl | assumption | (symm; assumption)))
    cases hvb
    refine Wc_seq (Wc_ops (Wo_run (fun call => by simp only [go_sem, seval, h7, e5, idx_ok hj, hg, hcell]; rfl) ?_))
    show Wc T _ _ _
    refine Wc_seq (Wc_ops (Wo_run (fun call => by simp only [go_sem, seval, e0]; rfl) ?_))
    show Wc T _ _ _
    refine Wc_cond (decide (s = x)) (by first | rfl | assumption) (fun hd => ?_) (fun hd => Wc_skip ?_)
    · have hsx : s = x := by simpa using hd
      refine Wc_seq (Wc_ops (Wo_run (fun call => by simp only [go_sem, seval]; rfl) ?_))
      exact Wc_ret ⟨.inr rfl, rfl, [.bool true], by simp only [resAll, resV, upd, dstUpd, reduceIte, Nat.reduceEqDiff], n1.kept, by rw [opB_of (by rw [hsx]; exact List.mem_of_getElem? hx)]; rfl⟩
    · refine ⟨rfl, rfl, fun i hi y hy => ?_⟩
      rcases Nat.lt_or_eq_of_le (Nat.le_of_lt_succ hi) with h1 | h1
      · exact hne i h1 y hy
      · subst h1; rw [hx] at hy; cases hy; simpa using hd
  · rintro e h' d ⟨rfl, rfl, hne⟩ hfr h7
    show Wc T _ _ _
    refine Wc_seq (Wc_ops (Wo_run (fun call => by simp only [go_sem, seval]; rfl) ?_))
    refine Wc_ret ⟨.inr rfl, rfl, [.bool false], by simp only [resAll, resV, upd, dstUpd, reduceIte, Nat.reduceEqDiff], n1.kept, ?_⟩
    have : opB s = false := opB_no fun x hm => by
      obtain ⟨i, hi⟩ := List.getElem?_of_mem hm
      exact hne i (List.getElem?_eq_some_iff.1 hi).1 x hi
    rw [this]; rfl
structure intsR (h : Heap) (v : Value) (l : List Int) : Prop where
  len : ∃ a c, v = .slice a l.length c
  at' : ∀ (j : Nat) (k : Int), l[j]? = some k → ∃ b o c cs w z, v = .slice (some ⟨b, o, none⟩) l.length c ∧ b < h.next ∧ h.get b = some (.cells cs w z) ∧ cs[o + j * 1]? = some (.int .i64 k)
theorem intsR.keep {h h' : Heap} (hk : Kept h h') {v : Value} {l : List Int} (hh : intsR h v l) : intsR h' v l := ⟨hh.len, fun j k hj => by
  obtain ⟨b, o, c, cs, w, z, h1, h2, h3, h4⟩ := hh.at' j k hj
  exact ⟨b, o, c, cs, w, z, h1, Nat.lt_of_lt_of_le h2 hk.next, by rw [hk.get b h2]; exact h3, h4⟩⟩
theorem intsAt.r {h : Heap} {v : Value} {l : List Int} (hh : intsAt h v l) : intsR h v l := ⟨hh.len, fun j k hj => by
  obtain ⟨b, c, h1, h2, ⟨o, z, h3⟩, h4⟩ := hh.load hj
  exact ⟨b, 0, c, _, o, z, h1, h2, h3, h4⟩⟩
theorem all_ok (hT : T.fn 31 = some C31) {v : Value} {l : List Int} {k : Int} {h : Heap} (hv : intsR h v l) (hl : l.length < 9223372036854775807) : Wk T (.fn 31) [v, .int .i64 k] h (fun o h' => h' = h ∧ o = .ret (.bool (l.all fun x => x == k))) := by
  obtain ⟨va, vc, hvl⟩ := hv.len
  refine Wk_fn hT (by simp [C31]) ?_
  simp only [C31]
  refine Wc_seq (Wc_ops (Wo_run (fun call => by simp only [go_sem, seval]; rfl) ?_))
  show Wc T _ _ _
  refine Wc_seq (Wc_seq (Wc_ops (Wo_run (fun call => by simp only [go_sem, seval, hvl]; rfl) ?_)))
  show Wc T _ _ _
  refine Wc_range l.length (fun j e h' d => d = some [] ∧ h' = h ∧ ∀ i, i < j → ∀ x, l[i]? = some x → x = k) (by decide) (by first | rfl | assumption) (by first | rfl | assumption) hl (by decide) ⟨rfl, rfl, fun i hi => by omega⟩ ?_ ?_
  · rintro j e h' d hj ⟨rfl, hh, hok⟩ hfr h9 h8
    rw [hh]
    obtain ⟨x, hx⟩ : ∃ x, l[j]? = some x := ⟨_, List.getElem?_eq_getElem hj⟩
    obtain ⟨b, o, c, cs, w, z, hvb, hb, hg, hcell⟩ := hv.at' j x hx
    have e7 : e 7 = v := ((hfr 7 (by decide)).trans (by first | rfl | assumption | (symm; assumption)))
    have e1 : e 1 = .int .i64 k := ((hfr 1 (by decide)).trans (by first | rfl | assumption | (symm; assumption)))
    refine Wc_seq (Wc_ops (Wo_run (fun call => by simp only [go_sem, seval, h9, e7, hvb, idx_ok hj, hg, hcell]; rfl) ?_))
    show Wc T _ _ _
    refine Wc_seq (Wc_ops (Wo_run (fun call => by simp only [go_sem, seval, e1, bne]; rfl) ?_))
    show Wc T _ _ _
    cases hxk : (x == k)
    · refine Wc_cond true (by simp only [go_sem, seval, hxk] <;> first | rfl | assumption | (symm; assumption)) (fun _ => ?_) (fun e => by cases e)
      refine Wc_seq (Wc_ops (Wo_run (fun call => by simp only [go_sem, seval]; rfl) ?_))
      refine Wc_ret ⟨.inr rfl, rfl, [.bool false], by simp only [resAll, resV, upd, dstUpd, reduceIte, Nat.reduceEqDiff], rfl, ?_⟩
      have : (l.all fun x => x == k) = false := by
        cases ha : (l.all fun x => x == k) with
        | false => rfl
        | true => have := List.all_eq_true.1 ha x (List.mem_of_getElem? hx); rw [hxk] at this; cases this
      rw [this]; rfl
    · refine Wc_cond false (by simp only [go_sem, seval, hxk] <;> first | rfl | assumption | (symm; assumption)) (fun e => by cases e) (fun _ => Wc_skip ?_)
      refine ⟨rfl, rfl, fun i hi y hy => ?_⟩
      rcases Nat.lt_or_eq_of_le (Nat.le_of_lt_succ hi) with h1 | h1
      · exact hok i h1 y hy
      · subst h1; rw [hx] at hy; cases hy; exact beq_iff_eq.1 hxk
  · rintro e h' d ⟨rfl, rfl, hok⟩ hfr h9
    show Wc T _ _ _
    refine Wc_seq (Wc_ops (Wo_run (fun call => by simp only [go_sem, seval]; rfl) ?_))
    refine Wc_ret ⟨.inr rfl, rfl, [.bool true], by simp only [resAll, resV, upd, dstUpd, reduceIte, Nat.reduceEqDiff], rfl, ?_⟩
    have : (l.all fun x => x == k) = true := List.all_eq_true.2 fun x hx => by
      obtain ⟨i, hi⟩ := List.getElem?_of_mem hx
      exact beq_iff_eq.2 (hok i (List.getElem?_eq_some_iff.1 hi).1 x hi)
    rw [this]; rfl
def stmtB (k : Int) : Bool := decide (5 ≤ k ∧ k ≤ 13)
def exprB (k : Int) : Bool := decide (15 ≤ k ∧ k ≤ 30)
theorem stmtB_ok (hT : T.fn 32 = some C32) {k : Int} {h : Heap} : Wk T (.fn 32) [.int .i64 k] h (fun o h' => h' = h ∧ o = .ret (.bool (stmtB k))) := by
  refine Wk_fn hT (by simp [C32]) ?_
  simp only [C32]
  refine Wc_seq (Wc_ops (Wo_run (fun call => by simp only [go_sem, seval]; rfl) ?_))
  show Wc T _ _ _
  by_cases a1 : (5 : Int) ≤ k <;> by_cases a2 : k ≤ 13 <;> first
    | (exfalso; omega)
    | (refine Wc_seq (Wc_ops (Wo_run (fun call => by simp only [go_sem, seval, a1, a2]; rfl) ?_)); exact Wc_ret ⟨.inr rfl, rfl, [.bool (stmtB k)], by simp [resAll, resV, upd, dstUpd, stmtB, a1, a2], rfl, rfl⟩)
theorem exprB_ok (hT : T.fn 34 = some C34) {k : Int} {h : Heap} : Wk T (.fn 34) [.int .i64 k] h (fun o h' => h' = h ∧ o = .ret (.bool (exprB k))) := by
  refine Wk_fn hT (by simp [C34]) ?_
  simp only [C34]
  refine Wc_seq (Wc_ops (Wo_run (fun call => by simp only [go_sem, seval]; rfl) ?_))
  show Wc T _ _ _
  by_cases a1 : (15 : Int) ≤ k <;> by_cases a2 : k ≤ 30 <;> first
    | (exfalso; omega)
    | (refine Wc_seq (Wc_ops (Wo_run (fun call => by simp only [go_sem, seval, a1, a2]; rfl) ?_)); exact Wc_ret ⟨.inr rfl, rfl, [.bool (exprB k)], by simp [resAll, resV, upd, dstUpd, exprB, a1, a2], rfl, rfl⟩)
def exprsB (l : List Int) (n : Int) : Bool := l.all exprB && ((l.length : Int) == n)
theorem exprs_ok (hT : T.fn 33 = some C33) (he : T.fn 34 = some C34) {v : Value} {l : List Int} {n : Int} {h : Heap} (hv : intsR h v l) (hl : l.length < 9223372036854775807) : Wk T (.fn 33) [v, .int .i64 n] h (fun o h' => h' = h ∧ o = .ret (.bool (exprsB l n))) := by
  obtain ⟨va, vc, hvl⟩ := hv.len
  refine Wk_fn hT (by simp [C33]) ?_
  simp only [C33]
  refine Wc_seq (Wc_ops (Wo_run (fun call => by simp only [go_sem, seval]; rfl) ?_))
  show Wc T _ _ _
  refine Wc_seq (Wc_seq (Wc_ops (Wo_run (fun call => by simp only [go_sem, seval, hvl]; rfl) ?_)))
  show Wc T _ _ _
  refine Wc_range l.length (fun j e h' d => d = some [] ∧ h' = h ∧ ∀ i, i < j → ∀ x, l[i]? = some x → exprB x = true) (by decide) (by first | rfl | assumption) (by first | rfl | assumption) hl (by decide) ⟨rfl, rfl, fun i hi => by omega⟩ ?_ ?_
  · rintro j e h' d hj ⟨rfl, hh, hok⟩ hfr h9 h8
    rw [hh]
    obtain ⟨x, hx⟩ : ∃ x, l[j]? = some x := ⟨_, List.getElem?_eq_getElem hj⟩
    obtain ⟨b, o, c, cs, w, z, hvb, hb, hg, hcell⟩ := hv.at' j x hx
    have e7 : e 7 = v := ((hfr 7 (by decide)).trans (by first | rfl | assumption | (symm; assumption)))
    refine Wc_seq (Wc_ops (Wo_run (fun call => by simp only [go_sem, seval, h9, e7, hvb, idx_ok hj, hg, hcell]; rfl) ?_))
    show Wc T _ _ _
    refine Wc_seq (Wc_ops (Wo_pre 1 (fun call => by simp only [go_sem, seval]; rfl) ?_))
    refine Wo_call (Wk_pure (exprB_ok he) ?_)
    refine (Wo_run (fun call => by simp only [go_sem, seval]; rfl) ?_)
    show Wc T _ _ _
    cases hxk : exprB x
    · refine Wc_cond true (by simp only [go_sem, seval, hxk] <;> first | rfl | assumption | (symm; assumption)) (fun _ => ?_) (fun e => by cases e)
      refine Wc_seq (Wc_ops (Wo_run (fun call => by simp only [go_sem, seval]; rfl) ?_))
      refine Wc_ret ⟨.inr rfl, rfl, [.bool false], by simp only [resAll, resV, upd, dstUpd, reduceIte, Nat.reduceEqDiff], rfl, ?_⟩
      have : l.all exprB = false := by
        cases ha : l.all exprB with
        | false => rfl
        | true => have := List.all_eq_true.1 ha x (List.mem_of_getElem? hx); rw [hxk] at this; cases this
      rw [exprsB, this]; rfl
    · refine Wc_cond false (by simp only [go_sem, seval, hxk] <;> first | rfl | assumption | (symm; assumption)) (fun e => by cases e) (fun _ => Wc_skip ?_)
      refine ⟨rfl, rfl, fun i hi y hy => ?_⟩
      rcases Nat.lt_or_eq_of_le (Nat.le_of_lt_succ hi) with h1 | h1
      · exact hok i h1 y hy
      · subst h1; rw [hx] at hy; cases hy; exact hxk
  · rintro e h' d ⟨rfl, rfl, hok⟩ hfr h9
    have e0 : e 0 = v := ((hfr 0 (by decide)).trans (by first | rfl | assumption | (symm; assumption)))
    have e1 : e 1 = .int .i64 n := ((hfr 1 (by decide)).trans (by first | rfl | assumption | (symm; assumption)))
    show Wc T _ _ _
    refine Wc_seq (Wc_ops (Wo_run (fun call => by simp only [go_sem, seval, e0, e1, hvl]; rfl) ?_))
    refine Wc_ret ⟨.inr rfl, rfl, [.bool ((l.length : Int) == n)], by simp only [resAll, resV, upd, dstUpd, reduceIte, Nat.reduceEqDiff], rfl, ?_⟩
    have : l.all exprB = true := List.all_eq_true.2 fun x hx => by
      obtain ⟨i, hi⟩ := List.getElem?_of_mem hx
      exact hok i (List.getElem?_eq_some_iff.1 hi).1 x hi
    rw [exprsB, this]; rfl
end Go.Idl
end

section
namespace Go.Idl
variable {T : Tbl}
def mem10 (k : Int) : Bool := decide (k = 5 ∨ k = 9 ∨ k = 10 ∨ k = 11 ∨ k = 18 ∨ k = 20 ∨ k = 24 ∨ k = 25 ∨ k = 27 ∨ k = 29)
def mem8 (k : Int) : Bool := decide (k = 14 ∨ k = 15 ∨ k = 16 ∨ k = 17 ∨ k = 23 ∨ k = 26 ∨ k = 28 ∨ k = 30)
def shapeB (kind : Int) (ks : List Int) : Bool :=
  if kind = 1 then ks.all fun k => k == 2 || k == 3
  else if kind = 2 ∨ kind = 13 then ks.all fun k => k == 17
  else if kind = 3 then decide (0 < ks.length) && ((ks.take (ks.length - 1)).all fun k => k == 17) && (ks.getD (ks.length - 1) 0 == 4)
  else if kind = 4 then ks.all stmtB
  else if mem10 kind then exprsB ks 1
  else if kind = 6 then exprsB ks 2 && (ks.getD 0 0 == 17 || ks.getD 0 0 == 20 || ks.getD 0 0 == 21 || ks.getD 0 0 == 30)
  else if kind = 7 then decide (ks.length = 3) && exprB (ks.getD 0 0) && (ks.getD 1 0 == 4) && (ks.getD 2 0 == 4 || ks.getD 2 0 == 14)
  else if kind = 8 then decide (ks.length = 2) && exprB (ks.getD 0 0) && (ks.getD 1 0 == 4)
  else if kind = 12 then decide (ks.length = 1) && (ks.getD 0 0 == 22)
  else if kind = 19 ∨ kind = 21 then exprsB ks 2
  else if kind = 22 then exprsB ks ks.length
  else if mem8 kind then decide (ks.length = 0)
  else false
theorem len_eq {n a : Nat} : (((n : Nat) : Int) == ((a : Nat) : Int)) = decide (n = a) := by rw [Bool.beq_eq_decide_eq, decide_eq_decide]; omega
theorem intsR.ge {h : Heap} {v : Value} {l : List Int} (hv : intsR h v l) {j : Nat} (hj : j < l.length) : ∃ b o c cs w z, v = .slice (some ⟨b, o, none⟩) l.length c ∧ b < h.next ∧ h.get b = some (.cells cs w z) ∧ cs[o + j * 1]? = some (.int .i64 (l.getD j 0)) := by
  have := hv.at' j _ (List.getElem?_eq_getElem hj)
  simpa [List.getD_eq_getElem?_getD, List.getElem?_eq_getElem hj] using this
theorem intsR.sub {h : Heap} {b o c : Nat} {l : List Int} (hv : intsR h (.slice (some ⟨b, o, none⟩) l.length c) l) {m : Nat} (hm : m ≤ l.length) : intsR h (subSl 1 l.length c 0 m none (some ⟨b, o, none⟩)) (l.take m) := by
  have hlen : (l.take m).length = m := by rw [List.length_take]; omega
  refine ⟨⟨_, _, by simp only [subSl, hlen]; rfl⟩, fun j k hj => ?_⟩
  have hjm : j < m := by have := (List.getElem?_eq_some_iff.1 hj).1; omega
  obtain ⟨b', o', c', cs, w, z, h1, h2, h3, h4⟩ := hv.at' j k (by rw [← hj, List.getElem?_take, if_pos hjm])
  simp only [Value.slice.injEq, Option.some.injEq, Addr.mk.injEq] at h1
  obtain ⟨⟨rfl, rfl, _⟩, _, rfl⟩ := h1
  refine ⟨b, o, (if c = l.length ∧ m = l.length then m - 0 else m - 0 + 1), cs, w, z, ?_, h2, h3, h4⟩
  rw [hlen]
  simp only [subSl, Option.map_some, Nat.zero_mul, Nat.add_zero, Nat.sub_zero]
theorem shape_ok (hT : T.fn 15 = some C15) (hall : T.fn 31 = some C31) (hex : T.fn 33 = some C33) (hE : T.fn 34 = some C34) (hS : T.fn 32 = some C32)
    {v : Value} {ks : List Int} {kind : Int} {h : Heap} (hv : intsR h v ks) (hl : ks.length < 9223372036854775807) (hsz : ∀ a n c, v = .slice (some a) n c → okSz h a.block 1 = true) :
    Wk T (.fn 15) [.int .i64 kind, v] h (fun o h' => h' = h ∧ o = .ret (.bool (shapeB kind ks))) := by
  obtain ⟨va, vc, hvl⟩ := hv.len
  refine Wk_fn hT (by simp [C15]) ?_
  simp only [C15]
  have fin : ∀ (e : Env) (x : Ex) (b : Bool), (x = .normal ∨ x = .ret) → e 4 = .bool b → shapeB kind ks = b → (x = .normal ∨ x = .ret) ∧ some ([] : List Dfr) = some [] ∧ ∃ vs, resAll e h [.tmp 4] = some vs ∧ h = h ∧ Out.ret (tup vs) = .ret (.bool (shapeB kind ks)) := fun e x b hx h4 hb =>
    ⟨hx, rfl, [.bool b], by simp only [resAll, resV, h4], rfl, by rw [hb]; rfl⟩
  refine Wc_seq (Wc_ops (Wo_run (fun call => by simp only [go_sem, seval]; rfl) ?_))
  show Wc T _ _ _
  refine Wc_seq (Wc_ops (Wo_run (fun call => by simp only [go_sem, seval, hvl]; rfl) ?_))
  show Wc T _ _ _
  refine Wc_seq (Wc_seq (Wc_ops (Wo_run (fun call => by simp only [go_sem, seval]; rfl) ?_)))
  show Wc T _ _ _
  have h0 : ∃ e : Env, e = (upd (upd (upd (upd (upd (args0 [.int .i64 kind, v]) 4 (.bool false)) 10 v) 11 (.int .i64 ks.length)) 5 (.int .i64 ks.length)) 12 (.int .i64 kind)) ∧ e 0 = .int .i64 kind ∧ e 1 = v ∧ e 5 = .int .i64 ks.length ∧ e 12 = .int .i64 kind := ⟨_, rfl, (by first | rfl | assumption), (by first | rfl | assumption), (by first | rfl | assumption), (by first | rfl | assumption)⟩
  obtain ⟨e, he, g0, g1, g5, g12⟩ := h0
  rw [← hvl, ← he]
  refine Wc_block ?_
  refine Wc_case g12 (fun y1 => ?_) (fun n1 => ?_)
  · refine Wc_seq (Wc_seq (Wc_ops (Wo_run (fun call => by simp only [go_sem, seval, g1, hvl]; rfl) ?_)))
    show Wc T _ _ _
    refine Wc_range ks.length (fun j e h' d => d = some [] ∧ h' = h ∧ ∀ i, i < j → ∀ x, ks[i]? = some x → (x == 2 || x == 3) = true) (by decide) (by first | rfl | assumption) (by first | rfl | assumption) hl (by decide) ⟨rfl, rfl, fun i hi => by omega⟩ ?_ ?_
    · rintro j e' h' d hj ⟨rfl, hh, hok⟩ hfr h17 h16
      rw [hh]
      obtain ⟨x, hx⟩ : ∃ x, ks[j]? = some x := ⟨_, List.getElem?_eq_getElem hj⟩
      obtain ⟨b, o, c, cs, w, z, hvb, hb, hg, hcell⟩ := hv.at' j x hx
      have e15 : e' 15 = v := ((hfr 15 (by decide)).trans (by first | rfl | assumption | (symm; assumption)))
      refine Wc_seq (Wc_ops (Wo_run (fun call => by simp only [go_sem, seval, h17, e15, hvb, idx_ok hj, hg, hcell]; rfl) ?_))
      show Wc T _ _ _
      have bad : (x == 2 || x == 3) = false → shapeB kind ks = false := fun hb => by
        rw [shapeB, if_pos y1]
        cases ha : (ks.all fun k => k == 2 || k == 3) with
        | false => rfl
        | true => have := List.all_eq_true.1 ha x (List.mem_of_getElem? hx); rw [hb] at this; cases this
      have good : (x == 2 || x == 3) = true → ∀ i, i < j + 1 → ∀ x, ks[i]? = some x → (x == 2 || x == 3) = true := fun hg i hi y hy => by
        rcases Nat.lt_or_eq_of_le (Nat.le_of_lt_succ hi) with h1 | h1
        · exact hok i h1 y hy
        · subst h1; rw [hx] at hy; cases hy; exact hg
      cases x2 : (x == 2)
      · cases x3 : (x == 3)
        · refine Wc_seq (Wc_ops (Wo_run (fun call => by simp only [go_sem, seval, bne, x2, x3]; rfl) ?_))
          show Wc T _ _ _
          refine Wc_cond true (by first | rfl | assumption) (fun _ => ?_) (fun e => by cases e)
          refine Wc_seq (Wc_ops (Wo_run (fun call => by simp only [go_sem, seval]; rfl) ?_))
          exact Wc_ret (fin _ _ false (.inr rfl) (by first | rfl | assumption) (bad (by rw [x2, x3]; rfl)))
        · refine Wc_seq (Wc_ops (Wo_run (fun call => by simp only [go_sem, seval, bne, x2, x3]; rfl) ?_))
          show Wc T _ _ _
          refine Wc_cond false (by first | rfl | assumption) (fun e => by cases e) (fun _ => Wc_skip ⟨rfl, rfl, good (by rw [x2, x3]; rfl)⟩)
      · refine Wc_seq (Wc_ops (Wo_run (fun call => by simp only [go_sem, seval, bne, x2]; rfl) ?_))
        show Wc T _ _ _
        refine Wc_cond false (by first | rfl | assumption) (fun e => by cases e) (fun _ => Wc_skip ⟨rfl, rfl, good (by rw [x2]; rfl)⟩)
    · rintro e' h' d ⟨rfl, hh, hok⟩ hfr h17
      rw [hh]
      show Wc T _ _ _
      refine Wc_seq (Wc_ops (Wo_run (fun call => by simp only [go_sem, seval]; rfl) ?_))
      refine Wc_ret (fin _ _ true (.inr rfl) (by first | rfl | assumption) ?_)
      rw [shapeB, if_pos y1]
      exact List.all_eq_true.2 fun x hx => by
        obtain ⟨i, hi⟩ := List.getElem?_of_mem hx
        exact hok i (List.getElem?_eq_some_iff.1 hi).1 x hi
  refine Wc_mid (fun s' => s'.d = some [] ∧ s'.h = h ∧ s'.e 0 = .int .i64 kind ∧ s'.e 1 = v ∧ s'.e 5 = .int .i64 ks.length ∧ s'.e 12 = .int .i64 kind ∧ s'.e 28 = .bool (decide (kind = 2 ∨ kind = 13))) ?_ ?_
  · clear fin
    refine Wc_case (by simp only [go_sem, seval, g12] <;> first | rfl | assumption | (symm; assumption)) (fun y => Wc_skip ⟨rfl, rfl, (by simp only [go_sem, seval, g0] <;> first | rfl | assumption | (symm; assumption)), (by simp only [go_sem, seval, g1] <;> first | rfl | assumption | (symm; assumption)), (by simp only [go_sem, seval, g5] <;> first | rfl | assumption | (symm; assumption)), (by simp only [go_sem, seval, g12] <;> first | rfl | assumption | (symm; assumption)), by simp only [upd, dstUpd, reduceIte, Nat.reduceEqDiff, y, true_or, or_true, decide_true]⟩) (fun m0 => ?_)
    refine Wc_ops (Wo_run (fun call => by simp only [go_sem, seval, g12]; rfl) ?_)
    exact ⟨rfl, rfl, (by simp only [go_sem, seval, g0] <;> first | rfl | assumption | (symm; assumption)), (by simp only [go_sem, seval, g1] <;> first | rfl | assumption | (symm; assumption)), (by simp only [go_sem, seval, g5] <;> first | rfl | assumption | (symm; assumption)), (by simp only [go_sem, seval, g12] <;> first | rfl | assumption | (symm; assumption)), by simp only [upd, dstUpd, reduceIte, Nat.reduceEqDiff, Bool.beq_eq_decide_eq, m0, false_or]⟩
  rintro ⟨e, h', d⟩ ⟨hd, hh, g0, g1, g5, g12, g28⟩
  simp only at hd hh g0 g1 g5 g12 g28
  rw [hd, hh]
  refine Wc_cond _ g28 (fun y => ?_) (fun y => ?_)
  · have y := of_decide_eq_true y
    refine Wc_seq (Wc_ops (Wo_pre 1 (fun call => by simp only [go_sem, seval, g1]; rfl) ?_))
    refine Wo_call (Wk_pure (all_ok hall hv hl) ?_)
    refine (Wo_run (fun call => by simp only [go_sem, seval]; rfl) ?_)
    exact Wc_ret (fin _ _ _ (.inr rfl) (by first | rfl | assumption) (by rw [shapeB, if_neg n1, if_pos y]))
  have n2 := of_decide_eq_false y
  refine Wc_case g12 (fun y3 => ?_) (fun n3 => ?_)
  · have hsp : shapeB kind ks = (decide (0 < ks.length) && ((ks.take (ks.length - 1)).all fun k => k == 17) && (ks.getD (ks.length - 1) 0 == 4)) := by rw [shapeB, if_neg n1, if_neg n2, if_pos y3]
    by_cases hpos : 0 < ks.length
    case neg =>
      have z : ¬ ((0 : Int) < ((ks.length : Nat) : Int)) := by omega
      refine Wc_seq (Wc_ops (Wo_run (fun call => by simp only [go_sem, seval, g5, z]; rfl) ?_))
      exact Wc_ret (fin _ _ false (.inr rfl) (by first | rfl | assumption) (by rw [hsp, decide_eq_false hpos]; rfl))
    have z : ((0 : Int) < ((ks.length : Nat) : Int)) := by omega
    obtain ⟨b, o, c, cs, w, zz, hvb, hb, hg, hcell⟩ := hv.ge (show ks.length - 1 < ks.length by omega)
    have e1 : IntKind.i64.wrap (((ks.length : Nat) : Int) - 1) = ((ks.length - 1 : Nat) : Int) := by rw [wrap64] <;> omega
    have hbn : bndV 0 ks.length (.int .i64 ((ks.length - 1 : Nat) : Int)) = some (ks.length - 1) := bnd_ok (by omega) (by omega)
    have hok : okSz h b 1 = true := hsz _ _ _ hvb
    refine Wc_seq (Wc_ops (Wo_pre 7 (fun call => by simp only [go_sem, seval, g5, g1, z, e1, hvb, bndO, hbn, okSzO, hok, Option.isSome_none, Option.isNone_some, Bool.and_true, Bool.or_false, Option.getD_none, Bool.false_or]; rfl) ?_))
    refine Wo_take (by simp only [upd, dstUpd, reduceIte, Nat.reduceEqDiff, gval_bool]; rfl) (Wo_call (Wk_pure (all_ok hall (l := ks.take (ks.length - 1)) (by rw [hvb] at hv; exact hv.sub (by omega)) (by rw [List.length_take]; omega)) ?_))
    cases ha : ((ks.take (ks.length - 1)).all fun k => k == 17)
    · refine (Wo_run (fun call => by simp only [go_sem, seval, ha]; rfl) ?_)
      exact Wc_ret (fin _ _ false (.inr rfl) (by first | rfl | assumption) (by rw [hsp, ha, Bool.and_false]; rfl))
    refine (Wo_run (fun call => by simp only [go_sem, seval, ha, g1, g5, e1, hvb, idx_ok (show ks.length - 1 < ks.length by omega), hg, hcell]; rfl) ?_)
    exact Wc_ret (fin _ _ _ (.inr rfl) (by first | rfl | assumption) (by rw [hsp, ha, decide_eq_true hpos, Bool.true_and, Bool.true_and]))
  refine Wc_case (by simp only [go_sem, seval, g12] <;> first | rfl | assumption | (symm; assumption)) (fun y4 => ?_) (fun n4 => ?_)
  · have hsp : shapeB kind ks = ks.all stmtB := by rw [shapeB, if_neg n1, if_neg n2, if_neg n3, if_pos y4]
    refine Wc_seq (Wc_seq (Wc_ops (Wo_run (fun call => by simp only [go_sem, seval, g1, hvl]; rfl) ?_)))
    show Wc T _ _ _
    refine Wc_range ks.length (fun j e h' d => d = some [] ∧ h' = h ∧ ∀ i, i < j → ∀ x, ks[i]? = some x → stmtB x = true) (by decide) (by first | rfl | assumption) (by first | rfl | assumption) hl (by decide) ⟨rfl, rfl, fun i hi => by omega⟩ ?_ ?_
    · rintro j e' h' d hj ⟨rfl, hh, hok⟩ hfr h56 h55
      rw [hh]
      obtain ⟨x, hx⟩ : ∃ x, ks[j]? = some x := ⟨_, List.getElem?_eq_getElem hj⟩
      obtain ⟨b, o, c, cs, w, z, hvb, hb, hg, hcell⟩ := hv.at' j x hx
      have e54 : e' 54 = v := ((hfr 54 (by decide)).trans (by first | rfl | assumption | (symm; assumption)))
      refine Wc_seq (Wc_ops (Wo_run (fun call => by simp only [go_sem, seval, h56, e54, hvb, idx_ok hj, hg, hcell]; rfl) ?_))
      show Wc T _ _ _
      refine Wc_seq (Wc_ops (Wo_pre 1 (fun call => by simp only [go_sem, seval]; rfl) ?_))
      refine Wo_call (Wk_pure (stmtB_ok hS) ?_)
      refine (Wo_run (fun call => by simp only [go_sem, seval]; rfl) ?_)
      show Wc T _ _ _
      cases hxk : stmtB x
      · refine Wc_cond true (by simp only [go_sem, seval, hxk] <;> first | rfl | assumption | (symm; assumption)) (fun _ => ?_) (fun e => by cases e)
        refine Wc_seq (Wc_ops (Wo_run (fun call => by simp only [go_sem, seval]; rfl) ?_))
        refine Wc_ret (fin _ _ false (.inr rfl) (by first | rfl | assumption) ?_)
        rw [hsp]
        cases ha : ks.all stmtB with
        | false => rfl
        | true => have := List.all_eq_true.1 ha x (List.mem_of_getElem? hx); rw [hxk] at this; cases this
      · refine Wc_cond false (by simp only [go_sem, seval, hxk] <;> first | rfl | assumption | (symm; assumption)) (fun e => by cases e) (fun _ => Wc_skip ⟨rfl, rfl, fun i hi y hy => ?_⟩)
        rcases Nat.lt_or_eq_of_le (Nat.le_of_lt_succ hi) with h1 | h1
        · exact hok i h1 y hy
        · subst h1; rw [hx] at hy; cases hy; exact hxk
    · rintro e' h' d ⟨rfl, hh, hok⟩ hfr h56
      rw [hh]
      show Wc T _ _ _
      refine Wc_seq (Wc_ops (Wo_run (fun call => by simp only [go_sem, seval]; rfl) ?_))
      refine Wc_ret (fin _ _ true (.inr rfl) (by first | rfl | assumption) ?_)
      rw [hsp]
      exact List.all_eq_true.2 fun x hx => by
        obtain ⟨i, hi⟩ := List.getElem?_of_mem hx
        exact hok i (List.getElem?_eq_some_iff.1 hi).1 x hi
  refine Wc_mid (fun s' => s'.d = some [] ∧ s'.h = h ∧ s'.e 0 = .int .i64 kind ∧ s'.e 1 = v ∧ s'.e 5 = .int .i64 ks.length ∧ s'.e 12 = .int .i64 kind ∧ s'.e 64 = .bool (mem10 kind)) ?_ ?_
  · clear fin
    refine Wc_case (by simp only [go_sem, seval, g12] <;> first | rfl | assumption | (symm; assumption)) (fun y => Wc_skip ⟨rfl, rfl, (by simp only [go_sem, seval, g0] <;> first | rfl | assumption | (symm; assumption)), (by simp only [go_sem, seval, g1] <;> first | rfl | assumption | (symm; assumption)), (by simp only [go_sem, seval, g5] <;> first | rfl | assumption | (symm; assumption)), (by simp only [go_sem, seval, g12] <;> first | rfl | assumption | (symm; assumption)), by simp only [upd, dstUpd, reduceIte, Nat.reduceEqDiff, mem10, mem8, y, true_or, or_true, decide_true]; try rfl⟩) (fun m0 => ?_)
    refine Wc_case (by simp only [go_sem, seval, g12] <;> first | rfl | assumption | (symm; assumption)) (fun y => Wc_skip ⟨rfl, rfl, (by simp only [go_sem, seval, g0] <;> first | rfl | assumption | (symm; assumption)), (by simp only [go_sem, seval, g1] <;> first | rfl | assumption | (symm; assumption)), (by simp only [go_sem, seval, g5] <;> first | rfl | assumption | (symm; assumption)), (by simp only [go_sem, seval, g12] <;> first | rfl | assumption | (symm; assumption)), by simp only [upd, dstUpd, reduceIte, Nat.reduceEqDiff, mem10, mem8, y, true_or, or_true, decide_true]; try rfl⟩) (fun m1 => ?_)
    refine Wc_case (by simp only [go_sem, seval, g12] <;> first | rfl | assumption | (symm; assumption)) (fun y => Wc_skip ⟨rfl, rfl, (by simp only [go_sem, seval, g0] <;> first | rfl | assumption | (symm; assumption)), (by simp only [go_sem, seval, g1] <;> first | rfl | assumption | (symm; assumption)), (by simp only [go_sem, seval, g5] <;> first | rfl | assumption | (symm; assumption)), (by simp only [go_sem, seval, g12] <;> first | rfl | assumption | (symm; assumption)), by simp only [upd, dstUpd, reduceIte, Nat.reduceEqDiff, mem10, mem8, y, true_or, or_true, decide_true]; try rfl⟩) (fun m2 => ?_)
    refine Wc_case (by simp only [go_sem, seval, g12] <;> first | rfl | assumption | (symm; assumption)) (fun y => Wc_skip ⟨rfl, rfl, (by simp only [go_sem, seval, g0] <;> first | rfl | assumption | (symm; assumption)), (by simp only [go_sem, seval, g1] <;> first | rfl | assumption | (symm; assumption)), (by simp only [go_sem, seval, g5] <;> first | rfl | assumption | (symm; assumption)), (by simp only [go_sem, seval, g12] <;> first | rfl | assumption | (symm; assumption)), by simp only [upd, dstUpd, reduceIte, Nat.reduceEqDiff, mem10, mem8, y, true_or, or_true, decide_true]; try rfl⟩) (fun m3 => ?_)
    refine Wc_case (by simp only [go_sem, seval, g12] <;> first | rfl | assumption | (symm; assumption)) (fun y => Wc_skip ⟨rfl, rfl, (by simp only [go_sem, seval, g0] <;> first | rfl | assumption | (symm; assumption)), (by simp only [go_sem, seval, g1] <;> first | rfl | assumption | (symm; assumption)), (by simp only [go_sem, seval, g5] <;> first | rfl | assumption | (symm; assumption)), (by simp only [go_sem, seval, g12] <;> first | rfl | assumption | (symm; assumption)), by simp only [upd, dstUpd, reduceIte, Nat.reduceEqDiff, mem10, mem8, y, true_or, or_true, decide_true]; try rfl⟩) (fun m4 => ?_)
    refine Wc_case (by simp only [go_sem, seval, g12] <;> first | rfl | assumption | (symm; assumption)) (fun y => Wc_skip ⟨rfl, rfl, (by simp only [go_sem, seval, g0] <;> first | rfl | assumption | (symm; assumption)), (by simp only [go_sem, seval, g1] <;> first | rfl | assumption | (symm; assumption)), (by simp only [go_sem, seval, g5] <;> first | rfl | assumption | (symm; assumption)), (by simp only [go_sem, seval, g12] <;> first | rfl | assumption | (symm; assumption)), by simp only [upd, dstUpd, reduceIte, Nat.reduceEqDiff, mem10, mem8, y, true_or, or_true, decide_true]; try rfl⟩) (fun m5 => ?_)
    refine Wc_case (by simp only [go_sem, seval, g12] <;> first | rfl | assumption | (symm; assumption)) (fun y => Wc_skip ⟨rfl, rfl, (by simp only [go_sem, seval, g0] <;> first | rfl | assumption | (symm; assumption)), (by simp only [go_sem, seval, g1] <;> first | rfl | assumption | (symm; assumption)), (by simp only [go_sem, seval, g5] <;> first | rfl | assumption | (symm; assumption)), (by simp only [go_sem, seval, g12] <;> first | rfl | assumption | (symm; assumption)), by simp only [upd, dstUpd, reduceIte, Nat.reduceEqDiff, mem10, mem8, y, true_or, or_true, decide_true]; try rfl⟩) (fun m6 => ?_)
    refine Wc_case (by simp only [go_sem, seval, g12] <;> first | rfl | assumption | (symm; assumption)) (fun y => Wc_skip ⟨rfl, rfl, (by simp only [go_sem, seval, g0] <;> first | rfl | assumption | (symm; assumption)), (by simp only [go_sem, seval, g1] <;> first | rfl | assumption | (symm; assumption)), (by simp only [go_sem, seval, g5] <;> first | rfl | assumption | (symm; assumption)), (by simp only [go_sem, seval, g12] <;> first | rfl | assumption | (symm; assumption)), by simp only [upd, dstUpd, reduceIte, Nat.reduceEqDiff, mem10, mem8, y, true_or, or_true, decide_true]; try rfl⟩) (fun m7 => ?_)
    refine Wc_case (by simp only [go_sem, seval, g12] <;> first | rfl | assumption | (symm; assumption)) (fun y => Wc_skip ⟨rfl, rfl, (by simp only [go_sem, seval, g0] <;> first | rfl | assumption | (symm; assumption)), (by simp only [go_sem, seval, g1] <;> first | rfl | assumption | (symm; assumption)), (by simp only [go_sem, seval, g5] <;> first | rfl | assumption | (symm; assumption)), (by simp only [go_sem, seval, g12] <;> first | rfl | assumption | (symm; assumption)), by simp only [upd, dstUpd, reduceIte, Nat.reduceEqDiff, mem10, mem8, y, true_or, or_true, decide_true]; try rfl⟩) (fun m8 => ?_)
    refine Wc_ops (Wo_run (fun call => by simp only [go_sem, seval, g12]; rfl) ?_)
    exact ⟨rfl, rfl, (by simp only [go_sem, seval, g0] <;> first | rfl | assumption | (symm; assumption)), (by simp only [go_sem, seval, g1] <;> first | rfl | assumption | (symm; assumption)), (by simp only [go_sem, seval, g5] <;> first | rfl | assumption | (symm; assumption)), (by simp only [go_sem, seval, g12] <;> first | rfl | assumption | (symm; assumption)), by simp only [upd, dstUpd, reduceIte, Nat.reduceEqDiff, Bool.beq_eq_decide_eq, mem10, mem8, m0, m1, m2, m3, m4, m5, m6, m7, m8, false_or]⟩
  rintro ⟨e, h', d⟩ ⟨hd, hh, g0, g1, g5, g12, g64⟩
  simp only at hd hh g0 g1 g5 g12 g64
  rw [hd, hh]
  refine Wc_cond _ g64 (fun y => ?_) (fun n10 => ?_)
  · refine Wc_seq (Wc_ops (Wo_pre 1 (fun call => by simp only [go_sem, seval, g1]; rfl) ?_))
    refine Wo_call (Wk_pure (exprs_ok hex hE hv hl) ?_)
    refine (Wo_run (fun call => by simp only [go_sem, seval]; rfl) ?_)
    exact Wc_ret (fin _ _ _ (.inr rfl) (by first | rfl | assumption) (by rw [shapeB, if_neg n1, if_neg n2, if_neg n3, if_neg n4, if_pos y]))
  have n10' : ¬ mem10 kind = true := by rw [n10]; decide
  refine Wc_case (by simp only [go_sem, seval, g12] <;> first | rfl | assumption | (symm; assumption)) (fun y6 => ?_) (fun n6 => ?_)
  · have hsp : shapeB kind ks = (exprsB ks 2 && (ks.getD 0 0 == 17 || ks.getD 0 0 == 20 || ks.getD 0 0 == 21 || ks.getD 0 0 == 30)) := by rw [shapeB, if_neg n1, if_neg n2, if_neg n3, if_neg n4, if_neg n10', if_pos y6]
    refine Wc_seq (Wc_ops (Wo_pre 1 (fun call => by simp only [go_sem, seval, g1]; rfl) ?_))
    refine Wo_call (Wk_pure (exprs_ok hex hE (n := 2) hv hl) ?_)
    cases he : exprsB ks 2
    · refine (Wo_run (fun call => by simp only [go_sem, seval, he]; rfl) ?_)
      exact Wc_ret (fin _ _ false (.inr rfl) (by first | rfl | assumption) (by rw [hsp, he]; rfl))
    have hl2 : ks.length = 2 := by
      simp only [exprsB, Bool.and_eq_true, beq_iff_eq] at he; omega
    obtain ⟨b, o, c, cs, w, zz, hvb, hb, hg, hcell⟩ := hv.ge (show 0 < ks.length by omega)
    rw [Nat.zero_mul, Nat.add_zero] at hcell
    have hi0 : idxV ks.length (.int .i64 0) = some 0 := idx0 (by omega)
    cases x0 : (ks.getD 0 0 == 17)
    · cases x1 : (ks.getD 0 0 == 20)
      · cases x2 : (ks.getD 0 0 == 21)
        · refine (Wo_run (fun call => by simp only [go_sem, seval, he, g1, hvb, hi0, hg, hcell, x0, x1, x2, Nat.zero_mul]; rfl) ?_)
          exact Wc_ret (fin _ _ _ (.inr rfl) (by first | rfl | assumption) (by rw [hsp, he, x0, x1, x2]; rfl))
        · refine (Wo_run (fun call => by simp only [go_sem, seval, he, g1, hvb, hi0, hg, hcell, x0, x1, x2, Nat.zero_mul]; rfl) ?_)
          exact Wc_ret (fin _ _ _ (.inr rfl) (by first | rfl | assumption) (by rw [hsp, he, x0, x1, x2]; rfl))
      · refine (Wo_run (fun call => by simp only [go_sem, seval, he, g1, hvb, hi0, hg, hcell, x0, x1, Nat.zero_mul]; rfl) ?_)
        exact Wc_ret (fin _ _ _ (.inr rfl) (by first | rfl | assumption) (by rw [hsp, he, x0, x1]; rfl))
    · refine (Wo_run (fun call => by simp only [go_sem, seval, he, g1, hvb, hi0, hg, hcell, x0, Nat.zero_mul]; rfl) ?_)
      exact Wc_ret (fin _ _ _ (.inr rfl) (by first | rfl | assumption) (by rw [hsp, he, x0]; rfl))
  refine Wc_case (by simp only [go_sem, seval, g12] <;> first | rfl | assumption | (symm; assumption)) (fun y7 => ?_) (fun n7 => ?_)
  · have hsp : shapeB kind ks = (decide (ks.length = 3) && exprB (ks.getD 0 0) && (ks.getD 1 0 == 4) && (ks.getD 2 0 == 4 || ks.getD 2 0 == 14)) := by rw [shapeB, if_neg n1, if_neg n2, if_neg n3, if_neg n4, if_neg n10', if_neg n6, if_pos y7]
    by_cases hl3 : ks.length = 3
    case neg =>
      have z : (((ks.length : Nat) : Int) == 3) = false := by have := len_eq (n := ks.length) (a := 3); rw [decide_eq_false hl3] at this; exact this
      refine Wc_seq (Wc_ops (Wo_run (fun call => by simp only [go_sem, seval, g5, z]; rfl) ?_))
      exact Wc_ret (fin _ _ false (.inr rfl) (by first | rfl | assumption) (by rw [hsp, decide_eq_false hl3]; rfl))
    have z : (((ks.length : Nat) : Int) == 3) = true := by have := len_eq (n := ks.length) (a := 3); rw [decide_eq_true hl3] at this; exact this
    obtain ⟨b, o, c, cs, w, zz, hvb, hb, hg, hcell⟩ := hv.ge (show 0 < ks.length by omega)
    obtain ⟨b', o', c', cs', w', zz', hvb', hb', hg', hcell1⟩ := hv.ge (show 1 < ks.length by omega)
    rw [hvb] at hvb'; cases hvb'; rw [hg] at hg'; cases hg'
    obtain ⟨b', o', c', cs', w', zz', hvb', hb', hg', hcell2⟩ := hv.ge (show 2 < ks.length by omega)
    rw [hvb] at hvb'; cases hvb'; rw [hg] at hg'; cases hg'
    rw [Nat.zero_mul, Nat.add_zero] at hcell
    have hi0 : idxV ks.length (.int .i64 0) = some 0 := idx0 (by omega)
    have hi1 : idxV ks.length (.int .i64 1) = some 1 := idx1 (by omega)
    have hi2 : idxV ks.length (.int .i64 2) = some 2 := idx2 (by omega)
    refine Wc_seq (Wc_ops (Wo_pre 6 (fun call => by simp only [go_sem, seval, g5, z, g1, hvb, hi0, hg, hcell, Nat.zero_mul]; rfl) ?_))
    refine Wo_take (by simp only [upd, dstUpd, reduceIte, Nat.reduceEqDiff, gval_bool]; rfl) (Wo_call (Wk_pure (exprB_ok hE) ?_))
    cases x0 : exprB (ks.getD 0 0)
    · refine (Wo_run (fun call => by simp only [go_sem, seval, x0]; rfl) ?_)
      exact Wc_ret (fin _ _ false (.inr rfl) (by first | rfl | assumption) (by rw [hsp, x0, Bool.and_false]; rfl))
    cases x1 : (ks.getD 1 0 == 4)
    · refine (Wo_run (fun call => by simp only [go_sem, seval, x0, g1, hvb, hi1, hg, hcell1, x1]; rfl) ?_)
      exact Wc_ret (fin _ _ false (.inr rfl) (by first | rfl | assumption) (by rw [hsp, x1, Bool.and_false]; rfl))
    have hh3 : (decide (ks.length = 3) && exprB (ks.getD 0 0) && (ks.getD 1 0 == 4)) = true := by rw [decide_eq_true hl3, x0, x1]; rfl
    cases x2 : (ks.getD 2 0 == 4)
    · refine (Wo_run (fun call => by simp only [go_sem, seval, x0, g1, hvb, hi1, hi2, hg, hcell1, hcell2, x1, x2]; rfl) ?_)
      exact Wc_ret (fin _ _ _ (.inr rfl) (by first | rfl | assumption) (by rw [hsp, hh3, x2]; rfl))
    · refine (Wo_run (fun call => by simp only [go_sem, seval, x0, g1, hvb, hi1, hi2, hg, hcell1, hcell2, x1, x2]; rfl) ?_)
      exact Wc_ret (fin _ _ _ (.inr rfl) (by first | rfl | assumption) (by rw [hsp, hh3, x2]; rfl))
  refine Wc_case (by simp only [go_sem, seval, g12] <;> first | rfl | assumption | (symm; assumption)) (fun y8 => ?_) (fun n8 => ?_)
  · have hsp : shapeB kind ks = (decide (ks.length = 2) && exprB (ks.getD 0 0) && (ks.getD 1 0 == 4)) := by rw [shapeB, if_neg n1, if_neg n2, if_neg n3, if_neg n4, if_neg n10', if_neg n6, if_neg n7, if_pos y8]
    by_cases hl3 : ks.length = 2
    case neg =>
      have z : (((ks.length : Nat) : Int) == 2) = false := by have := len_eq (n := ks.length) (a := 2); rw [decide_eq_false hl3] at this; exact this
      refine Wc_seq (Wc_ops (Wo_run (fun call => by simp only [go_sem, seval, g5, z]; rfl) ?_))
      exact Wc_ret (fin _ _ false (.inr rfl) (by first | rfl | assumption) (by rw [hsp, decide_eq_false hl3]; rfl))
    have z : (((ks.length : Nat) : Int) == 2) = true := by have := len_eq (n := ks.length) (a := 2); rw [decide_eq_true hl3] at this; exact this
    obtain ⟨b, o, c, cs, w, zz, hvb, hb, hg, hcell⟩ := hv.ge (show 0 < ks.length by omega)
    obtain ⟨b', o', c', cs', w', zz', hvb', hb', hg', hcell1⟩ := hv.ge (show 1 < ks.length by omega)
    rw [hvb] at hvb'; cases hvb'; rw [hg] at hg'; cases hg'
    rw [Nat.zero_mul, Nat.add_zero] at hcell
    have hi0 : idxV ks.length (.int .i64 0) = some 0 := idx0 (by omega)
    have hi1 : idxV ks.length (.int .i64 1) = some 1 := idx1 (by omega)
    refine Wc_seq (Wc_ops (Wo_pre 6 (fun call => by simp only [go_sem, seval, g5, z, g1, hvb, hi0, hg, hcell, Nat.zero_mul]; rfl) ?_))
    refine Wo_take (by simp only [upd, dstUpd, reduceIte, Nat.reduceEqDiff, gval_bool]; rfl) (Wo_call (Wk_pure (exprB_ok hE) ?_))
    cases x0 : exprB (ks.getD 0 0)
    · refine (Wo_run (fun call => by simp only [go_sem, seval, x0]; rfl) ?_)
      exact Wc_ret (fin _ _ false (.inr rfl) (by first | rfl | assumption) (by rw [hsp, x0, Bool.and_false]; rfl))
    refine (Wo_run (fun call => by simp only [go_sem, seval, x0, g1, hvb, hi1, hg, hcell1]; rfl) ?_)
    exact Wc_ret (fin _ _ _ (.inr rfl) (by first | rfl | assumption) (by rw [hsp, decide_eq_true hl3, x0]; rfl))
  refine Wc_case (by simp only [go_sem, seval, g12] <;> first | rfl | assumption | (symm; assumption)) (fun y12 => ?_) (fun n12 => ?_)
  · have hsp : shapeB kind ks = (decide (ks.length = 1) && (ks.getD 0 0 == 22)) := by rw [shapeB, if_neg n1, if_neg n2, if_neg n3, if_neg n4, if_neg n10', if_neg n6, if_neg n7, if_neg n8, if_pos y12]
    by_cases hl3 : ks.length = 1
    case neg =>
      have z : (((ks.length : Nat) : Int) == 1) = false := by have := len_eq (n := ks.length) (a := 1); rw [decide_eq_false hl3] at this; exact this
      refine Wc_seq (Wc_ops (Wo_run (fun call => by simp only [go_sem, seval, g5, z]; rfl) ?_))
      exact Wc_ret (fin _ _ false (.inr rfl) (by first | rfl | assumption) (by rw [hsp, decide_eq_false hl3]; rfl))
    have z : (((ks.length : Nat) : Int) == 1) = true := by have := len_eq (n := ks.length) (a := 1); rw [decide_eq_true hl3] at this; exact this
    obtain ⟨b, o, c, cs, w, zz, hvb, hb, hg, hcell⟩ := hv.ge (show 0 < ks.length by omega)
    rw [Nat.zero_mul, Nat.add_zero] at hcell
    have hi0 : idxV ks.length (.int .i64 0) = some 0 := idx0 (by omega)
    refine Wc_seq (Wc_ops (Wo_run (fun call => by simp only [go_sem, seval, g5, z, g1, hvb, hi0, hg, hcell, Nat.zero_mul]; rfl) ?_))
    exact Wc_ret (fin _ _ _ (.inr rfl) (by first | rfl | assumption) (by rw [hsp, decide_eq_true hl3]; rfl))
  refine Wc_mid (fun s' => s'.d = some [] ∧ s'.h = h ∧ s'.e 0 = .int .i64 kind ∧ s'.e 1 = v ∧ s'.e 5 = .int .i64 ks.length ∧ s'.e 12 = .int .i64 kind ∧ s'.e 159 = .bool (decide (kind = 19 ∨ kind = 21))) ?_ ?_
  · clear fin
    refine Wc_case (by simp only [go_sem, seval, g12] <;> first | rfl | assumption | (symm; assumption)) (fun y => Wc_skip ⟨rfl, rfl, (by simp only [go_sem, seval, g0] <;> first | rfl | assumption | (symm; assumption)), (by simp only [go_sem, seval, g1] <;> first | rfl | assumption | (symm; assumption)), (by simp only [go_sem, seval, g5] <;> first | rfl | assumption | (symm; assumption)), (by simp only [go_sem, seval, g12] <;> first | rfl | assumption | (symm; assumption)), by simp only [upd, dstUpd, reduceIte, Nat.reduceEqDiff, mem10, mem8, y, true_or, or_true, decide_true]; try rfl⟩) (fun m0 => ?_)
    refine Wc_ops (Wo_run (fun call => by simp only [go_sem, seval, g12]; rfl) ?_)
    exact ⟨rfl, rfl, (by simp only [go_sem, seval, g0] <;> first | rfl | assumption | (symm; assumption)), (by simp only [go_sem, seval, g1] <;> first | rfl | assumption | (symm; assumption)), (by simp only [go_sem, seval, g5] <;> first | rfl | assumption | (symm; assumption)), (by simp only [go_sem, seval, g12] <;> first | rfl | assumption | (symm; assumption)), by simp only [upd, dstUpd, reduceIte, Nat.reduceEqDiff, Bool.beq_eq_decide_eq, mem10, mem8, m0, false_or]⟩
  rintro ⟨e, h', d⟩ ⟨hd, hh, g0, g1, g5, g12, g159⟩
  simp only at hd hh g0 g1 g5 g12 g159
  rw [hd, hh]
  refine Wc_cond _ g159 (fun y => ?_) (fun y => ?_)
  · have y := of_decide_eq_true y
    refine Wc_seq (Wc_ops (Wo_pre 1 (fun call => by simp only [go_sem, seval, g1]; rfl) ?_))
    refine Wo_call (Wk_pure (exprs_ok hex hE (n := 2) hv hl) ?_)
    refine (Wo_run (fun call => by simp only [go_sem, seval]; rfl) ?_)
    exact Wc_ret (fin _ _ _ (.inr rfl) (by first | rfl | assumption) (by rw [shapeB, if_neg n1, if_neg n2, if_neg n3, if_neg n4, if_neg n10', if_neg n6, if_neg n7, if_neg n8, if_neg n12, if_pos y]))
  have n19 := of_decide_eq_false y
  refine Wc_case (by simp only [go_sem, seval, g12] <;> first | rfl | assumption | (symm; assumption)) (fun y22 => ?_) (fun n22 => ?_)
  · refine Wc_seq (Wc_ops (Wo_pre 2 (fun call => by simp only [go_sem, seval, g1, g5]; rfl) ?_))
    refine Wo_call (Wk_pure (exprs_ok hex hE (n := ks.length) hv hl) ?_)
    refine (Wo_run (fun call => by simp only [go_sem, seval]; rfl) ?_)
    exact Wc_ret (fin _ _ _ (.inr rfl) (by first | rfl | assumption) (by rw [shapeB, if_neg n1, if_neg n2, if_neg n3, if_neg n4, if_neg n10', if_neg n6, if_neg n7, if_neg n8, if_neg n12, if_neg n19, if_pos y22]))
  refine Wc_mid (fun s' => s'.d = some [] ∧ s'.h = h ∧ s'.e 0 = .int .i64 kind ∧ s'.e 1 = v ∧ s'.e 5 = .int .i64 ks.length ∧ s'.e 12 = .int .i64 kind ∧ s'.e 169 = .bool (mem8 kind)) ?_ ?_
  · clear fin
    refine Wc_case (by simp only [go_sem, seval, g12] <;> first | rfl | assumption | (symm; assumption)) (fun y => Wc_skip ⟨rfl, rfl, (by simp only [go_sem, seval, g0] <;> first | rfl | assumption | (symm; assumption)), (by simp only [go_sem, seval, g1] <;> first | rfl | assumption | (symm; assumption)), (by simp only [go_sem, seval, g5] <;> first | rfl | assumption | (symm; assumption)), (by simp only [go_sem, seval, g12] <;> first | rfl | assumption | (symm; assumption)), by simp only [upd, dstUpd, reduceIte, Nat.reduceEqDiff, mem10, mem8, y, true_or, or_true, decide_true]; try rfl⟩) (fun m0 => ?_)
    refine Wc_case (by simp only [go_sem, seval, g12] <;> first | rfl | assumption | (symm; assumption)) (fun y => Wc_skip ⟨rfl, rfl, (by simp only [go_sem, seval, g0] <;> first | rfl | assumption | (symm; assumption)), (by simp only [go_sem, seval, g1] <;> first | rfl | assumption | (symm; assumption)), (by simp only [go_sem, seval, g5] <;> first | rfl | assumption | (symm; assumption)), (by simp only [go_sem, seval, g12] <;> first | rfl | assumption | (symm; assumption)), by simp only [upd, dstUpd, reduceIte, Nat.reduceEqDiff, mem10, mem8, y, true_or, or_true, decide_true]; try rfl⟩) (fun m1 => ?_)
    refine Wc_case (by simp only [go_sem, seval, g12] <;> first | rfl | assumption | (symm; assumption)) (fun y => Wc_skip ⟨rfl, rfl, (by simp only [go_sem, seval, g0] <;> first | rfl | assumption | (symm; assumption)), (by simp only [go_sem, seval, g1] <;> first | rfl | assumption | (symm; assumption)), (by simp only [go_sem, seval, g5] <;> first | rfl | assumption | (symm; assumption)), (by simp only [go_sem, seval, g12] <;> first | rfl | assumption | (symm; assumption)), by simp only [upd, dstUpd, reduceIte, Nat.reduceEqDiff, mem10, mem8, y, true_or, or_true, decide_true]; try rfl⟩) (fun m2 => ?_)
    refine Wc_case (by simp only [go_sem, seval, g12] <;> first | rfl | assumption | (symm; assumption)) (fun y => Wc_skip ⟨rfl, rfl, (by simp only [go_sem, seval, g0] <;> first | rfl | assumption | (symm; assumption)), (by simp only [go_sem, seval, g1] <;> first | rfl | assumption | (symm; assumption)), (by simp only [go_sem, seval, g5] <;> first | rfl | assumption | (symm; assumption)), (by simp only [go_sem, seval, g12] <;> first | rfl | assumption | (symm; assumption)), by simp only [upd, dstUpd, reduceIte, Nat.reduceEqDiff, mem10, mem8, y, true_or, or_true, decide_true]; try rfl⟩) (fun m3 => ?_)
    refine Wc_case (by simp only [go_sem, seval, g12] <;> first | rfl | assumption | (symm; assumption)) (fun y => Wc_skip ⟨rfl, rfl, (by simp only [go_sem, seval, g0] <;> first | rfl | assumption | (symm; assumption)), (by simp only [go_sem, seval, g1] <;> first | rfl | assumption | (symm; assumption)), (by simp only [go_sem, seval, g5] <;> first | rfl | assumption | (symm; assumption)), (by simp only [go_sem, seval, g12] <;> first | rfl | assumption | (symm; assumption)), by simp only [upd, dstUpd, reduceIte, Nat.reduceEqDiff, mem10, mem8, y, true_or, or_true, decide_true]; try rfl⟩) (fun m4 => ?_)
    refine Wc_case (by simp only [go_sem, seval, g12] <;> first | rfl | assumption | (symm; assumption)) (fun y => Wc_skip ⟨rfl, rfl, (by simp only [go_sem, seval, g0] <;> first | rfl | assumption | (symm; assumption)), (by simp only [go_sem, seval, g1] <;> first | rfl | assumption | (symm; assumption)), (by simp only [go_sem, seval, g5] <;> first | rfl | assumption | (symm; assumption)), (by simp only [go_sem, seval, g12] <;> first | rfl | assumption | (symm; assumption)), by simp only [upd, dstUpd, reduceIte, Nat.reduceEqDiff, mem10, mem8, y, true_or, or_true, decide_true]; try rfl⟩) (fun m5 => ?_)
    refine Wc_case (by simp only [go_sem, seval, g12] <;> first | rfl | assumption | (symm; assumption)) (fun y => Wc_skip ⟨rfl, rfl, (by simp only [go_sem, seval, g0] <;> first | rfl | assumption | (symm; assumption)), (by simp only [go_sem, seval, g1] <;> first | rfl | assumption | (symm; assumption)), (by simp only [go_sem, seval, g5] <;> first | rfl | assumption | (symm; assumption)), (by simp only [go_sem, seval, g12] <;> first | rfl | assumption | (symm; assumption)), by simp only [upd, dstUpd, reduceIte, Nat.reduceEqDiff, mem10, mem8, y, true_or, or_true, decide_true]; try rfl⟩) (fun m6 => ?_)
    refine Wc_ops (Wo_run (fun call => by simp only [go_sem, seval, g12]; rfl) ?_)
    exact ⟨rfl, rfl, (by simp only [go_sem, seval, g0] <;> first | rfl | assumption | (symm; assumption)), (by simp only [go_sem, seval, g1] <;> first | rfl | assumption | (symm; assumption)), (by simp only [go_sem, seval, g5] <;> first | rfl | assumption | (symm; assumption)), (by simp only [go_sem, seval, g12] <;> first | rfl | assumption | (symm; assumption)), by simp only [upd, dstUpd, reduceIte, Nat.reduceEqDiff, Bool.beq_eq_decide_eq, mem10, mem8, m0, m1, m2, m3, m4, m5, m6, false_or]⟩
  rintro ⟨e, h', d⟩ ⟨hd, hh, g0, g1, g5, g12, g169⟩
  simp only at hd hh g0 g1 g5 g12 g169
  rw [hd, hh]
  refine Wc_cond _ g169 (fun y => ?_) (fun n8' => Wc_skip ?_)
  · refine Wc_seq (Wc_ops (Wo_run (fun call => by simp only [go_sem, seval, g5]; rfl) ?_))
    refine Wc_ret (fin _ _ _ (.inr rfl) (by first | rfl | assumption) ?_)
    rw [shapeB, if_neg n1, if_neg n2, if_neg n3, if_neg n4, if_neg n10', if_neg n6, if_neg n7, if_neg n8, if_neg n12, if_neg n19, if_neg n22, if_pos y]
    exact (len_eq (n := ks.length) (a := 0)).symm
  have n8'' : ¬ mem8 kind = true := by rw [n8']; decide
  show Wc T _ _ _
  refine Wc_seq (Wc_ops (Wo_run (fun call => by simp only [go_sem, seval]; rfl) ?_))
  refine Wc_ret (fin _ _ false (.inr rfl) (by first | rfl | assumption) ?_)
  rw [shapeB, if_neg n1, if_neg n2, if_neg n3, if_neg n4, if_neg n10', if_neg n6, if_neg n7, if_neg n8, if_neg n12, if_neg n19, if_neg n22, if_neg n8'']
end Go.Idl
end

section
namespace Go.Idl
variable {T : Tbl}
def mem7 (k : Int) : Bool := decide (k = 2 ∨ k = 3 ∨ k = 5 ∨ k = 17 ∨ k = 20 ∨ k = 22 ∨ k = 23)
def sgnB (s : ByteArray) : Bool := decide (s = ⟨#[45]⟩) || decide (s = ⟨#[33]⟩) || decide (s = ⟨#[126]⟩)
def digB (s : ByteArray) : Bool := (numR (bs s)).2 && decide (48 ≤ bt (bs s) 0) && decide (bt (bs s) 0 ≤ 57) && (decide (s.size = 1) || !(bt (bs s) 0 == 48))
def textB (kind : Int) (s : ByteArray) : Bool :=
  if mem7 kind then nameB s else if kind = 15 then digB s else if kind = 18 then sgnB s else if kind = 19 then opB s else decide (s = ⟨#[]⟩)
theorem num_ne {s : ByteArray} (h : (numR (bs s)).2 = true) : 0 < s.size := by
  rcases Nat.eq_zero_or_pos s.size with h0 | h0
  · have : bs s = [] := List.eq_nil_of_length_eq_zero (by rw [← bs_size]; exact h0)
    rw [this] at h
    exact absurd h (by decide)
  · exact h0
theorem text_ok (hT : T.fn 14 = some C14) (hn : T.fn 28 = some C28) (hl : T.fn 48 = some C48) (hd : T.fn 49 = some C49) (hw : T.fn 50 = some C50)
    (hN : T.fn 29 = some C29) (hW : T.fn 51 = some C51) (hF : T.fn 60 = some C60) (hO : T.fn 30 = some C30)
    {x : Nd} {h : Heap} (hs : x.text.size < 4611686018427387904) : Wk T (.fn 14) [.agg x.cells.toArray] h (fun o h' => Kept h h' ∧ o = .ret (.bool (textB x.kind x.text))) := by
  refine Wk_fn hT (by simp [C14]) ?_
  simp only [C14]
  refine Wc_seq (Wc_ops (Wo_box (cs := x.cells) rfl fun h1 n1 => (Wo_run (fun call => by simp only [go_sem, seval]; rfl) ?_)))
  show Wc T _ _ _
  have fin : ∀ (e : Env) (h2 : Heap) (x' : Ex) (b : Bool), Kept h1 h2 → (x' = .normal ∨ x' = .ret) → e 2 = .bool b → textB x.kind x.text = b → (x' = .normal ∨ x' = .ret) ∧ some ([] : List Dfr) = some [] ∧ ∃ vs, resAll e h2 [.tmp 2] = some vs ∧ Kept h h2 ∧ Out.ret (tup vs) = .ret (.bool (textB x.kind x.text)) := fun e h2 x' b hk hx h4 hb =>
    ⟨hx, rfl, [.bool b], by simp only [resAll, resV, h4], n1.kept.trans hk, by rw [hb]; rfl⟩
  have hg := n1.get
  refine Wc_seq (Wc_seq (Wc_ops (Wo_run (fun call => by simp only [go_sem, seval, hg, Nd.cells]; rfl) ?_)))
  show Wc T _ _ _
  refine Wc_block ?_
  refine Wc_mid (fun s' => s'.d = some [] ∧ s'.h = h1 ∧ s'.e 1 = ptr h.next 0 ∧ s'.e 6 = .int .i64 x.kind ∧ s'.e 7 = .bool (mem7 x.kind)) ?_ ?_
  · clear fin
    refine Wc_case (by first | rfl | assumption) (fun y => Wc_skip ⟨rfl, rfl, (by first | rfl | assumption), (by first | rfl | assumption), by simp only [upd, dstUpd, reduceIte, Nat.reduceEqDiff, mem7, y, true_or, or_true, decide_true]; try rfl⟩) (fun m0 => ?_)
    refine Wc_case (by first | rfl | assumption) (fun y => Wc_skip ⟨rfl, rfl, (by first | rfl | assumption), (by first | rfl | assumption), by simp only [upd, dstUpd, reduceIte, Nat.reduceEqDiff, mem7, y, true_or, or_true, decide_true]; try rfl⟩) (fun m1 => ?_)
    refine Wc_case (by first | rfl | assumption) (fun y => Wc_skip ⟨rfl, rfl, (by first | rfl | assumption), (by first | rfl | assumption), by simp only [upd, dstUpd, reduceIte, Nat.reduceEqDiff, mem7, y, true_or, or_true, decide_true]; try rfl⟩) (fun m2 => ?_)
    refine Wc_case (by first | rfl | assumption) (fun y => Wc_skip ⟨rfl, rfl, (by first | rfl | assumption), (by first | rfl | assumption), by simp only [upd, dstUpd, reduceIte, Nat.reduceEqDiff, mem7, y, true_or, or_true, decide_true]; try rfl⟩) (fun m3 => ?_)
    refine Wc_case (by first | rfl | assumption) (fun y => Wc_skip ⟨rfl, rfl, (by first | rfl | assumption), (by first | rfl | assumption), by simp only [upd, dstUpd, reduceIte, Nat.reduceEqDiff, mem7, y, true_or, or_true, decide_true]; try rfl⟩) (fun m4 => ?_)
    refine Wc_case (by first | rfl | assumption) (fun y => Wc_skip ⟨rfl, rfl, (by first | rfl | assumption), (by first | rfl | assumption), by simp only [upd, dstUpd, reduceIte, Nat.reduceEqDiff, mem7, y, true_or, or_true, decide_true]; try rfl⟩) (fun m5 => ?_)
    refine Wc_ops (Wo_run (fun call => by simp only [go_sem, seval]; rfl) ?_)
    exact ⟨rfl, rfl, (by first | rfl | assumption), (by first | rfl | assumption), by simp only [upd, dstUpd, reduceIte, Nat.reduceEqDiff, Bool.beq_eq_decide_eq, mem7, m0, m1, m2, m3, m4, m5, false_or]⟩
  rintro ⟨e, h', d⟩ ⟨hd', hh, g1, g6, g7⟩
  simp only at hd' hh g1 g6 g7
  rw [hd', hh]
  have pg : ptr h.next 0 = .pointer (some ⟨h.next, 0, none⟩) := rfl
  rw [pg] at g1
  refine Wc_cond _ g7 (fun y => ?_) (fun n7 => ?_)
  · refine Wc_seq (Wc_ops (Wo_pre 2 (fun call => by simp only [go_sem, seval, g1, hg, Nd.cells]; rfl) ?_))
    refine Wo_call (Wk_kept (nameR_ok hn hl hd hw (s := x.text) (by omega)) fun h2 k2 => ?_)
    refine (Wo_run (fun call => by simp only [go_sem, seval]; rfl) ?_)
    exact Wc_ret (fin _ _ _ _ k2 (.inr rfl) (by first | rfl | assumption) (by rw [textB, if_pos y]))
  have n7' : ¬ mem7 x.kind = true := by rw [n7]; decide
  refine Wc_case g6 (fun y15 => ?_) (fun n15 => ?_)
  · have hsp : textB x.kind x.text = digB x.text := by rw [textB, if_neg n7', if_pos y15]
    refine Wc_seq (Wc_ops (Wo_pre 2 (fun call => by simp only [go_sem, seval, g1, hg, Nd.cells]; rfl) ?_))
    refine Wo_call (Wk_pure (number_ok hN hW hF hd (s := x.text) (by omega)) ?_)
    refine (Wo_run (fun call => by simp only [go_sem, seval, numV]; rfl) ?_)
    show Wc T _ _ _
    cases hnum : (numR (bs x.text)).2
    · refine Wc_seq (Wc_ops (Wo_run (fun call => by simp only [go_sem, seval, hnum]; rfl) ?_))
      exact Wc_ret (fin _ _ _ false (.refl _) (.inr rfl) (by first | rfl | assumption) (by rw [hsp, digB, hnum]; rfl))
    have h0 := num_ne hnum
    obtain ⟨c, hc⟩ := bs_at h0
    have s0 : x.text.data.toList[0]? = some c := hc
    have b0 := bt_at hc
    have i0 := idx0 (k := .i64) h0
    cases x0 : decide ((48 : Int) ≤ ((c.toNat : Nat) : Int))
    · have x0' := of_decide_eq_false x0
      refine Wc_seq (Wc_ops (Wo_run (fun call => by simp only [go_sem, seval, hnum, g1, hg, Nd.cells, i0, s0, x0']; rfl) ?_))
      exact Wc_ret (fin _ _ _ false (.refl _) (.inr rfl) (by first | rfl | assumption) (by rw [hsp, digB, hnum, b0, x0]; rfl))
    have x0' := of_decide_eq_true x0
    cases x1 : decide (((c.toNat : Nat) : Int) ≤ (57 : Int))
    · have x1' := of_decide_eq_false x1
      refine Wc_seq (Wc_ops (Wo_run (fun call => by simp only [go_sem, seval, hnum, g1, hg, Nd.cells, i0, s0, x0', x1']; rfl) ?_))
      exact Wc_ret (fin _ _ _ false (.refl _) (.inr rfl) (by first | rfl | assumption) (by rw [hsp, digB, hnum, b0, x0, x1]; rfl))
    have x1' := of_decide_eq_true x1
    have hlen := len_eq (n := x.text.size) (a := 1)
    rw [show (((1 : Nat) : Int)) = 1 from rfl] at hlen
    cases x2 : (((x.text.size : Nat) : Int) == 1)
    · rw [x2] at hlen
      refine Wc_seq (Wc_ops (Wo_run (fun call => by simp only [go_sem, seval, hnum, g1, hg, Nd.cells, i0, s0, x0', x1', x2, bne]; rfl) ?_))
      exact Wc_ret (fin _ _ _ _ (.refl _) (.inr rfl) (by first | rfl | assumption) (by rw [hsp, digB, hnum, b0, x0, x1, ← hlen]; rfl))
    · rw [x2] at hlen
      refine Wc_seq (Wc_ops (Wo_run (fun call => by simp only [go_sem, seval, hnum, g1, hg, Nd.cells, i0, s0, x0', x1', x2, bne]; rfl) ?_))
      exact Wc_ret (fin _ _ _ true (.refl _) (.inr rfl) (by first | rfl | assumption) (by rw [hsp, digB, hnum, b0, x0, x1, ← hlen]; rfl))
  refine Wc_case (by simp only [go_sem, seval, g6] <;> first | rfl | assumption | (symm; assumption)) (fun y18 => ?_) (fun n18 => ?_)
  · have hsp : textB x.kind x.text = sgnB x.text := by rw [textB, if_neg n7', if_neg n15, if_pos y18]
    cases x0 : decide (x.text = ⟨#[45]⟩)
    · cases x1 : decide (x.text = ⟨#[33]⟩)
      · refine Wc_seq (Wc_ops (Wo_run (fun call => by simp only [go_sem, seval, g1, hg, Nd.cells, x0, x1]; rfl) ?_))
        exact Wc_ret (fin _ _ _ _ (.refl _) (.inr rfl) (by first | rfl | assumption) (by rw [hsp, sgnB, x0, x1]; rfl))
      · refine Wc_seq (Wc_ops (Wo_run (fun call => by simp only [go_sem, seval, g1, hg, Nd.cells, x0, x1]; rfl) ?_))
        exact Wc_ret (fin _ _ _ _ (.refl _) (.inr rfl) (by first | rfl | assumption) (by rw [hsp, sgnB, x0, x1]; rfl))
    · refine Wc_seq (Wc_ops (Wo_run (fun call => by simp only [go_sem, seval, g1, hg, Nd.cells, x0]; rfl) ?_))
      exact Wc_ret (fin _ _ _ _ (.refl _) (.inr rfl) (by first | rfl | assumption) (by rw [hsp, sgnB, x0]; rfl))
  refine Wc_case (by simp only [go_sem, seval, g6] <;> first | rfl | assumption | (symm; assumption)) (fun y19 => ?_) (fun n19 => Wc_skip ?_)
  · refine Wc_seq (Wc_ops (Wo_pre 2 (fun call => by simp only [go_sem, seval, g1, hg, Nd.cells]; rfl) ?_))
    refine Wo_call (Wk_kept (operator_ok hO) fun h2 k2 => ?_)
    refine (Wo_run (fun call => by simp only [go_sem, seval]; rfl) ?_)
    exact Wc_ret (fin _ _ _ _ k2 (.inr rfl) (by first | rfl | assumption) (by rw [textB, if_neg n7', if_neg n15, if_neg n18, if_pos y19]))
  show Wc T _ _ _
  refine Wc_seq (Wc_ops (Wo_run (fun call => by simp only [go_sem, seval, g1, hg, Nd.cells]; rfl) ?_))
  exact Wc_ret (fin _ _ _ _ (.refl _) (.inr rfl) (by first | rfl | assumption) (by rw [textB, if_neg n7', if_neg n15, if_neg n18, if_neg n19]))
end Go.Idl
end

section
namespace Go.Idl
variable {T : Tbl}
theorem flatN_at : ∀ {l : List Nd} {i : Nat} {x : Nd}, l[i]? = some x → (flatN l)[i * 4]? = some (.int .i64 x.kind) ∧ (flatN l)[i * 4 + 1]? = some (.string x.text) ∧ (flatN l)[i * 4 + 2]? = some x.kv ∧ (flatN l)[i * 4 + 3]? = some (.int .i64 x.pos)
  | [], i, x, h => by simp at h
  | y :: l, 0, x, h => by simp at h; subst h; simp [flatN]
  | y :: l, i + 1, x, h => by
    have := flatN_at (l := l) (i := i) (x := x) (by simpa using h)
    rw [show (i + 1) * 4 = i * 4 + 4 by omega]
    simpa [flatN, show i * 4 + 4 + 1 = (i * 4 + 1) + 4 by omega, show i * 4 + 4 + 2 = (i * 4 + 2) + 4 by omega, show i * 4 + 4 + 3 = (i * 4 + 3) + 4 by omega] using this
theorem nodesAt.load4 {h : Heap} {v : Value} {l : List Nd} (hh : nodesAt h v l) {i : Nat} {x : Nd} (hi : l[i]? = some x) : ∃ b c o z, v = .slice (some ⟨b, 0, none⟩) l.length c ∧ b < h.next ∧ h.get b = some (.cells (flatN l) o z) ∧ h.cells b (i * 4) 4 = some x.cells := by
  obtain ⟨b, c, h1, h2, ⟨o, z, h3⟩, h4⟩ := hh.load hi
  exact ⟨b, c, o, z, h1, h2, h3, by rw [Nat.zero_add] at h4; exact h4⟩
def kindAt (l : List Nd) (k : Int) : Int := (l[k.toNat]?.map (·.kind)).getD 0
def kidsUp (l : List Nd) (j : Nat) : List Int := (l.take j).flatMap (·.kids)
theorem kidsUp_succ {l : List Nd} {j : Nat} {x : Nd} (h : l[j]? = some x) : kidsUp l (j + 1) = kidsUp l j ++ x.kids := by
  simp only [kidsUp]
  rw [List.take_add_one, h]
  simp
structure NodeOk (l : List Nd) (n : Nat) (x : Nd) : Prop where
  kids : ∀ k ∈ x.kids, 0 ≤ k ∧ k < n
  pos : 0 ≤ x.pos
  kind : 1 ≤ x.kind ∧ x.kind ≤ 30
  text : textB x.kind x.text = true
  shape : shapeB x.kind (x.kids.map (kindAt l)) = true
structure GoodT (l : List Nd) : Prop where
  len : l.length ≤ 50000
  ok : ∀ n x, l[n]? = some x → NodeOk l n x
  nodup : (kidsUp l l.length).Nodup
  ne : 0 < l.length
  last : ∀ n x, l[n]? = some x → (x.kind = 1 ↔ n + 1 = l.length)
  used : ∀ n : Nat, n + 1 < l.length → (n : Int) ∈ kidsUp l l.length
  deep : deepOf l ≤ 200
theorem kidsUp_sub {l : List Nd} {j : Nat} (h : j ≤ l.length) : (kidsUp l j).Sublist (kidsUp l l.length) := by
  have : kidsUp l l.length = kidsUp l j ++ (l.drop j).flatMap (·.kids) := by
    simp only [kidsUp, List.take_length]
    rw [← List.flatMap_append, List.take_append_drop]
  rw [this]
  exact List.sublist_append_left _ _
def flagC (n : Nat) (S : List Int) : List Value := (List.range n).map fun k : Nat => Value.bool (decide ((k : Int) ∈ S))
theorem flagC_len (n : Nat) (S : List Int) : (flagC n S).length = n := by simp [flagC]
theorem flagC_at {n : Nat} {S : List Int} {k : Nat} (h : k < n) : (flagC n S)[k]? = some (.bool (decide ((k : Int) ∈ S))) := by
  simp [flagC, List.getElem?_range h]
theorem flagC_set {n : Nat} {S : List Int} {k : Nat} (h : k < n) : (flagC n S).set k (.bool true) = flagC n (S ++ [(k : Int)]) := by
  apply List.ext_getElem?
  intro i
  rw [List.getElem?_set, flagC_len]
  by_cases hi : i < n
  · rw [flagC_at hi]
    by_cases hk : k = i
    · subst hk
      rw [if_pos rfl, if_pos hi, flagC_at hi, decide_eq_true (List.mem_append_right _ (List.mem_singleton.2 rfl))]
    · rw [if_neg hk, flagC_at hi]
      have : ((i : Int) ∈ S ↔ (i : Int) ∈ S ++ [(k : Int)]) := by
        rw [List.mem_append, List.mem_singleton]
        constructor
        · exact .inl
        · rintro (h | h)
          · exact h
          · exact absurd (by omega : k = i) hk
      rw [decide_eq_decide.2 this]
  · rw [List.getElem?_eq_none (by rw [flagC_len]; omega)]
    by_cases hk : k = i
    · omega
    · rw [if_neg hk, List.getElem?_eq_none (by rw [flagC_len]; omega)]
theorem nodesAt.but {m : Nat} {h0 h h' : Heap} (k0 : Kept h0 h) (hb : KeptBut m h h') (hm : h0.next ≤ m) {v : Value} {l : List Nd} (hh : nodesAt h0 v l) : nodesAt h' v l := hh.keep (k0.of_but hb hm)
end Go.Idl
end
