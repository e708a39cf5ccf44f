/- Texts of the proof. -/
import Derived.Test.YtmnhbineiecfoaaGreatDoorO4
import Derived.Test.YtmnhbineiecfoaaGreatDoorI29
import Derived.Test.YtmnhbineiecfoaaGreatDoorL11
import Derived.KernelRfl
import Derived.Test.YtmnhbineiecfoaaGreatDoorI3f
set_option linter.unusedVariables false
set_option linter.unusedSimpArgs false
set_option maxRecDepth 100000
section
namespace Go.Idl
variable {T : Tbl}
theorem rep_flag (n : Nat) : (List.replicate n [Value.bool false]).flatten = flagC n [] := by
  apply List.ext_getElem?
  intro i
  have : (List.replicate n [Value.bool false]).flatten = List.replicate n (.bool false) := by induction n with | zero => rfl | succ n ih => rw [List.replicate_succ, List.flatten_cons, ih, List.replicate_succ]; rfl
  rw [this]
  by_cases hi : i < n
  · rw [flagC_at hi, List.getElem?_replicate, if_pos hi]; simp
  · rw [List.getElem?_eq_none (by rw [List.length_replicate]; omega), List.getElem?_eq_none (by rw [flagC_len]; omega)]
structure RefFns (T : Tbl) : Prop where
  check : T.fn 7 = some C7
  deep : T.fn 16 = some C16
  text : T.fn 14 = some C14
  shape : T.fn 15 = some C15
  all : T.fn 31 = some C31
  exprs : T.fn 33 = some C33
  Expr : T.fn 34 = some C34
  Stmt : T.fn 32 = some C32
  Operator : T.fn 30 = some C30
  Name : T.fn 28 = some C28
  letter : T.fn 48 = some C48
  digit : T.fn 49 = some C49
  Word : T.fn 50 = some C50
  Number : T.fn 29 = some C29
  whole : T.fn 51 = some C51
  figure : T.fn 60 = some C60
theorem checkR_ok (F : RefFns T) {h : Heap} {v : Value} {l : List Nd} (hn : nodesAt h v l) (hN : l.length ≤ 50000) (hK : ∀ x ∈ l, x.kids.length ≤ 100000) (hS : ∀ x ∈ l, x.text.size < 4611686018427387904) :
    Wk T (.fn 7) [v] h (fun o h' => Kept h h' ∧ ∃ a b : Int, o = .ret (.tuple #[.int .i64 a, .int .i64 b]) ∧ (b = 0 ↔ GoodT l)) := by
  obtain ⟨va, vc, hvl⟩ := hn.len
  refine Wk_fn F.check (by simp [C7]) ?_
  simp only [C7]
  have fin : ∀ (e : Env) (h2 : Heap) (x' : Ex) (a b : Int), Kept h h2 → (x' = .normal ∨ x' = .ret) → e 2 = .int .i64 a → e 3 = .int .i64 b → (b = 0 ↔ GoodT l) → (x' = .normal ∨ x' = .ret) ∧ some ([] : List Dfr) = some [] ∧ ∃ vs, resAll e h2 [.tmp 2, .tmp 3] = some vs ∧ Kept h h2 ∧ ∃ a b : Int, Out.ret (tup vs) = .ret (.tuple #[.int .i64 a, .int .i64 b]) ∧ (b = 0 ↔ GoodT l) := fun e h2 x' a b hk hx h4 h5 hb =>
    ⟨hx, rfl, [.int .i64 a, .int .i64 b], by simp only [resAll, resV, h4, h5], hk, a, b, rfl, hb⟩
  have bad : ∀ {b : Int}, b ≠ 0 → ¬ GoodT l → (b = 0 ↔ GoodT l) := fun h1 h2 => ⟨fun e => absurd e h1, fun g => absurd g h2⟩
  refine Wc_seq (Wc_ops (Wo_run (fun call => by simp only [go_sem, seval]; rfl) ?_))
  show Wc T _ _ _
  have z1 : ¬ ((50000 : Int) < ((l.length : Nat) : Int)) := by omega
  refine Wc_seq (Wc_seq (Wc_ops (Wo_run (fun call => by simp only [go_sem, seval, hvl, z1]; rfl) ?_)))
  show Wc T _ _ _
  refine Wc_cond false (by first | rfl | assumption) (fun e => by cases e) (fun _ => Wc_skip ?_)
  show Wc T _ _ _
  refine Wc_seq (Wc_ops (Wo_pre 2 (fun call => by simp only [go_sem, seval, hvl]; rfl) ?_))
  refine Wo_new (v := .slice (some ⟨h.next, 0, none⟩) l.length l.length) (B := .cells (flagC l.length []) true 1) ?_ fun h1 n1 => ?_
  · simp only [iop, ev, upd, reduceIte, Nat.reduceEqDiff, Int.toNat_natCast]
    rw [if_pos (by omega), rep_flag]
  refine (Wo_run (fun call => by simp only [go_sem, seval]; rfl) ?_)
  show Wc T _ _ _
  refine Wc_mid (fun s' => s'.d = some [] ∧ Kept h s'.h ∧ s'.h.get h.next = some (.cells (flagC l.length (kidsUp l l.length)) true 1) ∧ h.next < s'.h.next ∧ s'.e 0 = v ∧ s'.e 4 = .slice (some ⟨h.next, 0, none⟩) l.length l.length ∧ (∀ n x, l[n]? = some x → NodeOk l n x) ∧ (kidsUp l l.length).Nodup) ?_ ?_
  · refine Wc_seq (Wc_ops (Wo_run (fun call => by simp only [go_sem, seval, hvl]; rfl) ?_))
    show Wc T _ _ _
    refine Wc_range l.length (fun j e h' d => d = some [] ∧ Kept h h' ∧ h'.get h.next = some (.cells (flagC l.length (kidsUp l j)) true 1) ∧ h.next < h'.next ∧ (∀ n, n < j → ∀ x, l[n]? = some x → NodeOk l n x) ∧ (kidsUp l j).Nodup) (by decide) (by first | rfl | assumption) (by first | rfl | assumption) (by omega) (by decide) ?_ ?_ ?_
    · exact ⟨rfl, n1.kept, n1.get, by rw [n1.next]; exact Nat.lt_succ_self _, fun n hn => by omega, List.nodup_nil⟩
    · rintro j e h' d hj ⟨rfl, hk, hu, hun, hok, hnd⟩ hfr h21 h20
      obtain ⟨x, hx⟩ : ∃ x, l[j]? = some x := ⟨_, List.getElem?_eq_getElem hj⟩
      have hxm := List.mem_of_getElem? hx
      obtain ⟨b, c, o, z, hvb, hb, hg, hcs⟩ := (hn.keep hk).load4 hx
      have e19 : e 19 = v := ((hfr 19 (by decide)).trans (by first | rfl | assumption | (symm; assumption)))
      have e0 : e 0 = v := ((hfr 0 (by decide)).trans (by first | rfl | assumption | (symm; assumption)))
      have e4 : e 4 = .slice (some ⟨h.next, 0, none⟩) l.length l.length := ((hfr 4 (by decide)).trans (by first | rfl | assumption | (symm; assumption)))
      refine Wc_seq (Wc_ops (Wo_pre 5 (fun call => by simp only [go_sem, seval, h21, e19, hvb, idx_ok hj, hcs]; rfl) ?_))
      refine Wo_store_new (cs := x.cells) (h := h') (by first | rfl | assumption) (by first | rfl | assumption) rfl rfl fun h2 n2 => Wo_nil ?_
      show Wc T _ _ _
      refine Wc_seq (Wc_ops (Wo_run (fun call => by simp only [go_sem, seval]; rfl) ?_))
      show Wc T _ _ _
      have hki : intsAt h x.kv x.kids := hn.2 x hxm
      have hkl := hK x hxm
      obtain ⟨ka, kc, hkv⟩ := hki.len
      have hk2 : Kept h h2 := hk.trans n2.kept
      have hu2 : h2.get h.next = some (.cells (flagC l.length (kidsUp l j)) true 1) := by rw [n2.kept.get _ hun]; exact hu
      have gnd : GoodT l → (kidsUp l (j + 1)).Nodup := fun g => g.nodup.sublist (kidsUp_sub (by omega))
      rw [kidsUp_succ hx] at gnd
      refine Wc_mid (fun s' => s'.d = some [] ∧ KeptBut h.next h2 s'.h ∧ s'.h.get h.next = some (.cells (flagC l.length (kidsUp l j ++ x.kids)) true 1) ∧ s'.e 0 = v ∧ s'.e 4 = .slice (some ⟨h.next, 0, none⟩) l.length l.length ∧ s'.e 5 = .int .i64 j ∧ s'.e 6 = ptr h'.next 0 ∧ (∃ kv, s'.e 7 = kv ∧ ownI h2.next s'.h kv (x.kids.map (kindAt l))) ∧ (∀ k ∈ x.kids, 0 ≤ k ∧ k < j) ∧ (kidsUp l j ++ x.kids).Nodup) ?_ ?_
      · refine Wc_seq (Wc_ops (Wo_run (fun call => by simp only [go_sem, seval, n2.get, Nd.cells, hkv]; rfl) ?_))
        show Wc T _ _ _
        refine Wc_range x.kids.length (fun m e h3 d => d = some [] ∧ KeptBut h.next h2 h3 ∧ h3.get h.next = some (.cells (flagC l.length (kidsUp l j ++ x.kids.take m)) true 1) ∧ (∃ kv, e 7 = kv ∧ ownI h2.next h3 kv ((x.kids.take m).map (kindAt l))) ∧ (∀ k ∈ x.kids.take m, 0 ≤ k ∧ k < j) ∧ (kidsUp l j ++ x.kids.take m).Nodup) (by decide) (by first | rfl | assumption) (by first | rfl | assumption) (by omega) (by decide) ?_ ?_ ?_
        · exact ⟨rfl, .refl _ _, by rw [List.take_zero, List.append_nil]; exact hu2, ⟨.slice none 0 0, (by first | rfl | assumption), .inl ⟨rfl, rfl⟩⟩, fun k hk => by simp at hk, by rw [List.take_zero, List.append_nil]; exact hnd⟩
        · rintro m e3 h3 d hm ⟨rfl, hkb, hu3, ⟨kv, h7, hown⟩, hrange, hnd3⟩ hfr h29 h28
          obtain ⟨k, hkm⟩ : ∃ k, x.kids[m]? = some k := ⟨_, List.getElem?_eq_getElem hm⟩
          have hkmem := List.mem_of_getElem? hkm
          have htake : x.kids.take (m + 1) = x.kids.take m ++ [k] := by rw [List.take_add_one, hkm]; rfl
          have hk3 : Kept h h3 := hk2.of_but hkb (Nat.le_refl _)
          obtain ⟨bk, ck, hkvb, hbk, ⟨ok, zk, hgk⟩, hcell⟩ := (hki.keep hk3).load hkm
          rw [Nat.zero_add] at hcell
          have e27 : e3 27 = x.kv := ((hfr 27 (by decide)).trans (by first | rfl | assumption | (symm; assumption)))
          have e5 : e3 5 = .int .i64 j := ((hfr 5 (by decide)).trans (by first | rfl | assumption | (symm; assumption)))
          have e4 : e3 4 = .slice (some ⟨h.next, 0, none⟩) l.length l.length := ((hfr 4 (by decide)).trans (by first | rfl | assumption | (symm; assumption)))
          have e0 : e3 0 = v := ((hfr 0 (by decide)).trans (by first | rfl | assumption | (symm; assumption)))
          refine Wc_seq (Wc_ops (Wo_run (fun call => by simp only [go_sem, seval, h29, e27, hkvb, idx_ok hm, hgk, hcell]; rfl) ?_))
          show Wc T _ _ _
          have err : ¬ GoodT l → ∀ (e' : Env), e' 5 = .int .i64 j → Wc T (.seq (.ops [⟨(some 46), .op (.mov (.t 5)), none⟩, ⟨(some 2), .op (.mov (.t 46)), none⟩, ⟨(some 3), .op (.mov (.c (.int .i64 50))), none⟩]) .ret) ⟨e', h3, some []⟩ (fun x s => x = .ret ∧ s.d = some [] ∧ s.h = h3 ∧ s.e 2 = .int .i64 j ∧ s.e 3 = .int .i64 50) := by
            intro hbad e' h5
            refine Wc_seq (Wc_ops (Wo_run (fun call => by simp only [go_sem, seval, h5]; rfl) ?_))
            exact Wc_ret ⟨rfl, rfl, rfl, (by first | rfl | assumption), (by first | rfl | assumption)⟩
          have leave : ¬ GoodT l → ∀ (x' : Ex) (s : St), (x' = .ret ∧ s.d = some [] ∧ s.h = h3 ∧ s.e 2 = .int .i64 j ∧ s.e 3 = .int .i64 50) → (x' = .normal ∨ x' = .ret) ∧ s.d = some [] ∧ ∃ vs, resAll s.e s.h [.tmp 2, .tmp 3] = some vs ∧ Kept h s.h ∧ ∃ a b : Int, Out.ret (tup vs) = .ret (.tuple #[.int .i64 a, .int .i64 b]) ∧ (b = 0 ↔ GoodT l) := by
            rintro hbad x' ⟨e', h', d'⟩ ⟨rfl, hd, hh, g2, g3⟩
            simp only at hd hh g2 g3
            rw [hd, hh]
            exact fin e' h3 .ret j 50 hk3 (.inr rfl) g2 g3 (bad (by decide) hbad)
          refine Wc_mid (fun s' => s'.d = some [] ∧ s'.h = h3 ∧ FrE [33, 34, 35, 36, 37, 38, 39, 40, 41, 42, 43, 44, 45] (upd (upd (upd (upd e3 30 (.bool true)) 31 (ptr bk (m * 1))) 32 (.int .i64 k)) 9 (.int .i64 k)) s'.e ∧ 0 ≤ k ∧ k < j ∧ k ∉ kidsUp l j ++ x.kids.take m) ?_ ?_
          · refine Wc_mid (fun s' => s'.d = some [] ∧ s'.h = h3 ∧ s'.e 5 = .int .i64 j ∧ FrE [33, 34, 35, 36, 37, 38, 39, 40, 41, 42, 43, 44, 45] (upd (upd (upd (upd e3 30 (.bool true)) 31 (ptr bk (m * 1))) 32 (.int .i64 k)) 9 (.int .i64 k)) s'.e ∧ s'.e 45 = .bool (decide (¬ (0 ≤ k ∧ k < j ∧ k ∉ kidsUp l j ++ x.kids.take m)))) ?_ ?_
            · refine Wc_fr ?_
              by_cases k0 : k < 0
              · refine Wc_ops (Wo_run (fun call => by simp only [go_sem, seval, k0]; rfl) ?_)
                exact fun hf => ⟨rfl, rfl, (by simp only [go_sem, seval, e5] <;> first | rfl | assumption | (symm; assumption)), hf, by simp only [upd, dstUpd, reduceIte, Nat.reduceEqDiff]; rw [decide_eq_true (by omega)]⟩
              by_cases kj : (j : Int) ≤ k
              · refine Wc_ops (Wo_run (fun call => by simp only [go_sem, seval, k0, e5, kj]; rfl) ?_)
                exact fun hf => ⟨rfl, rfl, (by simp only [go_sem, seval, e5] <;> first | rfl | assumption | (symm; assumption)), hf, by simp only [upd, dstUpd, reduceIte, Nat.reduceEqDiff]; rw [decide_eq_true (by omega)]⟩
              obtain ⟨kk, rfl⟩ : ∃ kk : Nat, k = kk := ⟨k.toNat, by omega⟩
              have hkk : kk < l.length := by omega
              have hfl : (flagC l.length (kidsUp l j ++ x.kids.take m))[kk * 1]? = some (.bool (decide ((kk : Int) ∈ kidsUp l j ++ x.kids.take m))) := by rw [Nat.mul_one]; exact flagC_at hkk
              refine Wc_ops (Wo_run (fun call => by simp only [go_sem, seval, k0, e5, e4, kj, idx_ok hkk, hu3, hfl]; rfl) ?_)
              refine fun hf => ⟨rfl, rfl, (by simp only [go_sem, seval, e5] <;> first | rfl | assumption | (symm; assumption)), hf, ?_⟩
              simp only [upd, dstUpd, reduceIte, Nat.reduceEqDiff]
              congr 1
              rw [decide_eq_decide]
              constructor
              · intro hm h; exact h.2.2 hm
              · intro h; exact Decidable.byContradiction fun hm => h ⟨by omega, by omega, hm⟩
            · rintro ⟨e4', h4', d4⟩ ⟨hd4, hh4, g5, hf4, g45⟩
              simp only at hd4 hh4 g5 hf4 g45
              rw [hd4, hh4]
              refine Wc_cond _ g45 (fun y => ?_) (fun y => Wc_skip ⟨rfl, rfl, hf4, ?_⟩)
              · have hbad : ¬ GoodT l := fun g => by
                  refine of_decide_eq_true y ⟨((g.ok j x hx).kids k hkmem).1, ((g.ok j x hx).kids k hkmem).2, fun hm => ?_⟩
                  have := (gnd g)
                  have hsub : (kidsUp l j ++ x.kids.take (m + 1)).Nodup := this.sublist (List.Sublist.append (List.Sublist.refl _) (List.take_sublist _ _))
                  rw [htake, ← List.append_assoc] at hsub
                  exact (List.nodup_append.1 hsub).2.2 _ hm _ (List.mem_singleton.2 rfl) rfl
                exact (err hbad _ g5).mono fun x' s hs => by
                  rw [hs.1]; exact leave hbad _ _ ⟨rfl, hs.2⟩
              · exact Decidable.byContradiction fun hc => by rw [decide_eq_true hc] at y; cases y
          rintro ⟨e4', h4', d4⟩ ⟨hd4, hh4, hf4, k0, kj, hknew⟩
          simp only at hd4 hh4 hf4
          rw [hd4, hh4]
          obtain ⟨kk, rfl⟩ : ∃ kk : Nat, k = kk := ⟨k.toNat, by omega⟩
          have hkk : kk < l.length := by omega
          have g9 : e4' 9 = .int .i64 kk := by rw [hf4 9 (by decide)]; simp only [upd, dstUpd, reduceIte, Nat.reduceEqDiff]
          have g4 : e4' 4 = .slice (some ⟨h.next, 0, none⟩) l.length l.length := by rw [hf4 4 (by decide)]; simp only [upd, dstUpd, reduceIte, Nat.reduceEqDiff]; exact e4
          have g0 : e4' 0 = v := by rw [hf4 0 (by decide)]; simp only [upd, dstUpd, reduceIte, Nat.reduceEqDiff]; exact e0
          have g7 : e4' 7 = kv := by rw [hf4 7 (by decide)]; simp only [upd, dstUpd, reduceIte, Nat.reduceEqDiff]; exact h7
          refine Wc_seq (Wc_ops (Wo_pre 3 (fun call => by simp only [go_sem, seval, g4, g9, idx_ok hkk]; rfl) ?_))
          refine Wo_op (iop_store_at (k := kk * 1) (v := .bool true) (by first | rfl | assumption) rfl hu3 (by rw [flagC_len]; omega)) (Wo_nil ?_)
          show Wc T _ _ _
          rw [Nat.mul_one, flagC_set hkk, List.append_assoc, ← htake]
          obtain ⟨y, hy⟩ : ∃ y, l[kk]? = some y := ⟨_, List.getElem?_eq_getElem hkk⟩
          obtain ⟨b5, c5, o5, z5, hvb5, hb5, hg5, _⟩ := (hn.keep hk).load4 hy
          have hb5h : b5 < h.next := by
            obtain ⟨b6, c6, o6, z6, hvb6, hb6, _⟩ := hn.load4 hy
            rw [hvb6] at hvb5; cases hvb5; exact hb6
          have hg5' : (h3.set h.next (.cells (flagC l.length (kidsUp l j ++ x.kids.take (m + 1))) true 1)).get b5 = some (.cells (flatN l) o5 z5) := by
            rw [set_get_ne' _ _ (by omega), hk3.get b5 hb5h]
            rw [hk.get b5 hb5h] at hg5; exact hg5
          have hkind := (flatN_at hy).1
          have hka : kindAt l ((kk : Nat) : Int) = y.kind := by simp only [kindAt, Int.toNat_natCast, hy, Option.map_some, Option.getD_some]
          have hkb' : KeptBut h.next h2 (h3.set h.next (.cells (flagC l.length (kidsUp l j ++ x.kids.take (m + 1))) true 1)) := hkb.set _ (.inl rfl)
          have hu4 : (h3.set h.next (.cells (flagC l.length (kidsUp l j ++ x.kids.take (m + 1))) true 1)).get h.next = some (.cells (flagC l.length (kidsUp l j ++ x.kids.take (m + 1))) true 1) := set_get' _ _ _
          have hown4 : ownI h2.next (h3.set h.next (.cells (flagC l.length (kidsUp l j ++ x.kids.take (m + 1))) true 1)) kv ((x.kids.take m).map (kindAt l)) := hown.keep (Nat.le_refl _) (fun b hb1 hb2 => set_get_ne' _ _ (by have := n2.next; have := n2.kept.next; omega))
          generalize h3.set h.next (.cells (flagC l.length (kidsUp l j ++ x.kids.take (m + 1))) true 1) = h5 at hg5' hkb' hu4 hown4 ⊢
          refine Wc_ops (Wo_pre 6 (fun call => by simp only [go_sem, seval, g7, g0, g9, hvb5, idx_ok hkk, hg5', hkind]; rfl) ?_)
          refine Wo_new (v := .slice (some ⟨h5.next, 0, none⟩) 1 1) (B := .cells [.int .i64 y.kind] true 1) (by simp only [iop, evps, List.map_cons, List.map_nil, ev, upd, reduceIte, fillL, cellsOf, put, List.length_cons, List.length_nil, Nat.reduceAdd, Nat.le_refl, and_self, Option.map_some, List.set_cons_zero]) fun h6 n6 => ?_
          have hel : elemsOf h6 1 (.slice (some ⟨h5.next, 0, none⟩) 1 1) = some ([y.kind].length, ints64 [y.kind]) := intsAt.elems (l := [y.kind]) (.inr ⟨h5.next, 1, rfl, by rw [n6.next]; omega, .inr ⟨true, 1, n6.get⟩⟩)
          have hown6 : ownI h2.next h6 kv ((x.kids.take m).map (kindAt l)) := hown4.keep n6.kept.next (fun b _ hb => n6.kept.get b hb)
          obtain ⟨kv', h7', ha, hbs, hown7, _⟩ := append_own hown6 (Nat.le_trans hkb'.next n6.kept.next) hel (by rw [List.length_map, List.length_take]; simp; omega)
          refine Wo_op (v := kv') (h' := h7') (by simp only [iop, ev, upd, dstUpd, reduceIte, Nat.reduceEqDiff]; exact ha) ?_
          refine (Wo_run (fun call => by simp only [go_sem, seval]; rfl) ?_)
          have hbk7 : KeptBut h.next h2 h7' := ⟨Nat.le_trans (Nat.le_trans hkb'.next n6.kept.next) hbs.next, fun b hb hbn => by
            have := hkb'.next
            have := n6.kept.next
            rw [hbs.at hown6 hb (by omega), n6.kept.get b (by omega), hkb'.get b hb hbn]⟩
          refine ⟨rfl, hbk7, ?_, ⟨kv', (by first | rfl | assumption), ?_⟩, ?_, ?_⟩
          · rw [hbs.at hown6 (by have := n2.kept.next; omega) (by have := n6.kept.next; have := hkb'.next; have := n2.kept.next; omega), n6.kept.get _ (by have := hkb'.next; have := n2.kept.next; omega)]; exact hu4
          · rw [htake, List.map_append, List.map_cons, List.map_nil, hka]; exact hown7
          · intro k hk
            rw [htake, List.mem_append, List.mem_singleton] at hk
            rcases hk with hk | rfl
            · exact hrange k hk
            · exact ⟨k0, kj⟩
          · rw [htake, ← List.append_assoc]
            exact List.nodup_append.2 ⟨hnd3, by simp, fun a ha b hb e => by rw [List.mem_singleton] at hb; subst hb; subst e; exact hknew ha⟩
        · rintro e3 h3 d ⟨rfl, hkb, hu3, hex, hr, hnd3⟩ hfr h29
          rw [List.take_length] at hu3 hex hr hnd3
          have e0 : e3 0 = v := ((hfr 0 (by decide)).trans (by first | rfl | assumption | (symm; assumption)))
          have e4 : e3 4 = .slice (some ⟨h.next, 0, none⟩) l.length l.length := ((hfr 4 (by decide)).trans (by first | rfl | assumption | (symm; assumption)))
          have e5 : e3 5 = .int .i64 j := ((hfr 5 (by decide)).trans (by first | rfl | assumption | (symm; assumption)))
          have e6 : e3 6 = ptr h'.next 0 := ((hfr 6 (by decide)).trans (by first | rfl | assumption | (symm; assumption)))
          obtain ⟨kv, h7, hown⟩ := hex
          exact ⟨rfl, hkb, hu3, (by simp only [go_sem, seval, e0] <;> first | rfl | assumption | (symm; assumption)), (by simp only [go_sem, seval, e4] <;> first | rfl | assumption | (symm; assumption)), (by simp only [go_sem, seval, e5] <;> first | rfl | assumption | (symm; assumption)), by simp only [upd, dstUpd, reduceIte, Nat.reduceEqDiff]; exact e6, ⟨kv, (by simp only [go_sem, seval, h7] <;> first | rfl | assumption | (symm; assumption)), hown⟩, hr, hnd3⟩
      · rintro ⟨e3, h3, d3⟩ ⟨hd3, hkb, hu3, e0, e4, e5, e6, ⟨kv, e7, hown⟩, hr, hnd3⟩
        simp only at hd3 hkb hu3 e0 e4 e5 e6 e7 hown
        rw [hd3]
        have hk3 : Kept h h3 := hk2.of_but hkb (Nat.le_refl _)
        have hgx : h3.get h'.next = some (.cells x.cells true 0) := by rw [hkb.get _ (by rw [n2.next]; omega) (by omega)]; exact n2.get
        have pg : ptr h'.next 0 = .pointer (some ⟨h'.next, 0, none⟩) := rfl
        rw [pg] at e6
        have hcx : h3.cells h'.next 0 4 = some x.cells := cells_all hgx rfl
        have leave : ¬ GoodT l → ∀ (b : Int), b ≠ 0 → ∀ (e' : Env) (h4 : Heap), Kept h h4 → e' 2 = .int .i64 j → e' 3 = .int .i64 b → (Ex.ret = .normal ∨ Ex.ret = .ret) ∧ some ([] : List Dfr) = some [] ∧ ∃ vs, resAll e' h4 [.tmp 2, .tmp 3] = some vs ∧ Kept h h4 ∧ ∃ a b : Int, Out.ret (tup vs) = .ret (.tuple #[.int .i64 a, .int .i64 b]) ∧ (b = 0 ↔ GoodT l) := fun hb b hb0 e' h4 hk4 g2 g3 =>
          fin e' h4 .ret j b hk4 (.inr rfl) g2 g3 (bad hb0 hb)
        have hu4 : ∀ h4, Kept h3 h4 → h4.get h.next = some (.cells (flagC l.length (kidsUp l j ++ x.kids)) true 1) := fun h4 k4 => by
          rw [k4.get _ (by have := hkb.next; have := n2.kept.next; omega)]; exact hu3
        refine Wc_mid (fun s' => s'.d = some [] ∧ s'.h = h3 ∧ s'.e 0 = v ∧ s'.e 4 = .slice (some ⟨h.next, 0, none⟩) l.length l.length ∧ s'.e 5 = .int .i64 j ∧ s'.e 6 = .pointer (some ⟨h'.next, 0, none⟩) ∧ s'.e 7 = kv ∧ 0 ≤ x.pos ∧ 1 ≤ x.kind ∧ x.kind ≤ 30) ?_ ?_
        · have out : ¬ (0 ≤ x.pos ∧ 1 ≤ x.kind ∧ x.kind ≤ 30) → ¬ GoodT l := fun hc g => hc ⟨(g.ok j x hx).pos, (g.ok j x hx).kind⟩
          by_cases p0 : x.pos < 0
          · refine Wc_seq (Wc_ops (Wo_run (fun call => by simp only [go_sem, seval, e6, hgx, Nd.cells, p0]; rfl) ?_))
            show Wc T _ _ _
            refine Wc_cond true (by first | rfl | assumption) (fun _ => ?_) (fun e => by cases e)
            refine Wc_seq (Wc_ops (Wo_run (fun call => by simp only [go_sem, seval, e5]; rfl) ?_))
            exact Wc_ret (leave (out (by omega)) 50 (by decide) _ _ hk3 (by first | rfl | assumption) (by first | rfl | assumption))
          by_cases p1 : x.kind < 1
          · refine Wc_seq (Wc_ops (Wo_run (fun call => by simp only [go_sem, seval, e6, hgx, Nd.cells, p0, p1]; rfl) ?_))
            show Wc T _ _ _
            refine Wc_cond true (by first | rfl | assumption) (fun _ => ?_) (fun e => by cases e)
            refine Wc_seq (Wc_ops (Wo_run (fun call => by simp only [go_sem, seval, e5]; rfl) ?_))
            exact Wc_ret (leave (out (by omega)) 50 (by decide) _ _ hk3 (by first | rfl | assumption) (by first | rfl | assumption))
          by_cases p2 : (30 : Int) < x.kind
          · refine Wc_seq (Wc_ops (Wo_run (fun call => by simp only [go_sem, seval, e6, hgx, Nd.cells, p0, p1, p2]; rfl) ?_))
            show Wc T _ _ _
            refine Wc_cond true (by first | rfl | assumption) (fun _ => ?_) (fun e => by cases e)
            refine Wc_seq (Wc_ops (Wo_run (fun call => by simp only [go_sem, seval, e5]; rfl) ?_))
            exact Wc_ret (leave (out (by omega)) 50 (by decide) _ _ hk3 (by first | rfl | assumption) (by first | rfl | assumption))
          refine Wc_seq (Wc_ops (Wo_run (fun call => by simp only [go_sem, seval, e6, hgx, Nd.cells, p0, p1, p2]; rfl) ?_))
          show Wc T _ _ _
          refine Wc_cond false (by first | rfl | assumption) (fun e => by cases e) (fun _ => Wc_skip ?_)
          exact ⟨rfl, rfl, (by simp only [go_sem, seval, e0] <;> first | rfl | assumption | (symm; assumption)), (by simp only [go_sem, seval, e4] <;> first | rfl | assumption | (symm; assumption)), (by simp only [go_sem, seval, e5] <;> first | rfl | assumption | (symm; assumption)), (by simp only [go_sem, seval, e6] <;> first | rfl | assumption | (symm; assumption)), (by simp only [go_sem, seval, e7] <;> first | rfl | assumption | (symm; assumption)), by omega, by omega, by omega⟩
        rintro ⟨e3', h3', d3'⟩ ⟨hd3', hh3', e0, e4, e5, e6, e7, p0, p1, p2⟩
        simp only at hd3' hh3' e0 e4 e5 e6 e7
        rw [hd3', hh3']
        refine Wc_mid (fun s' => s'.d = some [] ∧ Kept h3 s'.h ∧ s'.e 5 = .int .i64 j ∧ s'.e 6 = .pointer (some ⟨h'.next, 0, none⟩) ∧ s'.e 7 = kv ∧ textB x.kind x.text = true) ?_ ?_
        · refine Wc_seq (Wc_ops (Wo_pre 1 (fun call => by simp only [go_sem, seval, e6, hcx]; rfl) ?_))
          refine Wo_call (Wk_kept (text_ok F.text F.Name F.letter F.digit F.Word F.Number F.whole F.figure F.Operator (x := x) (hS x hxm)) fun h4 k4 => ?_)
          refine (Wo_run (fun call => by simp only [go_sem, seval]; rfl) ?_)
          show Wc T _ _ _
          cases ht : textB x.kind x.text
          · refine Wc_cond true (by simp only [go_sem, seval, ht] <;> first | rfl | assumption | (symm; assumption)) (fun _ => ?_) (fun e => by cases e)
            refine Wc_seq (Wc_ops (Wo_run (fun call => by simp only [go_sem, seval, e5]; rfl) ?_))
            exact Wc_ret (leave (fun g => by rw [(g.ok j x hx).text] at ht; cases ht) 52 (by decide) _ _ (hk3.trans k4) (by first | rfl | assumption) (by first | rfl | assumption))
          · refine Wc_cond false (by simp only [go_sem, seval, ht] <;> first | rfl | assumption | (symm; assumption)) (fun e => by cases e) (fun _ => Wc_skip ?_)
            exact ⟨rfl, k4, (by simp only [go_sem, seval, e5] <;> first | rfl | assumption | (symm; assumption)), (by simp only [go_sem, seval, e6] <;> first | rfl | assumption | (symm; assumption)), (by simp only [go_sem, seval, e7] <;> first | rfl | assumption | (symm; assumption)), rfl⟩
        rintro ⟨e4', h4, d4⟩ ⟨hd4, k4, e5, e6, e7, ht⟩
        simp only at hd4 k4 e5 e6 e7
        rw [hd4]
        have hown4 := hown.keep k4.next (fun b _ hb => k4.get b hb)
        have hgx4 : h4.get h'.next = some (.cells x.cells true 0) := by rw [k4.get _ (by have := hkb.next; rw [n2.next] at this; omega)]; exact hgx
        refine Wc_seq (Wc_ops (Wo_pre 3 (fun call => by simp only [go_sem, seval, e6, hgx4, Nd.cells, e7]; rfl) ?_))
        refine Wo_call (Wk_pure (shape_ok F.shape F.all F.exprs F.Expr F.Stmt (kind := x.kind) (v := kv) (ks := x.kids.map (kindAt l)) hown4.ints.r (by rw [List.length_map]; omega) ?_) ?_)
        · intro a n c hkv'
          rcases hown4 with ⟨_, h1⟩ | ⟨b, h1, h2, h3, h4'⟩
          · rw [h1] at hkv'; cases hkv'
          · rw [h3] at hkv'; cases hkv'
            simp only [okSz, h4']; rfl
        refine (Wo_run (fun call => by simp only [go_sem, seval]; rfl) ?_)
        show Wc T _ _ _
        cases hsh : shapeB x.kind (x.kids.map (kindAt l))
        · refine Wc_cond true (by simp only [go_sem, seval, hsh] <;> first | rfl | assumption | (symm; assumption)) (fun _ => ?_) (fun e => by cases e)
          refine Wc_seq (Wc_ops (Wo_run (fun call => by simp only [go_sem, seval, e5]; rfl) ?_))
          exact Wc_ret (leave (fun g => by rw [(g.ok j x hx).shape] at hsh; cases hsh) 53 (by decide) _ _ (hk3.trans k4) (by first | rfl | assumption) (by first | rfl | assumption))
        · refine Wc_cond false (by simp only [go_sem, seval, hsh] <;> first | rfl | assumption | (symm; assumption)) (fun e => by cases e) (fun _ => Wc_skip ?_)
          refine ⟨rfl, hk3.trans k4, by rw [kidsUp_succ hx]; exact hu4 _ k4, ?_, ?_, by rw [kidsUp_succ hx]; exact hnd3⟩
          · show h.next < h4.next
            have := hk3.next; have := k4.next; have := hkb.next; have := n2.kept.next; omega
          · intro n hn y hy
            rcases Nat.lt_or_eq_of_le (Nat.le_of_lt_succ hn) with h1 | h1
            · exact hok n h1 y hy
            · subst h1; rw [hx] at hy; cases hy; exact ⟨hr, p0, ⟨p1, p2⟩, ht, hsh⟩
    · rintro e h' d ⟨rfl, hk, hu, hun, hok, hnd⟩ hfr h21
      have e0 : e 0 = v := ((hfr 0 (by decide)).trans (by first | rfl | assumption | (symm; assumption)))
      have e4 : e 4 = .slice (some ⟨h.next, 0, none⟩) l.length l.length := ((hfr 4 (by decide)).trans (by first | rfl | assumption | (symm; assumption)))
      exact ⟨rfl, hk, hu, hun, (by simp only [go_sem, seval, e0] <;> first | rfl | assumption | (symm; assumption)), (by simp only [go_sem, seval, e4] <;> first | rfl | assumption | (symm; assumption)), fun n x hx => hok n (List.getElem?_eq_some_iff.1 hx).1 x hx, hnd⟩
  rintro ⟨e, h2, d⟩ ⟨hd, hk, hu, hun, e0, e4, hok, hnd⟩
  simp only at hd hk hu hun e0 e4
  rw [hd]
  have ew : IntKind.i64.wrap (((l.length : Nat) : Int) - 1) = ((l.length : Nat) : Int) - 1 := wrap64 (by omega) (by omega)
  refine Wc_seq (Wc_ops (Wo_run (fun call => by simp only [go_sem, seval, e0, hvl, ew]; rfl) ?_))
  show Wc T _ _ _
  by_cases hne : l.length = 0
  · have z : ((l.length : Nat) : Int) - 1 < 0 := by omega
    refine Wc_seq (Wc_seq (Wc_ops (Wo_run (fun call => by simp only [go_sem, seval, z]; rfl) ?_)))
    show Wc T _ _ _
    refine Wc_cond true (by first | rfl | assumption) (fun _ => ?_) (fun e => by cases e)
    refine Wc_seq (Wc_ops (Wo_run (fun call => by simp only [go_sem, seval]; rfl) ?_))
    exact Wc_ret (fin _ _ _ 0 50 hk (.inr rfl) (by first | rfl | assumption) (by first | rfl | assumption) (bad (by decide) fun g => by have := g.ne; omega))
  have z : ¬ ((l.length : Nat) : Int) - 1 < 0 := by omega
  refine Wc_seq (Wc_seq (Wc_ops (Wo_run (fun call => by simp only [go_sem, seval, z]; rfl) ?_)))
  show Wc T _ _ _
  refine Wc_cond false (by first | rfl | assumption) (fun e => by cases e) (fun _ => Wc_skip ?_)
  show Wc T _ _ _
  refine Wc_mid (fun s' => s'.d = some [] ∧ Kept h s'.h ∧ s'.e 0 = v ∧ (∀ n x, l[n]? = some x → (x.kind = 1 ↔ n + 1 = l.length)) ∧ (∀ n : Nat, n + 1 < l.length → (n : Int) ∈ kidsUp l l.length)) ?_ ?_
  · refine Wc_seq (Wc_ops (Wo_run (fun call => by simp only [go_sem, seval, e0, hvl]; rfl) ?_))
    show Wc T _ _ _
    refine Wc_range l.length (fun j e h' d => d = some [] ∧ Kept h2 h' ∧ (∀ n, n < j → ∀ x, l[n]? = some x → (x.kind = 1 ↔ n + 1 = l.length)) ∧ (∀ n : Nat, n < j → n + 1 < l.length → (n : Int) ∈ kidsUp l l.length)) (by decide) (by first | rfl | assumption) (by first | rfl | assumption) (by omega) (by decide) ⟨rfl, .refl _, fun n hn => by omega, fun n hn => by omega⟩ ?_ ?_
    · rintro j e' h' d hj ⟨rfl, hk2, hlast, hused⟩ hfr h91 h90
      obtain ⟨x, hx⟩ : ∃ x, l[j]? = some x := ⟨_, List.getElem?_eq_getElem hj⟩
      obtain ⟨b, c, o, z', hvb, hb, hg, hcs⟩ := (hn.keep (hk.trans hk2)).load4 hx
      have e89 : e' 89 = v := ((hfr 89 (by decide)).trans (by first | rfl | assumption | (symm; assumption)))
      have e4' : e' 4 = .slice (some ⟨h.next, 0, none⟩) l.length l.length := ((hfr 4 (by decide)).trans (by first | rfl | assumption | (symm; assumption)))
      have e10 : e' 10 = .int .i64 (((l.length : Nat) : Int) - 1) := ((hfr 10 (by decide)).trans (by first | rfl | assumption | (symm; assumption)))
      refine Wc_seq (Wc_ops (Wo_pre 5 (fun call => by simp only [go_sem, seval, h91, e89, hvb, idx_ok hj, hcs]; rfl) ?_))
      refine Wo_store_new (cs := x.cells) (h := h') (by first | rfl | assumption) (by first | rfl | assumption) rfl rfl fun h3 n3 => Wo_nil ?_
      show Wc T _ _ _
      have hu3 : h3.get h.next = some (.cells (flagC l.length (kidsUp l l.length)) true 1) := by
        rw [n3.kept.get _ (by have := hk2.next; omega), hk2.get _ hun]; exact hu
      have hfl : (flagC l.length (kidsUp l l.length))[j * 1]? = some (.bool (decide ((j : Int) ∈ kidsUp l l.length))) := by rw [Nat.mul_one]; exact flagC_at hj
      have hk3 : Kept h2 h3 := hk2.trans n3.kept
      have hq : (((j : Nat) : Int) == ((l.length : Nat) : Int) - 1) = decide (j + 1 = l.length) := by rw [Bool.beq_eq_decide_eq, decide_eq_decide]; omega
      have hp : (x.kind == 1) = decide (x.kind = 1) := Bool.beq_eq_decide_eq _ _
      have good : (x.kind = 1 ↔ j + 1 = l.length) → (j + 1 < l.length → (j : Int) ∈ kidsUp l l.length) → (∀ n, n < j + 1 → ∀ x, l[n]? = some x → (x.kind = 1 ↔ n + 1 = l.length)) ∧ (∀ n : Nat, n < j + 1 → n + 1 < l.length → (n : Int) ∈ kidsUp l l.length) := fun g1 g2 => ⟨fun n hn y hy => by
          rcases Nat.lt_or_eq_of_le (Nat.le_of_lt_succ hn) with h1 | h1
          · exact hlast n h1 y hy
          · subst h1; rw [hx] at hy; cases hy; exact g1, fun n hn => by
          rcases Nat.lt_or_eq_of_le (Nat.le_of_lt_succ hn) with h1 | h1
          · exact hused n h1
          · subst h1; exact g2⟩
      have errR : ¬ GoodT l → ∀ e : Env, e 113 = e 113 → e 10 = .int .i64 (((l.length : Nat) : Int) - 1) → Wc T (.seq (.ops [⟨(some 115), .op (.mov (.t 10)), none⟩, ⟨(some 2), .op (.mov (.t 115)), none⟩, ⟨(some 3), .op (.mov (.c (.int .i64 50))), none⟩]) .ret) ⟨e, h3, some []⟩ (fun x s => x = .ret ∧ (x = .normal ∨ x = .ret) ∧ s.d = some [] ∧ ∃ vs, resAll s.e s.h [.tmp 2, .tmp 3] = some vs ∧ Kept h s.h ∧ ∃ a b : Int, Out.ret (tup vs) = .ret (.tuple #[.int .i64 a, .int .i64 b]) ∧ (b = 0 ↔ GoodT l)) := by
        intro hb e _ g10
        refine Wc_seq (Wc_ops (Wo_run (fun call => by simp only [go_sem, seval, g10]; rfl) ?_))
        exact Wc_ret ⟨rfl, fin _ _ _ _ 50 (hk.trans hk3) (.inr rfl) (by first | rfl | assumption) (by first | rfl | assumption) (bad (by decide) hb)⟩
      cases p : decide (x.kind = 1) <;> cases q : decide (j + 1 = l.length)
      · -- neither
        cases u : decide ((j : Int) ∈ kidsUp l l.length)
        · refine Wc_seq (Wc_ops (Wo_run (fun call => by simp only [go_sem, seval, n3.get, Nd.cells, e4', e10, hp, hq, p, q, bne, idx_ok hj, hu3, hfl, u]; rfl) ?_))
          show Wc T _ _ _
          refine Wc_cond true (by first | rfl | assumption) (fun _ => ?_) (fun e => by cases e)
          refine (errR (fun g => ?_) _ rfl (by simp only [go_sem, seval, e10] <;> first | rfl | assumption | (symm; assumption))).mono fun x' s hs => by rw [hs.1]; exact ⟨.inr rfl, hs.2.2⟩
          have := g.used j (by have := of_decide_eq_false q; omega)
          rw [decide_eq_true this] at u; cases u
        · refine Wc_seq (Wc_ops (Wo_run (fun call => by simp only [go_sem, seval, n3.get, Nd.cells, e4', e10, hp, hq, p, q, bne, idx_ok hj, hu3, hfl, u]; rfl) ?_))
          show Wc T _ _ _
          refine Wc_cond false (by first | rfl | assumption) (fun e => by cases e) (fun _ => Wc_skip ?_)
          exact ⟨rfl, hk3, good ⟨fun e => absurd e (of_decide_eq_false p), fun e => absurd e (of_decide_eq_false q)⟩ fun _ => of_decide_eq_true u⟩
      · refine Wc_seq (Wc_ops (Wo_run (fun call => by simp only [go_sem, seval, n3.get, Nd.cells, e4', e10, hp, hq, p, q, bne]; rfl) ?_))
        show Wc T _ _ _
        refine Wc_cond true (by first | rfl | assumption) (fun _ => ?_) (fun e => by cases e)
        refine (errR (fun g => ?_) _ rfl (by simp only [go_sem, seval, e10] <;> first | rfl | assumption | (symm; assumption))).mono fun x' s hs => by rw [hs.1]; exact ⟨.inr rfl, hs.2.2⟩
        exact of_decide_eq_false p ((g.last j x hx).2 (of_decide_eq_true q))
      · refine Wc_seq (Wc_ops (Wo_run (fun call => by simp only [go_sem, seval, n3.get, Nd.cells, e4', e10, hp, hq, p, q, bne]; rfl) ?_))
        show Wc T _ _ _
        refine Wc_cond true (by first | rfl | assumption) (fun _ => ?_) (fun e => by cases e)
        refine (errR (fun g => ?_) _ rfl (by simp only [go_sem, seval, e10] <;> first | rfl | assumption | (symm; assumption))).mono fun x' s hs => by rw [hs.1]; exact ⟨.inr rfl, hs.2.2⟩
        exact of_decide_eq_false q ((g.last j x hx).1 (of_decide_eq_true p))
      · cases u : decide ((j : Int) ∈ kidsUp l l.length)
        · refine Wc_seq (Wc_ops (Wo_run (fun call => by simp only [go_sem, seval, n3.get, Nd.cells, e4', e10, hp, hq, p, q, bne, idx_ok hj, hu3, hfl, u]; rfl) ?_))
          show Wc T _ _ _
          refine Wc_cond false (by first | rfl | assumption) (fun e => by cases e) (fun _ => Wc_skip ?_)
          exact ⟨rfl, hk3, good ⟨fun _ => of_decide_eq_true q, fun _ => of_decide_eq_true p⟩ fun hlt => by have := of_decide_eq_true q; omega⟩
        · refine Wc_seq (Wc_ops (Wo_run (fun call => by simp only [go_sem, seval, n3.get, Nd.cells, e4', e10, hp, hq, p, q, bne, idx_ok hj, hu3, hfl, u]; rfl) ?_))
          show Wc T _ _ _
          refine Wc_cond false (by first | rfl | assumption) (fun e => by cases e) (fun _ => Wc_skip ?_)
          exact ⟨rfl, hk3, good ⟨fun _ => of_decide_eq_true q, fun _ => of_decide_eq_true p⟩ fun _ => of_decide_eq_true u⟩
    · rintro e' h' d ⟨rfl, hk2, hlast, hused⟩ hfr h91
      have e0' : e' 0 = v := ((hfr 0 (by decide)).trans (by first | rfl | assumption | (symm; assumption)))
      exact ⟨rfl, hk.trans hk2, (by simp only [go_sem, seval, e0'] <;> first | rfl | assumption | (symm; assumption)), fun n x hx => hlast n (List.getElem?_eq_some_iff.1 hx).1 x hx, fun n hn => hused n (by omega) hn⟩
  rintro ⟨e', h3, d⟩ ⟨hd3, hk3, e0', hlast, hused⟩
  simp only at hd3 hk3 e0'
  rw [hd3]
  refine Wc_seq (Wc_seq (Wc_ops (Wo_pre 1 (fun call => by simp only [go_sem, seval, e0']; rfl) ?_)))
  refine Wo_call (Wk_kept (deep14 F.deep (hn.keep hk3) (by omega) hK) fun h4 k4 => ?_)
  refine (Wo_run (fun call => by simp only [go_sem, seval]; rfl) ?_)
  show Wc T _ _ _
  by_cases hdp : deepOf l ≤ 200
  case neg =>
    refine Wc_cond true (by simp only [go_sem, seval, decide_eq_true (show (200 : Int) < ((deepOf l : Nat) : Int) by omega)] <;> first | rfl | assumption | (symm; assumption)) (fun _ => ?_) (fun e => by cases e)
    refine Wc_seq (Wc_ops (Wo_run (fun call => by simp only [go_sem, seval]; rfl) ?_))
    exact Wc_ret (fin _ _ _ 0 51 (hk3.trans k4) (.inr rfl) (by first | rfl | assumption) (by first | rfl | assumption) (bad (by decide) fun g => hdp g.deep))
  refine Wc_cond false (by simp only [go_sem, seval, decide_eq_false (show ¬ (200 : Int) < ((deepOf l : Nat) : Int) by omega)] <;> first | rfl | assumption | (symm; assumption)) (fun e => by cases e) (fun _ => Wc_skip ?_)
  show Wc T _ _ _
  refine Wc_seq (Wc_ops (Wo_run (fun call => by simp only [go_sem, seval]; rfl) ?_))
  exact Wc_ret (fin _ _ _ 0 0 (hk3.trans k4) (.inr rfl) (by first | rfl | assumption) (by first | rfl | assumption) ⟨fun _ => ⟨by omega, hok, hnd, by omega, hlast, hused, hdp⟩, fun _ => rfl⟩)
end Go.Idl
end

section
namespace Go.Idl
variable {T : Tbl}
def lettersOf (k : Int) : ByteArray :=
  if k = 2 ∨ k = 3 then ⟨#[100]⟩ else if k = 4 then ⟨#[98, 111]⟩ else if k = 14 then ⟨#[111]⟩ else if k = 17 then ⟨#[110, 101, 112]⟩ else if k = 20 ∨ k = 21 ∨ k = 30 then ⟨#[101, 112]⟩ else if k = 22 then ⟨#[101, 99]⟩
  else if 5 ≤ k ∧ k ≤ 13 then ⟨#[115]⟩ else if 15 ≤ k ∧ k ≤ 30 then ⟨#[101]⟩ else ⟨#[]⟩
theorem letters_ok (hT : T.fn 27 = some C27) {k : Int} {h : Heap} : Wk T (.fn 27) [.int .i64 k] h (fun o h' => h' = h ∧ o = .ret (.string (lettersOf k))) := by
  refine Wk_fn hT (by simp [C27]) ?_
  simp only [C27]
  have fin : ∀ (e : Env) (x : Ex) (b : ByteArray), (x = .normal ∨ x = .ret) → e 2 = .string b → lettersOf k = b → (x = .normal ∨ x = .ret) ∧ some ([] : List Dfr) = some [] ∧ ∃ vs, resAll e h [.tmp 2] = some vs ∧ h = h ∧ Out.ret (tup vs) = .ret (.string (lettersOf k)) := fun e x b hx h4 hb =>
    ⟨hx, rfl, [.string b], by simp only [resAll, resV, h4], rfl, by rw [hb]; rfl⟩
  refine Wc_seq (Wc_ops (Wo_run (fun call => by simp only [go_sem, seval]; rfl) ?_))
  show Wc T _ _ _
  refine Wc_seq (Wc_seq (Wc_ops (Wo_run (fun call => by simp only [go_sem, seval]; rfl) ?_)))
  show Wc T _ _ _
  refine Wc_block ?_
  refine Wc_mid (fun s' => s'.d = some [] ∧ s'.h = h ∧ s'.e 0 = .int .i64 k ∧ s'.e 3 = .int .i64 k ∧ s'.e 4 = .bool (decide (k = 2 ∨ k = 3))) ?_ ?_
  · clear fin
    refine Wc_case (by first | rfl | assumption) (fun y => Wc_skip ⟨rfl, rfl, (by first | rfl | assumption), (by first | rfl | assumption), by simp only [upd, dstUpd, reduceIte, Nat.reduceEqDiff, y, true_or, decide_true]⟩) (fun m0 => ?_)
    refine Wc_ops (Wo_run (fun call => by simp only [go_sem, seval]; rfl) ?_)
    exact ⟨rfl, rfl, (by first | rfl | assumption), (by first | rfl | assumption), by simp only [upd, dstUpd, reduceIte, Nat.reduceEqDiff, Bool.beq_eq_decide_eq, m0, false_or]⟩
  rintro ⟨e, h', d⟩ ⟨hd, hh, g0, g3, g4⟩
  simp only at hd hh g0 g3 g4
  rw [hd, hh]
  refine Wc_cond _ g4 (fun y => ?_) (fun y => ?_)
  · have y := of_decide_eq_true y
    refine Wc_seq (Wc_ops (Wo_run (fun call => by simp only [go_sem, seval]; rfl) ?_))
    exact Wc_ret (fin _ _ _ (.inr rfl) (by first | rfl | assumption) (by rw [lettersOf, if_pos y]))
  have n2 := of_decide_eq_false y
  refine Wc_case g3 (fun y4 => ?_) (fun n4 => ?_)
  · refine Wc_seq (Wc_ops (Wo_run (fun call => by simp only [go_sem, seval]; rfl) ?_))
    exact Wc_ret (fin _ _ _ (.inr rfl) (by first | rfl | assumption) (by rw [lettersOf, if_neg n2, if_pos y4]))
  refine Wc_case (by simp only [go_sem, seval, g3] <;> first | rfl | assumption | (symm; assumption)) (fun y14 => ?_) (fun n14 => ?_)
  · refine Wc_seq (Wc_ops (Wo_run (fun call => by simp only [go_sem, seval]; rfl) ?_))
    exact Wc_ret (fin _ _ _ (.inr rfl) (by first | rfl | assumption) (by rw [lettersOf, if_neg n2, if_neg n4, if_pos y14]))
  refine Wc_case (by simp only [go_sem, seval, g3] <;> first | rfl | assumption | (symm; assumption)) (fun y17 => ?_) (fun n17 => ?_)
  · refine Wc_seq (Wc_ops (Wo_run (fun call => by simp only [go_sem, seval]; rfl) ?_))
    exact Wc_ret (fin _ _ _ (.inr rfl) (by first | rfl | assumption) (by rw [lettersOf, if_neg n2, if_neg n4, if_neg n14, if_pos y17]))
  refine Wc_mid (fun s' => s'.d = some [] ∧ s'.h = h ∧ s'.e 0 = .int .i64 k ∧ s'.e 3 = .int .i64 k ∧ s'.e 13 = .bool (decide (k = 20 ∨ k = 21 ∨ k = 30))) ?_ ?_
  · clear fin
    refine Wc_case (by simp only [go_sem, seval, g3] <;> first | rfl | assumption | (symm; assumption)) (fun y => Wc_skip ⟨rfl, rfl, (by simp only [go_sem, seval, g0] <;> first | rfl | assumption | (symm; assumption)), (by simp only [go_sem, seval, g3] <;> first | rfl | assumption | (symm; assumption)), by simp only [upd, dstUpd, reduceIte, Nat.reduceEqDiff, y, true_or, decide_true]⟩) (fun m0 => ?_)
    refine Wc_case (by simp only [go_sem, seval, g3] <;> first | rfl | assumption | (symm; assumption)) (fun y => Wc_skip ⟨rfl, rfl, (by simp only [go_sem, seval, g0] <;> first | rfl | assumption | (symm; assumption)), (by simp only [go_sem, seval, g3] <;> first | rfl | assumption | (symm; assumption)), by simp only [upd, dstUpd, reduceIte, Nat.reduceEqDiff, y, true_or, or_true, decide_true]⟩) (fun m1 => ?_)
    refine Wc_ops (Wo_run (fun call => by simp only [go_sem, seval, g3]; rfl) ?_)
    exact ⟨rfl, rfl, (by simp only [go_sem, seval, g0] <;> first | rfl | assumption | (symm; assumption)), (by simp only [go_sem, seval, g3] <;> first | rfl | assumption | (symm; assumption)), by simp only [upd, dstUpd, reduceIte, Nat.reduceEqDiff, Bool.beq_eq_decide_eq, m0, m1, false_or]⟩
  rintro ⟨e, h', d⟩ ⟨hd, hh, g0, g3, g13⟩
  simp only at hd hh g0 g3 g13
  rw [hd, hh]
  refine Wc_cond _ g13 (fun y => ?_) (fun y => ?_)
  · have y := of_decide_eq_true y
    refine Wc_seq (Wc_ops (Wo_run (fun call => by simp only [go_sem, seval]; rfl) ?_))
    exact Wc_ret (fin _ _ _ (.inr rfl) (by first | rfl | assumption) (by rw [lettersOf, if_neg n2, if_neg n4, if_neg n14, if_neg n17, if_pos y]))
  have n20 := of_decide_eq_false y
  refine Wc_case (by simp only [go_sem, seval, g3] <;> first | rfl | assumption | (symm; assumption)) (fun y22 => ?_) (fun n22 => Wc_skip ?_)
  · refine Wc_seq (Wc_ops (Wo_run (fun call => by simp only [go_sem, seval]; rfl) ?_))
    exact Wc_ret (fin _ _ _ (.inr rfl) (by first | rfl | assumption) (by rw [lettersOf, if_neg n2, if_neg n4, if_neg n14, if_neg n17, if_neg n20, if_pos y22]))
  show Wc T _ _ _
  have pre : lettersOf k = if 5 ≤ k ∧ k ≤ 13 then ⟨#[115]⟩ else if 15 ≤ k ∧ k ≤ 30 then ⟨#[101]⟩ else ⟨#[]⟩ := by rw [lettersOf, if_neg n2, if_neg n4, if_neg n14, if_neg n17, if_neg n20, if_neg n22]
  refine Wc_seq (Wc_block ?_)
  refine Wc_mid (fun s' => s'.d = some [] ∧ s'.h = h ∧ s'.e 0 = .int .i64 k ∧ s'.e 19 = .bool (decide (5 ≤ k ∧ k ≤ 13))) ?_ ?_
  · by_cases x1 : (5 : Int) ≤ k <;> by_cases x2 : k ≤ 13 <;> first
      | (exfalso; omega)
      | (refine Wc_ops (Wo_run (fun call => by simp only [go_sem, seval, g0, x1, x2]; rfl) ?_); exact ⟨rfl, rfl, (by simp only [go_sem, seval, g0] <;> first | rfl | assumption | (symm; assumption)), (by simp only [go_sem, seval, x1, x2, and_self, and_true, and_false, decide_true, decide_false] <;> first | rfl | assumption | (symm; assumption))⟩)
  rintro ⟨e, h', d⟩ ⟨hd, hh, g0, g19⟩
  simp only at hd hh g0 g19
  rw [hd, hh]
  refine Wc_cond _ g19 (fun y => ?_) (fun y => ?_)
  · refine Wc_seq (Wc_ops (Wo_run (fun call => by simp only [go_sem, seval]; rfl) ?_))
    exact Wc_ret (fin _ _ _ (.inr rfl) (by first | rfl | assumption) (by rw [pre, if_pos (of_decide_eq_true y)]))
  have n5 := of_decide_eq_false y
  refine Wc_mid (fun s' => s'.d = some [] ∧ s'.h = h ∧ s'.e 26 = .bool (decide (15 ≤ k ∧ k ≤ 30))) ?_ ?_
  · by_cases x1 : (15 : Int) ≤ k <;> by_cases x2 : k ≤ 30 <;> first
      | (exfalso; omega)
      | (refine Wc_ops (Wo_run (fun call => by simp only [go_sem, seval, g0, x1, x2]; rfl) ?_); exact ⟨rfl, rfl, (by simp only [go_sem, seval, x1, x2, and_self, and_true, and_false, decide_true, decide_false] <;> first | rfl | assumption | (symm; assumption))⟩)
  rintro ⟨e, h', d⟩ ⟨hd, hh, g26⟩
  simp only at hd hh g26
  rw [hd, hh]
  refine Wc_cond _ g26 (fun y => ?_) (fun y => Wc_skip ?_)
  · refine Wc_seq (Wc_ops (Wo_run (fun call => by simp only [go_sem, seval]; rfl) ?_))
    exact Wc_ret (fin _ _ _ (.inr rfl) (by first | rfl | assumption) (by rw [pre, if_neg n5, if_pos (of_decide_eq_true y)]))
  show Wc T _ _ _
  refine Wc_seq (Wc_ops (Wo_run (fun call => by simp only [go_sem, seval]; rfl) ?_))
  exact Wc_ret (fin _ _ _ (.inr rfl) (by first | rfl | assumption) (by rw [pre, if_neg n5, if_neg (of_decide_eq_false y)]))
def Asc (s : ByteArray) : Prop := ∀ b ∈ s.data.toList, b.toNat < 128
theorem letters_asc (k : Int) : Asc (lettersOf k) := by
  unfold lettersOf Asc
  repeat' split
  all_goals (intro b hb; revert b; decide)
def hasB (s : ByteArray) (c : Int) : Bool := (bs s).any fun b => ((b.toNat : Nat) : Int) == c
theorem hasRune_ok (hT : T.fn 26 = some C26) {s : ByteArray} {c : Int} {h : Heap} (ha : Asc s) : Wk T (.fn 26) [.string s, .int .i32 c] h (fun o h' => Kept h h' ∧ o = .ret (.bool (hasB s c))) := by
  refine Wk_fn hT (by simp [C26]) ?_
  simp only [C26]
  refine Wc_seq (Wc_ops (Wo_run (fun call => by simp only [go_sem, seval]; rfl) ?_))
  show Wc T _ _ _
  refine Wc_seq (Wc_seq (Wc_ops (Wo_pre 1 (fun call => by simp only [go_sem, seval]; rfl) ?_)))
  refine Wo_new (v := ptr h.next 0) (B := .siter s 0) (by simp only [iop, ev, upd, reduceIte]) fun h1 n1 => Wo_nil ?_
  show Wc T _ _ _
  refine Wc_rangeStr (s := s) (bi := h.next) (fun j e h' d => d = some [] ∧ Kept h h' ∧ ∀ i, i < j → ∀ b, (bs s)[i]? = some b → ((b.toNat : Nat) : Int) ≠ c) ha (by decide) (by decide) (by first | rfl | assumption) n1.get ⟨rfl, n1.kept, fun i hi => by omega⟩ ?_ ?_
  · rintro j b e h' d hb ⟨rfl, hk, hne⟩ hfr hg
    have e1 : e 1 = .int .i32 c := ((hfr 1 (by decide)).trans (by first | rfl | assumption | (symm; assumption)))
    have hk' : Kept h (h'.set h.next (.siter s (j + 1))) := hk.set (Nat.le_refl _) _
    refine Wc_seq (Wc_ops (Wo_op (v := .int .i32 b.toNat) (h' := h'.set h.next (.siter s (j + 1))) (by simp only [iop, ev, upd, reduceIte, Nat.reduceEqDiff]; rfl) (Wo_run (fun call => by simp only [go_sem, seval]; rfl) ?_)))
    show Wc T _ _ _
    refine Wc_seq (Wc_ops (Wo_run (fun call => by simp only [go_sem, seval, e1]; rfl) ?_))
    show Wc T _ _ _
    cases hx : (((b.toNat : Nat) : Int) == c)
    · refine Wc_cond false (by simp only [go_sem, seval, hx] <;> first | rfl | assumption | (symm; assumption)) (fun e => by cases e) (fun _ => Wc_skip ⟨set_get' _ _ _, rfl, hk', fun i hi y hy => ?_⟩)
      rcases Nat.lt_or_eq_of_le (Nat.le_of_lt_succ hi) with h1 | h1
      · exact hne i h1 y hy
      · subst h1; rw [show (bs s)[i]? = some b from hb] at hy; cases hy; simpa using hx
    · refine Wc_cond true (by simp only [go_sem, seval, hx] <;> first | rfl | assumption | (symm; assumption)) (fun _ => ?_) (fun e => by cases e)
      refine Wc_seq (Wc_ops (Wo_run (fun call => by simp only [go_sem, seval]; rfl) ?_))
      refine Wc_ret ⟨.inr rfl, rfl, [.bool true], by simp only [resAll, resV, upd, dstUpd, reduceIte, Nat.reduceEqDiff], hk', ?_⟩
      have : hasB s c = true := List.any_eq_true.2 ⟨b, List.mem_of_getElem? (show (bs s)[j]? = some b from hb), hx⟩
      rw [this]; rfl
  · rintro e h' d ⟨rfl, hk, hne⟩ hfr
    show Wc T _ _ _
    refine Wc_seq (Wc_ops (Wo_run (fun call => by simp only [go_sem, seval]; rfl) ?_))
    refine Wc_ret ⟨.inr rfl, rfl, [.bool false], by simp only [resAll, resV, upd, dstUpd, reduceIte, Nat.reduceEqDiff], hk, ?_⟩
    have : hasB s c = false := by
      cases hz : hasB s c with
      | false => rfl
      | true =>
        obtain ⟨b, hb, he⟩ := List.any_eq_true.1 hz
        obtain ⟨i, hi⟩ := List.getElem?_of_mem hb
        exact absurd (beq_iff_eq.1 he) (hne i (by rw [bs_size]; exact (List.getElem?_eq_some_iff.1 hi).1) b hi)
    rw [this]; rfl
def atB : List UInt8 → Int → Nat → Int
  | [], _, _ => -1
  | b :: l, c, i => if ((b.toNat : Nat) : Int) = c then (i : Int) else atB l c (i + 1)
theorem atB_no {c : Int} : ∀ {l : List UInt8} {i : Nat}, (∀ b ∈ l, ((b.toNat : Nat) : Int) ≠ c) → atB l c i = -1
  | [], _, _ => rfl
  | b :: l, i, h => by rw [atB, if_neg (h b (List.mem_cons_self ..))]; exact atB_no fun y hy => h y (List.mem_cons_of_mem _ hy)
theorem atB_at {c : Int} : ∀ {l : List UInt8} {i j : Nat} {b : UInt8}, (∀ m, m < j → ∀ b, l[m]? = some b → ((b.toNat : Nat) : Int) ≠ c) → l[j]? = some b → ((b.toNat : Nat) : Int) = c → atB l c i = ((i + j : Nat) : Int)
  | [], _, _, _, _, h, _ => by simp at h
  | x :: l, i, 0, b, _, h, hc => by simp at h; subst h; rw [atB, if_pos hc, Nat.add_zero]
  | x :: l, i, j + 1, b, h1, h2, hc => by
    rw [atB, if_neg (h1 0 (Nat.succ_pos _) x rfl), atB_at (j := j) (fun m hm y hy => h1 (m + 1) (Nat.succ_lt_succ hm) y hy) (by simpa using h2) hc]
    congr 1; omega
theorem runeAt_ok (hT : T.fn 25 = some C25) {s : ByteArray} {c : Int} {h : Heap} (ha : Asc s) : Wk T (.fn 25) [.string s, .int .i32 c] h (fun o h' => Kept h h' ∧ o = .ret (.int .i64 (atB (bs s) c 0))) := by
  refine Wk_fn hT (by simp [C25]) ?_
  simp only [C25]
  refine Wc_seq (Wc_ops (Wo_run (fun call => by simp only [go_sem, seval]; rfl) ?_))
  show Wc T _ _ _
  refine Wc_seq (Wc_seq (Wc_ops (Wo_pre 1 (fun call => by simp only [go_sem, seval]; rfl) ?_)))
  refine Wo_new (v := ptr h.next 0) (B := .siter s 0) (by simp only [iop, ev, upd, reduceIte]) fun h1 n1 => Wo_nil ?_
  show Wc T _ _ _
  refine Wc_rangeStr (s := s) (bi := h.next) (fun j e h' d => d = some [] ∧ Kept h h' ∧ ∀ i, i < j → ∀ b, (bs s)[i]? = some b → ((b.toNat : Nat) : Int) ≠ c) ha (by decide) (by decide) (by first | rfl | assumption) n1.get ⟨rfl, n1.kept, fun i hi => by omega⟩ ?_ ?_
  · rintro j b e h' d hb ⟨rfl, hk, hne⟩ hfr hg
    have e1 : e 1 = .int .i32 c := ((hfr 1 (by decide)).trans (by first | rfl | assumption | (symm; assumption)))
    have hk' : Kept h (h'.set h.next (.siter s (j + 1))) := hk.set (Nat.le_refl _) _
    refine Wc_seq (Wc_ops (Wo_op (v := .int .i64 j) (h' := h'.set h.next (.siter s (j + 1))) (by simp only [iop, ev, upd, reduceIte, Nat.reduceEqDiff]; rfl) (Wo_op (v := .int .i32 b.toNat) (h' := h'.set h.next (.siter s (j + 1))) (by simp only [iop, ev, upd, dstUpd, reduceIte, Nat.reduceEqDiff]; rfl) (Wo_run (fun call => by simp only [go_sem, seval]; rfl) ?_))))
    show Wc T _ _ _
    refine Wc_seq (Wc_ops (Wo_run (fun call => by simp only [go_sem, seval, e1]; rfl) ?_))
    show Wc T _ _ _
    cases hx : (((b.toNat : Nat) : Int) == c)
    · refine Wc_cond false (by simp only [go_sem, seval, hx] <;> first | rfl | assumption | (symm; assumption)) (fun e => by cases e) (fun _ => Wc_skip ⟨set_get' _ _ _, rfl, hk', fun i hi y hy => ?_⟩)
      rcases Nat.lt_or_eq_of_le (Nat.le_of_lt_succ hi) with h1 | h1
      · exact hne i h1 y hy
      · subst h1; rw [show (bs s)[i]? = some b from hb] at hy; cases hy; simpa using hx
    · refine Wc_cond true (by simp only [go_sem, seval, hx] <;> first | rfl | assumption | (symm; assumption)) (fun _ => ?_) (fun e => by cases e)
      refine Wc_seq (Wc_ops (Wo_run (fun call => by simp only [go_sem, seval]; rfl) ?_))
      refine Wc_ret ⟨.inr rfl, rfl, [.int .i64 j], by simp only [resAll, resV, upd, dstUpd, reduceIte, Nat.reduceEqDiff], hk', ?_⟩
      rw [atB_at hne (show (bs s)[j]? = some b from hb) (beq_iff_eq.1 hx), Nat.zero_add]; rfl
  · rintro e h' d ⟨rfl, hk, hne⟩ hfr
    show Wc T _ _ _
    refine Wc_seq (Wc_ops (Wo_run (fun call => by simp only [go_sem, seval]; rfl) ?_))
    refine Wc_ret ⟨.inr rfl, rfl, [.int .i64 (-1)], by simp only [resAll, resV, upd, dstUpd, reduceIte, Nat.reduceEqDiff], hk, ?_⟩
    rw [atB_no fun b hb => by
      obtain ⟨i, hi⟩ := List.getElem?_of_mem hb
      exact hne i (by rw [bs_size]; exact (List.getElem?_eq_some_iff.1 hi).1) b hi]
    rfl
end Go.Idl
end

section
namespace Go.Idl
variable {T : Tbl}
def okN (ks : List Int) (c : Int) (at' : Nat) : Nat → Bool
  | 0 => true
  | n + 1 => okN ks c at' n && (decide (at' + n < ks.length) && hasB (lettersOf (ks.getD (at' + n) 0)) c)
theorem okN_no {ks : List Int} {c : Int} {a : Nat} : ∀ {n m : Nat}, n ≤ m → okN ks c a n = false → okN ks c a m = false
  | n, 0, h, hn => by rw [show n = 0 by omega] at hn; exact hn
  | n, m + 1, h, hn => by
    by_cases hm : n = m + 1
    · rw [← hm]; exact hn
    · rw [okN, okN_no (by omega) hn, Bool.false_and]
def manyI (s : ByteArray) (ks : List Int) (c : Int) (at' : Nat) (many : Bool) : Int := if many then (ks.length : Int) - at' - ((s.size : Int) - atB (bs s) c 0 - 1) else 1
def fitF (s : ByteArray) (ks : List Int) : List UInt8 → Nat → Bool → Option Nat
  | [], a, _ => some a
  | c :: r, a, many => if ((c.toNat : Nat) : Int) = 42 then fitF s ks r a true else if okN ks c.toNat a (manyI s ks c.toNat a many).toNat then fitF s ks r (a + (manyI s ks c.toNat a many).toNat) false else none
def fitB (s : ByteArray) (ks : List Int) : Bool := match fitF s ks (bs s) 0 false with
  | some a => decide (a = ks.length)
  | none => false
theorem atB_range {c : Int} : ∀ {l : List UInt8} {i : Nat}, -1 ≤ atB l c i ∧ atB l c i < ((i + l.length : Nat) : Int) + 1
  | [], i => by simp [atB]; omega
  | b :: l, i => by
    rw [atB]
    split
    · simp only [List.length_cons]; omega
    · have := atB_range (c := c) (l := l) (i := i + 1)
      simp only [List.length_cons]; omega
theorem okN_le {ks : List Int} {c : Int} {a : Nat} : ∀ {n : Nat}, okN ks c a n = true → a ≤ ks.length → a + n ≤ ks.length
  | 0, _, h => h
  | n + 1, h, ha => by
    simp only [okN, Bool.and_eq_true, decide_eq_true_eq] at h
    omega
structure FitFns (T : Tbl) : Prop where
  fits : T.fn 12 = some C12
  letters : T.fn 27 = some C27
  hasRune : T.fn 26 = some C26
  runeAt : T.fn 25 = some C25
theorem fits_ok (F : FitFns T) {h : Heap} {v kv : Value} {l : List Nd} {kids : List Int} {s : ByteArray} (hn : nodesAt h v l) (hk : intsAt h kv kids) (hr : ∀ k ∈ kids, 0 ≤ k ∧ k < l.length) (hkl : kids.length ≤ 100000) (ha : Asc s) (hs : s.size ≤ 3000) :
    Wk T (.fn 12) [v, kv, .string s] h (fun o h' => Kept h h' ∧ o = .ret (.bool (fitB s (kids.map (kindAt l))))) := by
  obtain ⟨ka, kc, hkv⟩ := hk.len
  have hksl : (kids.map (kindAt l)).length = kids.length := List.length_map _
  generalize hks : kids.map (kindAt l) = ks at hksl ⊢
  refine Wk_fn F.fits (by simp [C12]) ?_
  simp only [C12]
  have fin : ∀ (e : Env) (h2 : Heap) (x' : Ex) (b : Bool), Kept h h2 → (x' = .normal ∨ x' = .ret) → e 6 = .bool b → fitB s ks = b → (x' = .normal ∨ x' = .ret) ∧ some ([] : List Dfr) = some [] ∧ ∃ vs, resAll e h2 [.tmp 6] = some vs ∧ Kept h h2 ∧ Out.ret (tup vs) = .ret (.bool (fitB s ks)) := fun e h2 x' b hk hx h4 hb =>
    ⟨hx, rfl, [.bool b], by simp only [resAll, resV, h4], hk, by rw [hb]; rfl⟩
  refine Wc_seq (Wc_ops (Wo_run (fun call => by simp only [go_sem, seval]; rfl) ?_))
  show Wc T _ _ _
  refine Wc_seq (Wc_ops (Wo_run (fun call => by simp only [go_sem, seval]; rfl) ?_))
  show Wc T _ _ _
  refine Wc_seq (Wc_seq (Wc_ops (Wo_pre 1 (fun call => by simp only [go_sem, seval]; rfl) ?_)))
  refine Wo_new (v := ptr h.next 0) (B := .siter s 0) (by simp only [iop, ev, upd, reduceIte]) fun h1 n1 => Wo_nil ?_
  show Wc T _ _ _
  refine Wc_rangeStr (s := s) (bi := h.next) (fun j e h' d => d = some [] ∧ (Kept h h' ∧ h.next < h'.next) ∧ ∃ (a : Nat) (many : Bool), a ≤ ks.length ∧ e 7 = .int .i64 a ∧ e 8 = .bool many ∧ fitF s ks (bs s) 0 false = fitF s ks ((bs s).drop j) a many) ha (by decide) (by decide) (by first | rfl | assumption) n1.get ⟨rfl, ⟨n1.kept, by rw [n1.next]; exact Nat.lt_succ_self _⟩, 0, false, Nat.zero_le _, (by first | rfl | assumption), (by first | rfl | assumption), rfl⟩ ?_ ?_
  case refine_2 =>
    rintro e h' d ⟨rfl, ⟨hk', hx'⟩, a, many, hal, h7, h8, hfit⟩ hfr
    have e1 : e 1 = kv := ((hfr 1 (by decide)).trans (by first | rfl | assumption | (symm; assumption)))
    show Wc T _ _ _
    refine Wc_seq (Wc_ops (Wo_run (fun call => by simp only [go_sem, seval, h7, e1, hkv]; rfl) ?_))
    refine Wc_ret (fin _ _ _ _ hk' (.inr rfl) (by first | rfl | assumption) ?_)
    rw [bs_size, List.drop_length] at hfit
    rw [fitB, hfit, fitF, ← hksl, len_eq]
  rintro j c e h' d hc ⟨rfl, ⟨hk', hx'⟩, a, many, hal, h7, h8, hfit⟩ hfr hg
  have hcs : (bs s)[j]? = some c := hc
  have hdrop : (bs s).drop j = c :: (bs s).drop (j + 1) := by
    have hlt := (List.getElem?_eq_some_iff.1 hcs).1
    have he := (List.getElem?_eq_some_iff.1 hcs).2
    rw [List.drop_eq_getElem_cons hlt, he]
  rw [hdrop, fitF] at hfit
  have e0 : e 0 = v := ((hfr 0 (by decide)).trans (by first | rfl | assumption | (symm; assumption)))
  have e1 : e 1 = kv := ((hfr 1 (by decide)).trans (by first | rfl | assumption | (symm; assumption)))
  have e2 : e 2 = .string s := ((hfr 2 (by decide)).trans (by first | rfl | assumption | (symm; assumption)))
  have hk2 : Kept h (h'.set h.next (.siter s (j + 1))) := hk'.set (Nat.le_refl _) _
  have hg2 : (h'.set h.next (.siter s (j + 1))).get h.next = some (.siter s (j + 1)) := set_get' _ _ _
  have hx2 : h.next < (h'.set h.next (.siter s (j + 1))).next := hx'
  generalize h'.set h.next (.siter s (j + 1)) = h2 at hk2 hg2 hx2 ⊢
  refine Wc_seq (Wc_ops (Wo_op (v := .int .i32 c.toNat) (h' := h2) (by simp only [iop, ev, upd, reduceIte, Nat.reduceEqDiff]; rfl) (Wo_run (fun call => by simp only [go_sem, seval]; rfl) ?_)))
  show Wc T _ _ _
  cases hst : (((c.toNat : Nat) : Int) == 42)
  case true =>
    have hst' := beq_iff_eq.1 hst
    rw [if_pos hst'] at hfit
    refine Wc_seq (Wc_seq (Wc_ops (Wo_run (fun call => by simp only [go_sem, seval, hst]; rfl) ?_)))
    show Wc T _ _ _
    refine Wc_cond true (by first | rfl | assumption) (fun _ => ?_) (fun e => by cases e)
    refine Wc_seq (Wc_ops (Wo_run (fun call => by simp only [go_sem, seval]; rfl) ?_))
    exact Wc_exit ⟨hg2, rfl, ⟨hk2, hx2⟩, a, true, hal, (by simp only [go_sem, seval, h7] <;> first | rfl | assumption | (symm; assumption)), (by first | rfl | assumption), hfit⟩
  have hst' : ¬ ((c.toNat : Nat) : Int) = 42 := by simpa using hst
  rw [if_neg hst'] at hfit
  refine Wc_seq (Wc_seq (Wc_ops (Wo_run (fun call => by simp only [go_sem, seval, hst]; rfl) ?_)))
  show Wc T _ _ _
  refine Wc_cond false (by first | rfl | assumption) (fun e => by cases e) (fun _ => Wc_skip ?_)
  show Wc T _ _ _
  refine Wc_seq (Wc_ops (Wo_run (fun call => by simp only [go_sem, seval]; rfl) ?_))
  show Wc T _ _ _
  refine Wc_mid (fun s' => s'.d = some [] ∧ Kept h s'.h ∧ h.next < s'.h.next ∧ s'.h.get h.next = some (.siter s (j + 1)) ∧ s'.e 0 = v ∧ s'.e 1 = kv ∧ s'.e 7 = .int .i64 a ∧ s'.e 8 = .bool false ∧ s'.e 10 = .int .i32 c.toNat ∧ s'.e 11 = .int .i64 (manyI s ks c.toNat a many)) ?_ ?_
  · refine Wc_seq (Wc_ops (Wo_run (fun call => by simp only [go_sem, seval, h8]; rfl) ?_))
    show Wc T _ _ _
    cases many
    · refine Wc_cond false (by first | rfl | assumption) (fun e => by cases e) (fun _ => Wc_skip ?_)
      exact ⟨rfl, hk2, hx2, hg2, (by simp only [go_sem, seval, e0] <;> first | rfl | assumption | (symm; assumption)), (by simp only [go_sem, seval, e1] <;> first | rfl | assumption | (symm; assumption)), (by simp only [go_sem, seval, h7] <;> first | rfl | assumption | (symm; assumption)), (by simp only [go_sem, seval, h8] <;> first | rfl | assumption | (symm; assumption)), (by first | rfl | assumption), (by first | rfl | assumption)⟩
    refine Wc_cond true (by first | rfl | assumption) (fun _ => ?_) (fun e => by cases e)
    have hrange := atB_range (c := c.toNat) (l := bs s) (i := 0)
    rw [← bs_size] at hrange
    have w1 : IntKind.i64.wrap (((kids.length : Nat) : Int) - ((a : Nat) : Int)) = ((kids.length : Nat) : Int) - ((a : Nat) : Int) := wrap64 (by omega) (by omega)
    have w2 : IntKind.i64.wrap (((s.size : Nat) : Int) - atB (bs s) c.toNat 0) = ((s.size : Nat) : Int) - atB (bs s) c.toNat 0 := wrap64 (by omega) (by omega)
    have w3 : IntKind.i64.wrap (((s.size : Nat) : Int) - atB (bs s) c.toNat 0 - 1) = ((s.size : Nat) : Int) - atB (bs s) c.toNat 0 - 1 := wrap64 (by omega) (by omega)
    have w4 : IntKind.i64.wrap (((kids.length : Nat) : Int) - ((a : Nat) : Int) - (((s.size : Nat) : Int) - atB (bs s) c.toNat 0 - 1)) = ((kids.length : Nat) : Int) - ((a : Nat) : Int) - (((s.size : Nat) : Int) - atB (bs s) c.toNat 0 - 1) := wrap64 (by omega) (by omega)
    refine Wc_seq (Wc_ops (Wo_pre 8 (fun call => by simp only [go_sem, seval, e1, e2, hkv, h7, w1]; rfl) ?_))
    refine Wo_call (Wk_kept (runeAt_ok F.runeAt (c := c.toNat) ha) fun h3 k3 => ?_)
    refine (Wo_run (fun call => by simp only [go_sem, seval, w2, w3, w4]; rfl) ?_)
    show Wc T _ _ _
    refine Wc_ops (Wo_run (fun call => by simp only [go_sem, seval]; rfl) ?_)
    refine ⟨rfl, hk2.trans k3, Nat.lt_of_lt_of_le hx2 k3.next, ?_, (by simp only [go_sem, seval, e0] <;> first | rfl | assumption | (symm; assumption)), (by simp only [go_sem, seval, e1] <;> first | rfl | assumption | (symm; assumption)), (by simp only [go_sem, seval, h7] <;> first | rfl | assumption | (symm; assumption)), (by first | rfl | assumption), (by first | rfl | assumption), ?_⟩
    · rw [k3.get _ hx2]; exact hg2
    · simp only [upd, dstUpd, reduceIte, Nat.reduceEqDiff, manyI, hksl]
  rintro ⟨e3, h3, d3⟩ ⟨hd3, hk3, hx3, hg3, e0, e1, e7, e8, e10, e11⟩
  simp only at hd3 hk3 hx3 hg3 e0 e1 e7 e8 e10 e11
  rw [hd3]
  generalize hN : manyI s ks c.toNat a many = N at hfit e11
  refine Wc_block (Wc_loopF (fun e h' d => d = some [] ∧ Kept h h' ∧ h.next < h'.next ∧ h'.get h.next = some (.siter s (j + 1)) ∧ ∃ i : Nat, i ≤ N.toNat ∧ e 11 = .int .i64 (N - i) ∧ e 7 = .int .i64 ((a + i : Nat) : Int) ∧ okN ks c.toNat a i = true) (fun e _ => match e 11 with | .int _ k => k.toNat | _ => 0) ?_ ?_)
  · exact ⟨rfl, hk3, hx3, hg3, 0, Nat.zero_le _, by show e3 11 = _; rw [e11]; congr 1; omega, e7, rfl⟩
  rintro e h4 d ⟨rfl, hk4, hnx, hg4, i, hi, h11, h7', hok⟩ hfr4
  have f0 : e 0 = v := by rw [hfr4 0 (by decide)]; exact e0
  have f1 : e 1 = kv := by rw [hfr4 1 (by decide)]; exact e1
  have f8 : e 8 = .bool false := by rw [hfr4 8 (by decide)]; exact e8
  have f10 : e 10 = .int .i32 c.toNat := by rw [hfr4 10 (by decide)]; exact e10
  rw [C12L0]
  have hal' := okN_le hok hal
  by_cases hmore : (0 : Int) < N - i
  case neg =>
    refine Wc_seq (Wc_seq (Wc_ops (Wo_run (fun call => by simp only [go_sem, seval, h11, hmore]; rfl) ?_)))
    show Wc T _ _ _
    refine Wc_cond false (by first | rfl | assumption) (fun e => by cases e) (fun _ => Wc_exit ?_)
    have hiN : i = N.toNat := by omega
    subst hiN
    rw [if_pos hok] at hfit
    exact ⟨hg4, rfl, ⟨hk4, hnx⟩, a + N.toNat, false, hal', (by simp only [go_sem, seval, h7'] <;> first | rfl | assumption | (symm; assumption)), (by simp only [go_sem, seval, f8] <;> first | rfl | assumption | (symm; assumption)), hfit⟩
  refine Wc_seq (Wc_seq (Wc_ops (Wo_run (fun call => by simp only [go_sem, seval, h11, hmore]; rfl) ?_)))
  show Wc T _ _ _
  refine Wc_cond true (by first | rfl | assumption) (fun _ => Wc_skip ?_) (fun e => by cases e)
  show Wc T _ _ _
  have hbad : (decide (a + i < ks.length) && hasB (lettersOf (ks.getD (a + i) 0)) c.toNat) = false → fitB s ks = false := fun hb => by
    have h1 : okN ks c.toNat a (i + 1) = false := by rw [okN, hb, Bool.and_false]
    have h2 := okN_no (show i + 1 ≤ N.toNat by omega) h1
    rw [if_neg (by rw [h2]; decide)] at hfit
    rw [fitB, hfit]
  by_cases hlt : a + i < kids.length
  case neg =>
    have z : ((kids.length : Nat) : Int) ≤ ((a + i : Nat) : Int) := by omega
    refine Wc_seq (Wc_block (Wc_seq (Wc_seq (Wc_ops (Wo_run (fun call => by simp only [go_sem, seval, h7', f1, hkv, z]; rfl) ?_)))))
    show Wc T _ _ _
    refine Wc_cond true (by first | rfl | assumption) (fun _ => ?_) (fun e => by cases e)
    refine Wc_seq (Wc_ops (Wo_run (fun call => by simp only [go_sem, seval]; rfl) ?_))
    exact Wc_ret (fin _ _ _ false hk4 (.inr rfl) (by first | rfl | assumption) (hbad (by rw [decide_eq_false (by omega)]; rfl)))
  have z : ¬ ((kids.length : Nat) : Int) ≤ ((a + i : Nat) : Int) := by omega
  obtain ⟨k, hkk⟩ : ∃ k, kids[a + i]? = some k := ⟨_, List.getElem?_eq_getElem hlt⟩
  obtain ⟨bk, ck, hkvb, hbk, ⟨ok, zk, hgk⟩, hcell⟩ := (hk.keep hk4).load hkk
  rw [Nat.zero_add] at hcell
  have hkr := hr k (List.mem_of_getElem? hkk)
  obtain ⟨kk, rfl⟩ : ∃ kk : Nat, k = kk := ⟨k.toNat, by omega⟩
  have hkkl : kk < l.length := by omega
  obtain ⟨y, hy⟩ : ∃ y, l[kk]? = some y := ⟨_, List.getElem?_eq_getElem hkkl⟩
  obtain ⟨b5, c5, o5, z5, hvb5, hb5, hg5, _⟩ := (hn.keep hk4).load4 hy
  have hkind := (flatN_at hy).1
  have hka : kindAt l ((kk : Nat) : Int) = y.kind := by simp only [kindAt, Int.toNat_natCast, hy, Option.map_some, Option.getD_some]
  have hgd : ks.getD (a + i) 0 = y.kind := by rw [← hks, List.getD_eq_getElem?_getD, List.getElem?_map, hkk]; exact hka
  refine Wc_seq (Wc_block (Wc_seq (Wc_seq (Wc_ops (Wo_pre 13 (fun call => by simp only [go_sem, seval, h7', f0, f1, hkvb, z, idx_ok hlt, hgk, hcell, hvb5, idx_ok hkkl, hg5, hkind]; rfl) ?_)))))
  refine Wo_take (by simp only [upd, dstUpd, reduceIte, Nat.reduceEqDiff, gval_bool]; rfl) (Wo_call (Wk_pure (letters_ok F.letters) ?_))
  refine (Wo_pre 1 (fun call => by simp only [go_sem, seval, f10]; rfl) ?_)
  refine Wo_take (by simp only [upd, dstUpd, reduceIte, Nat.reduceEqDiff, gval_bool]; rfl) (Wo_call (Wk_kept (hasRune_ok F.hasRune (c := c.toNat) (letters_asc y.kind)) fun h5 k5 => ?_))
  refine (Wo_run (fun call => by simp only [go_sem, seval]; rfl) ?_)
  show Wc T _ _ _
  cases hh : hasB (lettersOf y.kind) c.toNat
  · refine Wc_cond true (by simp only [go_sem, seval, hh] <;> first | rfl | assumption | (symm; assumption)) (fun _ => ?_) (fun e => by cases e)
    refine Wc_seq (Wc_ops (Wo_run (fun call => by simp only [go_sem, seval]; rfl) ?_))
    exact Wc_ret (fin _ _ _ false (hk4.trans k5) (.inr rfl) (by first | rfl | assumption) (hbad (by rw [hgd, hh, Bool.and_false])))
  refine Wc_cond false (by simp only [go_sem, seval, hh] <;> first | rfl | assumption | (symm; assumption)) (fun e => by cases e) (fun _ => Wc_skip ?_)
  show Wc T _ _ _
  have w1 : IntKind.i64.wrap (((a + i : Nat) : Int) + 1) = ((a + (i + 1) : Nat) : Int) := by rw [wrap64] <;> omega
  have hNb : N ≤ 400000 ∧ -400000 ≤ N := by
    have hrange := atB_range (c := c.toNat) (l := bs s) (i := 0)
    rw [← bs_size] at hrange
    rw [← hN, manyI]
    split <;> omega
  have w2 : IntKind.i64.wrap (N - i - 1) = N - ((i + 1 : Nat) : Int) := by rw [wrap64] <;> omega
  refine Wc_ops (Wo_run (fun call => by simp only [go_sem, seval, h7', w1]; rfl) ?_)
  show Wc T _ _ _
  refine Wc_ops (Wo_run (fun call => by simp only [go_sem, seval, h11, w2]; rfl) ?_)
  refine ⟨⟨rfl, hk4.trans k5, Nat.lt_of_lt_of_le hnx k5.next, by rw [k5.get _ hnx]; exact hg4, i + 1, by omega, (by first | rfl | assumption), (by first | rfl | assumption), ?_⟩, ?_⟩
  · rw [okN, hok, hgd, hh, decide_eq_true (show a + i < ks.length by omega)]; rfl
  · simp only [upd, dstUpd, reduceIte, Nat.reduceEqDiff, h11]
    exact (Int.toNat_lt_toNat (by omega)).2 (by omega)
end Go.Idl
end

section
namespace Go.Idl
def wantL : List (Int × ByteArray) := [(1, ⟨#[42, 100]⟩), (2, ⟨#[42, 110]⟩), (3, ⟨#[42, 110, 98]⟩), (4, ⟨#[42, 115]⟩), (5, ⟨#[101]⟩), (6, ⟨#[112, 101]⟩), (7, ⟨#[101, 98, 111]⟩), (8, ⟨#[101, 98]⟩), (9, ⟨#[101]⟩), (10, ⟨#[101]⟩), (11, ⟨#[101]⟩), (12, ⟨#[99]⟩), (13, ⟨#[42, 110]⟩), (14, ⟨#[]⟩), (15, ⟨#[]⟩), (16, ⟨#[]⟩), (17, ⟨#[]⟩), (18, ⟨#[101]⟩), (19, ⟨#[101, 101]⟩), (20, ⟨#[101]⟩), (21, ⟨#[101, 101]⟩), (22, ⟨#[42, 101]⟩), (23, ⟨#[]⟩), (24, ⟨#[101]⟩), (25, ⟨#[101]⟩), (26, ⟨#[]⟩), (27, ⟨#[101]⟩), (28, ⟨#[]⟩), (29, ⟨#[101]⟩), (30, ⟨#[]⟩)]
def wantOf (k : Int) : ByteArray := match wantL.find? fun p => p.1 == k with
  | some p => p.2
  | none => ⟨#[]⟩
theorem has_e {k : Int} (h : exprB k = true) : hasB (lettersOf k) 101 = true := by
  have h := of_decide_eq_true h
  rcases (by omega : k = 15 ∨ k = 16 ∨ k = 17 ∨ k = 18 ∨ k = 19 ∨ k = 20 ∨ k = 21 ∨ k = 22 ∨ k = 23 ∨ k = 24 ∨ k = 25 ∨ k = 26 ∨ k = 27 ∨ k = 28 ∨ k = 29 ∨ k = 30) with rfl | rfl | rfl | rfl | rfl | rfl | rfl | rfl | rfl | rfl | rfl | rfl | rfl | rfl | rfl | rfl <;> decide
theorem has_s {k : Int} (h : stmtB k = true) : hasB (lettersOf k) 115 = true := by
  have h := of_decide_eq_true h
  rcases (by omega : k = 5 ∨ k = 6 ∨ k = 7 ∨ k = 8 ∨ k = 9 ∨ k = 10 ∨ k = 11 ∨ k = 12 ∨ k = 13) with rfl | rfl | rfl | rfl | rfl | rfl | rfl | rfl | rfl <;> decide
theorem has_n {k : Int} (h : (k == 17) = true) : hasB (lettersOf k) 110 = true := by rw [beq_iff_eq.1 h]; decide
theorem has_d {k : Int} (h : (k == 2 || k == 3) = true) : hasB (lettersOf k) 100 = true := by
  rw [Bool.or_eq_true, beq_iff_eq, beq_iff_eq] at h
  rcases h with rfl | rfl <;> decide
theorem has_b {k : Int} (h : (k == 4) = true) : hasB (lettersOf k) 98 = true := by rw [beq_iff_eq.1 h]; decide
theorem has_o {k : Int} (h : (k == 4 || k == 14) = true) : hasB (lettersOf k) 111 = true := by
  rw [Bool.or_eq_true, beq_iff_eq, beq_iff_eq] at h
  rcases h with rfl | rfl <;> decide
theorem has_p {k : Int} (h : (k == 17 || k == 20 || k == 21 || k == 30) = true) : hasB (lettersOf k) 112 = true := by
  rw [Bool.or_eq_true, Bool.or_eq_true, Bool.or_eq_true, beq_iff_eq, beq_iff_eq, beq_iff_eq, beq_iff_eq] at h
  rcases h with ((rfl | rfl) | rfl) | rfl <;> decide
theorem has_c {k : Int} (h : (k == 22) = true) : hasB (lettersOf k) 99 = true := by rw [beq_iff_eq.1 h]; decide
theorem okN_all {ks : List Int} {c : Int} {a : Nat} : ∀ {n : Nat}, (∀ i, i < n → a + i < ks.length ∧ hasB (lettersOf (ks.getD (a + i) 0)) c = true) → okN ks c a n = true
  | 0, _ => rfl
  | n + 1, h => by
    rw [okN, okN_all (n := n) (fun i hi => h i (by omega)), decide_eq_true (h n (Nat.lt_succ_self _)).1, (h n (Nat.lt_succ_self _)).2]; rfl
theorem getD_mem {ks : List Int} {i : Nat} (h : i < ks.length) : ks.getD i 0 ∈ ks := by
  rw [List.getD_eq_getElem?_getD, List.getElem?_eq_getElem h]; exact List.getElem_mem h
theorem fit_star {ks : List Int} {x : UInt8} (hx : ((x.toNat : Nat) : Int) ≠ 42) (h : ∀ k ∈ ks, hasB (lettersOf k) x.toNat = true) : fitB ⟨#[42, x]⟩ ks = true := by
  have hm : manyI ⟨#[42, x]⟩ ks x.toNat 0 true = ks.length := by
    have : atB (bs ⟨#[42, x]⟩) ((x.toNat : Nat) : Int) 0 = 1 := by
      show atB [42, x] _ 0 = 1
      rw [atB, if_neg (fun e => hx e.symm), atB, if_pos rfl]; rfl
    rw [manyI, this]
    show (ks.length : Int) - ((0 : Nat) : Int) - ((2 : Int) - 1 - 1) = ks.length
    omega
  have hf : fitF ⟨#[42, x]⟩ ks [42, x] 0 false = some ks.length := by
    rw [fitF, if_pos (by decide), fitF, if_neg hx, hm, Int.toNat_natCast, okN_all (fun i hi => ⟨by omega, h _ (getD_mem (by omega))⟩), if_pos rfl, fitF, Nat.zero_add]
  rw [fitB, show bs ⟨#[42, x]⟩ = [42, x] from rfl, hf]
  exact decide_eq_true rfl
theorem fit_fn {ks : List Int} (h0 : 0 < ks.length) (h : ((ks.take (ks.length - 1)).all fun k => k == 17) = true) (hb : (ks.getD (ks.length - 1) 0 == 4) = true) : fitB ⟨#[42, 110, 98]⟩ ks = true := by
  have hm : manyI ⟨#[42, 110, 98]⟩ ks 110 0 true = ((ks.length - 1 : Nat) : Int) := by
    have : atB (bs ⟨#[42, 110, 98]⟩) 110 0 = 1 := by decide
    rw [manyI, this]
    show (ks.length : Int) - ((0 : Nat) : Int) - ((3 : Int) - 1 - 1) = ((ks.length - 1 : Nat) : Int)
    omega
  have h1 : okN ks 110 0 (ks.length - 1) = true := okN_all fun i hi => ⟨by omega, has_n (by
    have hi2 : (ks.take (ks.length - 1))[i]? = some (ks.getD i 0) := by rw [List.getElem?_take, if_pos hi, List.getD_eq_getElem?_getD, List.getElem?_eq_getElem (by omega)]; rfl
    rw [Nat.zero_add]
    exact List.all_eq_true.1 h _ (List.mem_of_getElem? hi2))⟩
  have h2 : okN ks 98 (ks.length - 1) 1 = true := okN_all fun i hi => by
    have : i = 0 := by omega
    subst this
    exact ⟨by omega, has_b hb⟩
  have hf : fitF ⟨#[42, 110, 98]⟩ ks [42, 110, 98] 0 false = some ks.length := by
    rw [fitF, if_pos (by decide), fitF, if_neg (by decide), show ((UInt8.toNat 110 : Nat) : Int) = 110 from rfl, hm, Int.toNat_natCast, h1, if_pos rfl, fitF, if_neg (by decide), show ((UInt8.toNat 98 : Nat) : Int) = 98 from rfl, Nat.zero_add]
    have : manyI ⟨#[42, 110, 98]⟩ ks 98 (ks.length - 1) false = 1 := rfl
    rw [this, show Int.toNat 1 = 1 from rfl, h2, if_pos rfl, fitF, show ks.length - 1 + 1 = ks.length by omega]
  rw [fitB, show bs ⟨#[42, 110, 98]⟩ = [42, 110, 98] from rfl, hf]
  exact decide_eq_true rfl
theorem fit_list (x : List UInt8) (ks : List Int) (hx : ∀ c ∈ x, ((c.toNat : Nat) : Int) ≠ 42) (h : ks.length = x.length) (hh : ∀ i c, x[i]? = some c → hasB (lettersOf (ks.getD i 0)) c.toNat = true) : fitB ⟨x.toArray⟩ ks = true := by
  have key : ∀ (y : List UInt8) (a : Nat), x.drop a = y → a ≤ ks.length → fitF ⟨x.toArray⟩ ks y a false = some ks.length := by
    intro y
    induction y with
    | nil =>
      intro a ha hle
      have : x.length ≤ a := by
        rcases Nat.lt_or_ge a x.length with h1 | h1
        · have := congrArg List.length ha
          rw [List.length_drop] at this; simp at this; omega
        · exact h1
      rw [fitF, show a = ks.length by omega]
    | cons c y ih =>
      intro a ha hle
      have hlt : a < x.length := by
        rcases Nat.lt_or_ge a x.length with h1 | h1
        · exact h1
        · rw [List.drop_of_length_le h1] at ha; cases ha
      have hc : x[a]? = some c := by
        have := congrArg (fun l => l[0]?) ha
        simpa [List.getElem?_drop] using this
      have hm : manyI ⟨x.toArray⟩ ks c.toNat a false = 1 := rfl
      have hok : okN ks c.toNat a 1 = true := okN_all fun i hi => by
        have : i = 0 := by omega
        subst this
        exact ⟨by omega, hh a c hc⟩
      rw [fitF, if_neg (hx c (List.mem_of_getElem? hc)), hm, show Int.toNat 1 = 1 from rfl, hok, if_pos rfl]
      refine ih (a + 1) ?_ (by omega)
      rw [List.drop_add_one_eq_tail_drop, ha]; rfl
  rw [fitB, show bs ⟨x.toArray⟩ = x from rfl, key x 0 rfl (Nat.zero_le _)]
  exact decide_eq_true rfl
theorem exprs_facts {ks : List Int} {n : Nat} (h : exprsB ks n = true) : ks.length = n ∧ ∀ k ∈ ks, exprB k = true := by
  simp only [exprsB, Bool.and_eq_true, beq_iff_eq, List.all_eq_true] at h
  exact ⟨by omega, h.1⟩
theorem fitE1 {ks : List Int} (h : exprsB ks ((1 : Nat) : Int) = true) : fitB ⟨#[101]⟩ ks = true := by
  obtain ⟨h1, h2⟩ := exprs_facts h
  refine fit_list [101] ks (by decide) h1 fun i c hc => ?_
  match i with
  | 0 => simp at hc; subst hc; exact has_e (h2 _ (getD_mem (by omega)))
  | i + 1 => simp at hc
theorem fitE2 {ks : List Int} (h : exprsB ks ((2 : Nat) : Int) = true) : fitB ⟨#[101, 101]⟩ ks = true := by
  obtain ⟨h1, h2⟩ := exprs_facts h
  refine fit_list [101, 101] ks (by decide) h1 fun i c hc => ?_
  match i with
  | 0 => simp at hc; subst hc; exact has_e (h2 _ (getD_mem (by omega)))
  | 1 => simp at hc; subst hc; exact has_e (h2 _ (getD_mem (by omega)))
  | i + 2 => simp at hc
theorem fitE0 {ks : List Int} (h : decide (ks.length = 0) = true) : fitB ⟨#[]⟩ ks = true :=
  fit_list [] ks (by decide) (of_decide_eq_true h) fun i c hc => by simp at hc
theorem fit_of_shape {k : Int} {ks : List Int} (h1 : 1 ≤ k) (h2 : k ≤ 30) (h : shapeB k ks = true) : fitB (wantOf k) ks = true := by
  rcases (by omega : k = 1 ∨ k = 2 ∨ k = 3 ∨ k = 4 ∨ k = 5 ∨ k = 6 ∨ k = 7 ∨ k = 8 ∨ k = 9 ∨ k = 10 ∨ k = 11 ∨ k = 12 ∨ k = 13 ∨ k = 14 ∨ k = 15 ∨ k = 16 ∨ k = 17 ∨ k = 18 ∨ k = 19 ∨ k = 20 ∨ k = 21 ∨ k = 22 ∨ k = 23 ∨ k = 24 ∨ k = 25 ∨ k = 26 ∨ k = 27 ∨ k = 28 ∨ k = 29 ∨ k = 30) with rfl | rfl | rfl | rfl | rfl | rfl | rfl | rfl | rfl | rfl | rfl | rfl | rfl | rfl | rfl | rfl | rfl | rfl | rfl | rfl | rfl | rfl | rfl | rfl | rfl | rfl | rfl | rfl | rfl | rfl
  · show fitB ⟨#[42, 100]⟩ ks = true
    exact fit_star (x := 100) (by decide) fun k hk => has_d (List.all_eq_true.1 (show (ks.all fun k => k == 2 || k == 3) = true from h) k hk)
  · show fitB ⟨#[42, 110]⟩ ks = true
    exact fit_star (x := 110) (by decide) fun k hk => has_n (List.all_eq_true.1 (show (ks.all fun k => k == 17) = true from h) k hk)
  · show fitB ⟨#[42, 110, 98]⟩ ks = true
    have h : (decide (0 < ks.length) && ((ks.take (ks.length - 1)).all fun k => k == 17) && (ks.getD (ks.length - 1) 0 == 4)) = true := h
    simp only [Bool.and_eq_true, decide_eq_true_eq] at h
    exact fit_fn h.1.1 h.1.2 h.2
  · show fitB ⟨#[42, 115]⟩ ks = true
    exact fit_star (x := 115) (by decide) fun k hk => has_s (List.all_eq_true.1 (show ks.all stmtB = true from h) k hk)
  · show fitB ⟨#[101]⟩ ks = true
    exact fitE1 h
  · show fitB ⟨#[112, 101]⟩ ks = true
    have h : (exprsB ks ((2 : Nat) : Int) && (ks.getD 0 0 == 17 || ks.getD 0 0 == 20 || ks.getD 0 0 == 21 || ks.getD 0 0 == 30)) = true := h
    rw [Bool.and_eq_true] at h
    obtain ⟨h3, h4⟩ := exprs_facts h.1
    refine fit_list [112, 101] ks (by decide) h3 fun i c hc => ?_
    match i with
    | 0 => simp at hc; subst hc; exact has_p h.2
    | 1 => simp at hc; subst hc; exact has_e (h4 _ (getD_mem (by omega)))
    | i + 2 => simp at hc
  · show fitB ⟨#[101, 98, 111]⟩ ks = true
    have h : (decide (ks.length = 3) && exprB (ks.getD 0 0) && (ks.getD 1 0 == 4) && (ks.getD 2 0 == 4 || ks.getD 2 0 == 14)) = true := h
    rw [Bool.and_eq_true, Bool.and_eq_true, Bool.and_eq_true, decide_eq_true_iff] at h
    refine fit_list [101, 98, 111] ks (by decide) h.1.1.1 fun i c hc => ?_
    match i with
    | 0 => simp at hc; subst hc; exact has_e h.1.1.2
    | 1 => simp at hc; subst hc; exact has_b h.1.2
    | 2 => simp at hc; subst hc; exact has_o h.2
    | i + 3 => simp at hc
  · show fitB ⟨#[101, 98]⟩ ks = true
    have h : (decide (ks.length = 2) && exprB (ks.getD 0 0) && (ks.getD 1 0 == 4)) = true := h
    rw [Bool.and_eq_true, Bool.and_eq_true, decide_eq_true_iff] at h
    refine fit_list [101, 98] ks (by decide) h.1.1 fun i c hc => ?_
    match i with
    | 0 => simp at hc; subst hc; exact has_e h.1.2
    | 1 => simp at hc; subst hc; exact has_b h.2
    | i + 2 => simp at hc
  · show fitB ⟨#[101]⟩ ks = true
    exact fitE1 h
  · show fitB ⟨#[101]⟩ ks = true
    exact fitE1 h
  · show fitB ⟨#[101]⟩ ks = true
    exact fitE1 h
  · show fitB ⟨#[99]⟩ ks = true
    have h : (decide (ks.length = 1) && (ks.getD 0 0 == 22)) = true := h
    rw [Bool.and_eq_true, decide_eq_true_iff] at h
    refine fit_list [99] ks (by decide) h.1 fun i c hc => ?_
    match i with
    | 0 => simp at hc; subst hc; exact has_c h.2
    | i + 1 => simp at hc
  · show fitB ⟨#[42, 110]⟩ ks = true
    exact fit_star (x := 110) (by decide) fun k hk => has_n (List.all_eq_true.1 (show (ks.all fun k => k == 17) = true from h) k hk)
  · show fitB ⟨#[]⟩ ks = true
    exact fitE0 h
  · show fitB ⟨#[]⟩ ks = true
    exact fitE0 h
  · show fitB ⟨#[]⟩ ks = true
    exact fitE0 h
  · show fitB ⟨#[]⟩ ks = true
    exact fitE0 h
  · show fitB ⟨#[101]⟩ ks = true
    exact fitE1 h
  · show fitB ⟨#[101, 101]⟩ ks = true
    exact fitE2 h
  · show fitB ⟨#[101]⟩ ks = true
    exact fitE1 h
  · show fitB ⟨#[101, 101]⟩ ks = true
    exact fitE2 h
  · show fitB ⟨#[42, 101]⟩ ks = true
    exact fit_star (x := 101) (by decide) fun k hk => has_e ((exprs_facts (show exprsB ks ks.length = true from h)).2 k hk)
  · show fitB ⟨#[]⟩ ks = true
    exact fitE0 h
  · show fitB ⟨#[101]⟩ ks = true
    exact fitE1 h
  · show fitB ⟨#[101]⟩ ks = true
    exact fitE1 h
  · show fitB ⟨#[]⟩ ks = true
    exact fitE0 h
  · show fitB ⟨#[101]⟩ ks = true
    exact fitE1 h
  · show fitB ⟨#[]⟩ ks = true
    exact fitE0 h
  · show fitB ⟨#[101]⟩ ks = true
    exact fitE1 h
  · show fitB ⟨#[]⟩ ks = true
    exact fitE0 h
end Go.Idl
end

section
namespace Go.Idl
variable {T : Tbl}
def sgnS : ByteArray := ⟨#[45, 33, 126]⟩
def opsS : ByteArray := ⟨#[32, 43, 32, 45, 32, 42, 32, 47, 32, 37, 32, 60, 60, 32, 62, 62, 32, 38, 32, 94, 32, 124, 32, 61, 61, 32, 33, 61, 32, 60, 32, 60, 61, 32]⟩
def conP (s t : ByteArray) : Bool := (decide (s = sgnS) && sgnB t) || (decide (s = opsS) && opsL.any fun w => decide (t = ⟨#[32]⟩ ++ w ++ ⟨#[32]⟩))
structure SaysFns (T : Tbl) : Prop where
  says : T.fn 11 = some C11
  Name : T.fn 22 = some C22
  classes : ∀ (h : Heap) (K : Out → Heap → Prop), K (.ret clsV) h → Wk T (.fn 35) [] h K
  peek : T.fn 43 = some C43
  goes : T.fn 44 = some C44
  word : T.fn 45 = some C45
  reserved : T.fn 58 = some C58
  Number : T.fn 23 = some C23
  worth : T.fn 46 = some C46
  con : ∀ (s t : ByteArray) (h : Heap) (K : Out → Heap → Prop), conP s t = true → K (.ret (.bool true)) h → Wk T (.fn 24) [.string s, .string t] h K
theorem sgn_size {s : ByteArray} (h : sgnB s = true) : s.size = 1 := by
  simp only [sgnB, Bool.or_eq_true, decide_eq_true_eq] at h
  rcases h with (h | h) | h <;> subst h <;> rfl
theorem op_facts {s : ByteArray} (h : opB s = true) : decide (s = ⟨#[]⟩) = false ∧ s.size ≤ 2 ∧ (opsL.any fun w => decide (⟨#[32]⟩ ++ s ++ ⟨#[32]⟩ = (⟨#[32]⟩ ++ w ++ ⟨#[32]⟩ : ByteArray))) = true := by
  obtain ⟨w, hw, h1⟩ := List.any_eq_true.1 h
  have h1 := of_decide_eq_true h1
  subst h1
  refine ⟨?_, ?_, List.any_eq_true.2 ⟨s, hw, decide_eq_true rfl⟩⟩
  · exact decide_eq_false fun e => by
      have : ∀ w ∈ opsL, w.size ≠ 0 := by decide
      exact this s hw (by rw [e]; rfl)
  · have : ∀ w ∈ opsL, w.size ≤ 2 := by decide
    exact this s hw
theorem dig_facts {s : ByteArray} {c : UInt8} (hc : (bs s)[0]? = some c) (h : digB s = true) : (numR (bs s)).2 = true ∧ (decide (s = ⟨#[48]⟩) = true ∨ ((49 : Int) ≤ ((c.toNat : Nat) : Int) ∧ ((c.toNat : Nat) : Int) ≤ 57)) := by
  rw [digB, bt_at hc] at h
  simp only [Bool.and_eq_true, Bool.or_eq_true, decide_eq_true_eq, Bool.not_eq_true', beq_eq_false_iff_ne] at h
  obtain ⟨⟨⟨h1, h2⟩, h3⟩, h4⟩ := h
  refine ⟨h1, ?_⟩
  by_cases h48 : ((c.toNat : Nat) : Int) = 48
  · left
    rcases h4 with h4 | h4
    · refine decide_eq_true (bs_inj ?_)
      have hl : (bs s).length = 1 := by rw [← bs_size]; exact h4
      match hb : bs s, hl, hc with
      | [x], _, hx =>
        simp at hx
        subst hx
        have : x = 48 := UInt8.toNat_inj.1 (by simp; omega)
        rw [this]; rfl
    · exact absurd h48 h4
  · right; omega
theorem says_ok (F : SaysFns T) {x : Nd} {h : Heap} (hs : x.text.size < 4611686018427387904) (ht : textB x.kind x.text = true) : Wk T (.fn 11) [.agg x.cells.toArray] h (fun o h' => Kept h h' ∧ o = .ret (.bool true)) := by
  refine Wk_fn F.says (by simp [C11]) ?_
  simp only [C11]
  refine Wc_seq (Wc_ops (Wo_box (cs := x.cells) rfl fun h1 n1 => (Wo_run (fun call => by simp only [go_sem, seval]; rfl) ?_)))
  show Wc T _ _ _
  have fin : ∀ (e : Env) (h2 : Heap) (x' : Ex), Kept h1 h2 → (x' = .normal ∨ x' = .ret) → e 2 = .bool true → (x' = .normal ∨ x' = .ret) ∧ some ([] : List Dfr) = some [] ∧ ∃ vs, resAll e h2 [.tmp 2] = some vs ∧ Kept h h2 ∧ Out.ret (tup vs) = .ret (.bool true) := fun e h2 x' hk hx h4 =>
    ⟨hx, rfl, [.bool true], by simp only [resAll, resV, h4], n1.kept.trans hk, rfl⟩
  have hg := n1.get
  refine Wc_seq (Wc_seq (Wc_ops (Wo_run (fun call => by simp only [go_sem, seval, hg, Nd.cells]; rfl) ?_)))
  show Wc T _ _ _
  refine Wc_block ?_
  refine Wc_mid (fun s' => s'.d = some [] ∧ s'.h = h1 ∧ s'.e 1 = ptr h.next 0 ∧ s'.e 6 = .int .i64 x.kind ∧ s'.e 7 = .bool (mem7 x.kind)) ?_ ?_
  · clear fin
    refine Wc_case (by first | rfl | assumption) (fun y => Wc_skip ⟨rfl, rfl, (by first | rfl | assumption), (by first | rfl | assumption), by simp only [upd, dstUpd, reduceIte, Nat.reduceEqDiff, mem7, y, true_or, or_true, decide_true]; try rfl⟩) (fun m0 => ?_)
    refine Wc_case (by first | rfl | assumption) (fun y => Wc_skip ⟨rfl, rfl, (by first | rfl | assumption), (by first | rfl | assumption), by simp only [upd, dstUpd, reduceIte, Nat.reduceEqDiff, mem7, y, true_or, or_true, decide_true]; try rfl⟩) (fun m1 => ?_)
    refine Wc_case (by first | rfl | assumption) (fun y => Wc_skip ⟨rfl, rfl, (by first | rfl | assumption), (by first | rfl | assumption), by simp only [upd, dstUpd, reduceIte, Nat.reduceEqDiff, mem7, y, true_or, or_true, decide_true]; try rfl⟩) (fun m2 => ?_)
    refine Wc_case (by first | rfl | assumption) (fun y => Wc_skip ⟨rfl, rfl, (by first | rfl | assumption), (by first | rfl | assumption), by simp only [upd, dstUpd, reduceIte, Nat.reduceEqDiff, mem7, y, true_or, or_true, decide_true]; try rfl⟩) (fun m3 => ?_)
    refine Wc_case (by first | rfl | assumption) (fun y => Wc_skip ⟨rfl, rfl, (by first | rfl | assumption), (by first | rfl | assumption), by simp only [upd, dstUpd, reduceIte, Nat.reduceEqDiff, mem7, y, true_or, or_true, decide_true]; try rfl⟩) (fun m4 => ?_)
    refine Wc_case (by first | rfl | assumption) (fun y => Wc_skip ⟨rfl, rfl, (by first | rfl | assumption), (by first | rfl | assumption), by simp only [upd, dstUpd, reduceIte, Nat.reduceEqDiff, mem7, y, true_or, or_true, decide_true]; try rfl⟩) (fun m5 => ?_)
    refine Wc_ops (Wo_run (fun call => by simp only [go_sem, seval]; rfl) ?_)
    exact ⟨rfl, rfl, (by first | rfl | assumption), (by first | rfl | assumption), by simp only [upd, dstUpd, reduceIte, Nat.reduceEqDiff, Bool.beq_eq_decide_eq, mem7, m0, m1, m2, m3, m4, m5, false_or]⟩
  rintro ⟨e, h', d⟩ ⟨hd', hh, g1, g6, g7⟩
  simp only at hd' hh g1 g6 g7
  rw [hd', hh]
  have pg : ptr h.next 0 = .pointer (some ⟨h.next, 0, none⟩) := rfl
  rw [pg] at g1
  refine Wc_cond _ g7 (fun y => ?_) (fun n7 => ?_)
  · rw [textB, if_pos y] at ht
    refine Wc_seq (Wc_ops (Wo_pre 2 (fun call => by simp only [go_sem, seval, g1, hg, Nd.cells]; rfl) ?_))
    refine Wo_call (Wk_kept (nameS_ok F.Name F.classes F.peek F.goes F.word F.reserved (s := x.text) hs) fun h2 k2 => ?_)
    refine (Wo_run (fun call => by simp only [go_sem, seval, ht]; rfl) ?_)
    exact Wc_ret (fin _ _ _ k2 (.inr rfl) (by first | rfl | assumption))
  have n7' : ¬ mem7 x.kind = true := by rw [n7]; decide
  rw [textB, if_neg n7'] at ht
  refine Wc_case g6 (fun y15 => ?_) (fun n15 => ?_)
  · rw [if_pos y15] at ht
    refine Wc_seq (Wc_ops (Wo_pre 2 (fun call => by simp only [go_sem, seval, g1, hg, Nd.cells]; rfl) ?_))
    refine Wo_call (Wk_pure (numberS_ok F.Number F.worth (s := x.text) (by omega)) ?_)
    refine (Wo_run (fun call => by simp only [go_sem, seval, numV]; rfl) ?_)
    show Wc T _ _ _
    have hnum : (numR (bs x.text)).2 = true := by
      rw [digB] at ht
      simp only [Bool.and_eq_true] at ht
      exact ht.1.1.1
    have h0 := num_ne hnum
    obtain ⟨c, hc⟩ := bs_at h0
    have s0 : x.text.data.toList[0]? = some c := hc
    have i0 := idx0 (k := .i64) h0
    obtain ⟨_, hz | ⟨x0, x1⟩⟩ := dig_facts hc ht
    · refine Wc_seq (Wc_ops (Wo_run (fun call => by simp only [go_sem, seval, hnum, g1, hg, Nd.cells, hz]; rfl) ?_))
      exact Wc_ret (fin _ _ _ (.refl _) (.inr rfl) (by first | rfl | assumption))
    · cases hz : decide (x.text = ⟨#[48]⟩)
      · refine Wc_seq (Wc_ops (Wo_run (fun call => by simp only [go_sem, seval, hnum, g1, hg, Nd.cells, hz, i0, s0, x0, x1]; rfl) ?_))
        exact Wc_ret (fin _ _ _ (.refl _) (.inr rfl) (by first | rfl | assumption))
      · refine Wc_seq (Wc_ops (Wo_run (fun call => by simp only [go_sem, seval, hnum, g1, hg, Nd.cells, hz]; rfl) ?_))
        exact Wc_ret (fin _ _ _ (.refl _) (.inr rfl) (by first | rfl | assumption))
  rw [if_neg n15] at ht
  refine Wc_case (by simp only [go_sem, seval, g6] <;> first | rfl | assumption | (symm; assumption)) (fun y18 => ?_) (fun n18 => ?_)
  · rw [if_pos y18] at ht
    have hsz := sgn_size ht
    refine Wc_seq (Wc_ops (Wo_pre 7 (fun call => by simp only [go_sem, seval, g1, hg, Nd.cells, hsz, show ((1 : Nat) : Int) = 1 from rfl]; rfl) ?_))
    refine Wo_take (by simp only [upd, dstUpd, reduceIte, Nat.reduceEqDiff, gval_bool]; rfl) (Wo_call (F.con _ _ _ _ ?_ ?_))
    · simp only [conP, ht, sgnS, decide_true, Bool.and_self, Bool.true_or]
    refine (Wo_run (fun call => by simp only [go_sem, seval]; rfl) ?_)
    exact Wc_ret (fin _ _ _ (.refl _) (.inr rfl) (by first | rfl | assumption))
  rw [if_neg n18] at ht
  refine Wc_case (by simp only [go_sem, seval, g6] <;> first | rfl | assumption | (symm; assumption)) (fun y19 => ?_) (fun n19 => Wc_skip ?_)
  · rw [if_pos y19] at ht
    obtain ⟨o1, o2, o3⟩ := op_facts ht
    have z1 : (⟨#[32]⟩ : ByteArray).size + x.text.size ≤ 9223372036854775807 := by
      have : (⟨#[32]⟩ : ByteArray).size = 1 := rfl
      omega
    have z2 : ((⟨#[32]⟩ : ByteArray) ++ x.text).size + (⟨#[32]⟩ : ByteArray).size ≤ 9223372036854775807 := by
      have : (⟨#[32]⟩ : ByteArray).size = 1 := rfl
      rw [ByteArray.size_append]
      omega
    refine Wc_seq (Wc_ops (Wo_pre 8 (fun call => by simp only [go_sem, seval, g1, hg, Nd.cells, o1, z1, z2]; rfl) ?_))
    refine Wo_take (by simp only [upd, dstUpd, reduceIte, Nat.reduceEqDiff, gval_bool]; rfl) (Wo_call (F.con _ _ _ _ ?_ ?_))
    · simp only [conP, o3, opsS, decide_true, Bool.and_self, Bool.or_true]
    refine (Wo_run (fun call => by simp only [go_sem, seval]; rfl) ?_)
    exact Wc_ret (fin _ _ _ (.refl _) (.inr rfl) (by first | rfl | assumption))
  rw [if_neg n19] at ht
  show Wc T _ _ _
  refine Wc_seq (Wc_ops (Wo_run (fun call => by simp only [go_sem, seval, g1, hg, Nd.cells, ht]; rfl) ?_))
  exact Wc_ret (fin _ _ _ (.refl _) (.inr rfl) (by first | rfl | assumption))
end Go.Idl
end

section
namespace Go.Idl
variable {T : Tbl}
def mapStep (p : Int × ByteArray) : Step := ⟨none, .op (.mapset (.one (.int .i64)) (.t 1) (.c (.int .i64 p.1)) (.c (.string p.2))), none⟩
def mapIn (es : List (Value × Value)) (p : Int × ByteArray) : List (Value × Value) := setK [.int .i64 p.1] (.int .i64 p.1) (.string p.2) es
def wantM : List (Value × Value) := wantL.foldl mapIn []
theorem Wo_maps {rest : List Step} {e : Env} {d : Option (List Dfr)} {Q : Option Value → St → Prop} {m : Nat} (he : e 1 = .map (some m)) : ∀ (ps : List (Int × ByteArray)) {h : Heap} {es : List (Value × Value)}, h.get m = some (.map (.one (.int .i64)) es) →
    (∀ h', KeptBut m h h' → h'.next = h.next → h'.get m = some (.map (.one (.int .i64)) (ps.foldl mapIn es)) → Wo T rest ⟨e, h', d⟩ Q) → Wo T (ps.map mapStep ++ rest) ⟨e, h, d⟩ Q
  | [], h, es, hm, k => k h (.refl _ _) rfl hm
  | p :: ps, h, es, hm, k => by
    rw [List.map_cons, List.cons_append]
    refine Wo_op (v := undef) (h' := h.set m (.map (.one (.int .i64)) (mapIn es p))) ?_ ?_
    · simp only [iop, ev, he, hm, keyOf, fit1, beq_self_eq_true, if_true]; rfl
    · refine Wo_maps he ps (set_get' _ _ _) fun h' k1 k2 k3 => k h' (((KeptBut.refl m h).set _ (.inl rfl)).trans k1) k2 k3
theorem wants_ok (hT : T.fn 10 = some C10) {h : Heap} : Wk T (.fn 10) [] h (fun o h' => Kept h h' ∧ ∃ m, h.next ≤ m ∧ m < h'.next ∧ o = .ret (.map (some m)) ∧ h'.get m = some (.map (.one (.int .i64)) wantM)) := by
  refine Wk_fn hT (by simp [C10]) ?_
  simp only [C10]
  refine Wc_seq (Wc_ops (Wo_run (fun call => by simp only [go_sem, seval]; rfl) ?_))
  show Wc T _ _ _
  refine Wc_seq (Wc_ops (Wo_new (v := .map (some h.next)) (B := .map (.one (.int .i64)) []) rfl fun h1 n1 => ?_))
  refine Wo_maps (m := h.next) (by simp only [upd, dstUpd, reduceIte, Nat.reduceEqDiff]) wantL n1.get (rest := [⟨(some 2), .op (.mov (.t 1)), none⟩, ⟨(some 0), .op (.mov (.t 2)), none⟩]) fun h' k1 k2 k3 => ?_
  refine (Wo_run (fun call => by simp only [go_sem, seval]; rfl) ?_)
  refine Wc_ret ⟨.inr rfl, rfl, [.map (some h.next)], by simp only [resAll, resV, upd, dstUpd, reduceIte, Nat.reduceEqDiff], n1.kept.of_but k1 (Nat.le_refl _), h.next, Nat.le_refl _, ?_, rfl, k3⟩
  show h.next < h'.next
  rw [k2, n1.next]; exact Nat.lt_succ_self _
theorem want_all : ((List.range 30).all fun n => match findK [.int .i64 ((n : Int) + 1)] wantM with | some (.string s) => decide (s = wantOf ((n : Int) + 1)) && s.size ≤ 3000 && s.data.toList.all fun b => b.toNat < 128 | _ => false) = true := by kernel_rfl
theorem want_at {k : Int} (h1 : 1 ≤ k) (h2 : k ≤ 30) : findK [.int .i64 k] wantM = some (.string (wantOf k)) ∧ (wantOf k).size ≤ 3000 ∧ Asc (wantOf k) := by
  obtain ⟨n, rfl⟩ : ∃ n : Nat, k = (n : Int) + 1 := ⟨(k - 1).toNat, by omega⟩
  have := List.all_eq_true.1 want_all n (List.mem_range.2 (by omega))
  split at this
  · rename_i s hs
    simp only [Bool.and_eq_true, decide_eq_true_eq] at this
    obtain ⟨⟨rfl, h4⟩, h5⟩ := this
    refine ⟨hs, h4, fun b hb => ?_⟩
    have := List.all_eq_true.1 h5 b hb
    exact of_decide_eq_true this
  · cases this
def momL (n : Nat) (S : List Int) (ms : List Int) : Prop := ms.length = n ∧ ∀ k, k < n → ∃ m : Int, ms[k]? = some m ∧ 0 ≤ m ∧ (m = 0 ↔ (k : Int) ∉ S)
theorem momL_nil (n : Nat) : momL n [] (List.replicate n 0) := ⟨List.length_replicate .., fun k hk => ⟨0, by rw [List.getElem?_replicate, if_pos hk], Int.le_refl _, by simp⟩⟩
theorem momL_set {n : Nat} {S ms : List Int} (h : momL n S ms) {k : Nat} (hk : k < n) {v : Int} (hv : 0 < v) : momL n (S ++ [(k : Int)]) (ms.set k v) := by
  refine ⟨by rw [List.length_set]; exact h.1, fun i hi => ?_⟩
  rw [List.getElem?_set, h.1]
  by_cases e : k = i
  · subst e
    rw [if_pos rfl, if_pos hk]
    exact ⟨v, rfl, by omega, by simp; omega⟩
  · rw [if_neg e]
    obtain ⟨m, h1, h2, h3⟩ := h.2 i hi
    refine ⟨m, h1, h2, ?_⟩
    rw [h3, List.mem_append, List.mem_singleton]
    constructor
    · rintro h (h' | h')
      · exact h h'
      · exact e (by omega)
    · exact fun h h' => h (.inl h')
theorem ints64_set (ms : List Int) (k : Nat) (v : Int) : (ints64 ms).set k (.int .i64 v) = ints64 (ms.set k v) := by simp [ints64, List.map_set]
theorem repI (n : Nat) : (List.replicate n [Value.int .i64 0]).flatten = ints64 (List.replicate n 0) := by
  have : (List.replicate n [Value.int .i64 0]).flatten = List.replicate n (.int .i64 0) := by induction n with | zero => rfl | succ n ih => rw [List.replicate_succ, List.flatten_cons, ih, List.replicate_succ]; rfl
  rw [this, ints64, List.map_replicate]
structure ChkFns (T : Tbl) : Prop where
  check : T.fn 6 = some C6
  wants : T.fn 10 = some C10
  deep : T.fn 13 = some C13
  says : SaysFns T
  fits : FitFns T
theorem check_ok (F : ChkFns T) {h : Heap} {v : Value} {l : List Nd} (hn : nodesAt h v l) (hN : l.length ≤ 50000) (hK : ∀ x ∈ l, x.kids.length ≤ 100000) (hS : ∀ x ∈ l, x.text.size < 4611686018427387904) (g : GoodT l) :
    Wk T (.fn 6) [v] h (fun o h' => Kept h h' ∧ o = .ret (.tuple #[.int .i64 0, .int .i64 0])) := by
  obtain ⟨va, vc, hvl⟩ := hn.len
  refine Wk_fn F.check (by simp [C6]) ?_
  simp only [C6]
  refine Wc_seq (Wc_ops (Wo_run (fun call => by simp only [go_sem, seval]; rfl) ?_))
  show Wc T _ _ _
  have z1 : ¬ ((50000 : Int) < ((l.length : Nat) : Int)) := by omega
  refine Wc_seq (Wc_seq (Wc_ops (Wo_run (fun call => by simp only [go_sem, seval, hvl, z1]; rfl) ?_)))
  show Wc T _ _ _
  refine Wc_cond false (by first | rfl | assumption) (fun e => by cases e) (fun _ => Wc_skip ?_)
  show Wc T _ _ _
  refine Wc_seq (Wc_ops (Wo_call ((wants_ok F.wants).mono ?_)))
  rintro o h1 ⟨k1, M, hM0, hM, rfl, hMg⟩
  show Wo T _ _ _
  refine (Wo_run (fun call => by simp only [go_sem, seval]; rfl) ?_)
  show Wc T _ _ _
  refine Wc_seq (Wc_ops (Wo_pre 2 (fun call => by simp only [go_sem, seval, hvl]; rfl) ?_))
  refine Wo_new (v := .slice (some ⟨h1.next, 0, none⟩) l.length l.length) (B := .cells (ints64 (List.replicate l.length 0)) true 1) ?_ fun h2 n2 => ?_
  · simp only [iop, ev, upd, dstUpd, reduceIte, Nat.reduceEqDiff, Int.toNat_natCast]
    rw [if_pos (by omega), repI]
  refine (Wo_run (fun call => by simp only [go_sem, seval]; rfl) ?_)
  show Wc T _ _ _
  have hMg2 : h2.get M = some (.map (.one (.int .i64)) wantM) := by rw [n2.kept.get _ hM]; exact hMg
  have hM2 : M < h1.next := hM
  have hkept : ∀ h', KeptBut h1.next h2 h' → Kept h h' := fun h' kb => (k1.trans n2.kept).of_but kb k1.next
  have hmap : ∀ h', KeptBut h1.next h2 h' → h'.get M = some (.map (.one (.int .i64)) wantM) := fun h' kb => by rw [kb.get _ (by have := n2.next; omega) (by omega)]; exact hMg2
  have hB : h1.next < h2.next := by rw [n2.next]; exact Nat.lt_succ_self _
  refine Wc_mid (fun s' => s'.d = some [] ∧ KeptBut h1.next h2 s'.h ∧ (∃ ms, s'.h.get h1.next = some (.cells (ints64 ms) true 1) ∧ momL l.length (kidsUp l l.length) ms) ∧ s'.e 0 = v ∧ s'.e 5 = .slice (some ⟨h1.next, 0, none⟩) l.length l.length) ?_ ?_
  · refine Wc_seq (Wc_ops (Wo_run (fun call => by simp only [go_sem, seval, hvl]; rfl) ?_))
    show Wc T _ _ _
    refine Wc_range l.length (fun j e h' d => d = some [] ∧ KeptBut h1.next h2 h' ∧ (∃ ms, h'.get h1.next = some (.cells (ints64 ms) true 1) ∧ momL l.length (kidsUp l j) ms)) (by decide) (by first | rfl | assumption) (by first | rfl | assumption) (by omega) (by decide) ?_ ?_ ?_
    · exact ⟨rfl, .refl _ _, _, n2.get, momL_nil _⟩
    · rintro j e h' d hj ⟨rfl, hkb, ms, hu, hms⟩ hfr h24 h23
      obtain ⟨x, hx⟩ : ∃ x, l[j]? = some x := ⟨_, List.getElem?_eq_getElem hj⟩
      have hxm := List.mem_of_getElem? hx
      have hk : Kept h h' := hkept _ hkb
      have ok := g.ok j x hx
      obtain ⟨b, c, o, z, hvb, hb, hg, hcs⟩ := (hn.keep hk).load4 hx
      have e22 : e 22 = v := ((hfr 22 (by decide)).trans (by first | rfl | assumption | (symm; assumption)))
      have e0 : e 0 = v := ((hfr 0 (by decide)).trans (by first | rfl | assumption | (symm; assumption)))
      have e4 : e 4 = .map (some M) := ((hfr 4 (by decide)).trans (by first | rfl | assumption | (symm; assumption)))
      have e5 : e 5 = .slice (some ⟨h1.next, 0, none⟩) l.length l.length := ((hfr 5 (by decide)).trans (by first | rfl | assumption | (symm; assumption)))
      refine Wc_seq (Wc_ops (Wo_pre 5 (fun call => by simp only [go_sem, seval, h24, e22, hvb, idx_ok hj, hcs]; rfl) ?_))
      refine Wo_store_new (cs := x.cells) (h := h') (by first | rfl | assumption) (by first | rfl | assumption) rfl rfl fun h3 n3 => Wo_nil ?_
      show Wc T _ _ _
      have hk3 : KeptBut h1.next h2 h3 := hkb.kept n3.kept
      have hu3 : h3.get h1.next = some (.cells (ints64 ms) true 1) := by rw [n3.kept.get _ (by have := hkb.next; omega)]; exact hu
      have hm3 := hmap _ hk3
      have hki : intsAt h x.kv x.kids := hn.2 x hxm
      have hkl := hK x hxm
      obtain ⟨ka, kc, hkv⟩ := hki.len
      obtain ⟨w1, w2, w3⟩ := want_at ok.kind.1 ok.kind.2
      have hB3 : h1.next < h3.next := by have := hkb.next; have := n3.kept.next; omega
      have h7lt : h'.next < h3.next := by rw [n3.next]; exact Nat.lt_succ_self _
      have h7ne : h'.next ≠ h1.next := by have := hkb.next; omega
      refine Wc_seq (Wc_ops (Wo_pre 3 (fun call => by simp only [go_sem, seval, n3.get, Nd.cells, e4]; rfl) ?_))
      refine Wo_op (v := .tuple #[.string (wantOf x.kind), .bool true]) (h' := h3) (by simp only [iop, ev, upd, dstUpd, reduceIte, Nat.reduceEqDiff, hm3, keyOf, fit1, beq_self_eq_true, if_true, w1]) ?_
      refine (Wo_run (fun call => by simp only [go_sem, seval]; rfl) ?_)
      show Wc T _ _ _
      have p0 : ¬ x.pos < 0 := by have := ok.pos; omega
      refine Wc_seq (Wc_seq (Wc_ops (Wo_run (fun call => by simp only [go_sem, seval, n3.get, Nd.cells, p0]; rfl) ?_)))
      show Wc T _ _ _
      refine Wc_cond false (by first | rfl | assumption) (fun e => by cases e) (fun _ => Wc_skip ?_)
      show Wc T _ _ _
      refine Wc_mid (fun s' => s'.d = some [] ∧ KeptBut h1.next h3 s'.h ∧ (∃ ms, s'.h.get h1.next = some (.cells (ints64 ms) true 1) ∧ momL l.length (kidsUp l (j + 1)) ms) ∧ s'.e 0 = v ∧ s'.e 7 = ptr h'.next 0 ∧ s'.e 8 = .string (wantOf x.kind)) ?_ ?_
      · rw [kidsUp_succ hx]
        refine Wc_seq (Wc_ops (Wo_run (fun call => by simp only [go_sem, seval, n3.get, Nd.cells, hkv]; rfl) ?_))
        show Wc T _ _ _
        refine Wc_range x.kids.length (fun m e h4 d => d = some [] ∧ KeptBut h1.next h3 h4 ∧ (∃ ms, h4.get h1.next = some (.cells (ints64 ms) true 1) ∧ momL l.length (kidsUp l j ++ x.kids.take m) ms)) (by decide) (by first | rfl | assumption) (by first | rfl | assumption) (by omega) (by decide) ?_ ?_ ?_
        · exact ⟨rfl, .refl _ _, ms, hu3, by rw [List.take_zero, List.append_nil]; exact hms⟩
        · rintro m e3 h4 d hm ⟨rfl, hkb4, ms4, hu4, hms4⟩ hfr h47 h46
          obtain ⟨k, hkm⟩ : ∃ k, x.kids[m]? = some k := ⟨_, List.getElem?_eq_getElem hm⟩
          have hkmem := List.mem_of_getElem? hkm
          have htake : x.kids.take (m + 1) = x.kids.take m ++ [k] := by rw [List.take_add_one, hkm]; rfl
          obtain ⟨k0, kj⟩ := ok.kids k hkmem
          have hk4 : Kept h h4 := hkept _ (hk3.trans hkb4)
          obtain ⟨bk, ck, hkvb, hbk, ⟨ok', zk, hgk⟩, hcell⟩ := (hki.keep hk4).load hkm
          rw [Nat.zero_add] at hcell
          have e45 : e3 45 = x.kv := ((hfr 45 (by decide)).trans (by first | rfl | assumption | (symm; assumption)))
          have e6 : e3 6 = .int .i64 j := ((hfr 6 (by decide)).trans (by first | rfl | assumption | (symm; assumption)))
          have e5' : e3 5 = .slice (some ⟨h1.next, 0, none⟩) l.length l.length := ((hfr 5 (by decide)).trans (by first | rfl | assumption | (symm; assumption)))
          refine Wc_seq (Wc_ops (Wo_run (fun call => by simp only [go_sem, seval, h47, e45, hkvb, idx_ok hm, hgk, hcell]; rfl) ?_))
          show Wc T _ _ _
          obtain ⟨kk, rfl⟩ : ∃ kk : Nat, k = kk := ⟨k.toNat, by omega⟩
          have hkk : kk < l.length := by omega
          have hnew : (kk : Int) ∉ kidsUp l j ++ x.kids.take m := by
            have hnd : (kidsUp l (j + 1)).Nodup := g.nodup.sublist (kidsUp_sub (by omega))
            rw [kidsUp_succ hx] at hnd
            have hsub : (kidsUp l j ++ x.kids.take (m + 1)).Nodup := hnd.sublist (List.Sublist.append (List.Sublist.refl _) (List.take_sublist _ _))
            rw [htake, ← List.append_assoc] at hsub
            exact fun hm => (List.nodup_append.1 hsub).2.2 _ hm _ (List.mem_singleton.2 rfl) rfl
          obtain ⟨m0, hm0, _, hm1⟩ := hms4.2 kk hkk
          have hm00 : m0 = 0 := hm1.2 hnew
          subst hm00
          have hcm : (ints64 ms4)[kk * 1]? = some (.int .i64 0) := by rw [Nat.mul_one]; exact ints64_get hm0
          have k0' : ¬ ((kk : Nat) : Int) < 0 := by omega
          have kj' : ¬ ((j : Nat) : Int) ≤ ((kk : Nat) : Int) := by omega
          refine Wc_seq (Wc_seq (Wc_ops (Wo_run (fun call => by simp only [go_sem, seval, e6, e5', k0', kj', idx_ok hkk, hu4, hcm]; rfl) ?_)))
          show Wc T _ _ _
          refine Wc_cond false (by first | rfl | assumption) (fun e => by cases e) (fun _ => Wc_skip ?_)
          show Wc T _ _ _
          have ew : IntKind.i64.wrap (((j : Nat) : Int) + 1) = ((j : Nat) : Int) + 1 := wrap64 (by omega) (by omega)
          refine Wc_ops (Wo_pre 5 (fun call => by simp only [go_sem, seval, e6, e5', idx_ok hkk, ew]; rfl) ?_)
          refine Wo_op (iop_store_at (k := kk * 1) (v := .int .i64 (((j : Nat) : Int) + 1)) (by first | rfl | assumption) (by simp only [ev, upd, dstUpd, reduceIte, Nat.reduceEqDiff]; rfl) hu4 (by rw [ints64_length, hms4.1]; omega)) (Wo_nil ?_)
          rw [Nat.mul_one, ints64_set]
          refine ⟨rfl, hkb4.set _ (.inl rfl), _, set_get' _ _ _, ?_⟩
          rw [htake, ← List.append_assoc]
          rw [Nat.mul_one]
          exact momL_set (v := ((j : Nat) : Int) + 1) hms4 hkk (by omega)
        · rintro e3 h4 d ⟨rfl, hkb4, hex⟩ hfr h47
          rw [List.take_length] at hex
          have e0' : e3 0 = v := ((hfr 0 (by decide)).trans (by first | rfl | assumption | (symm; assumption)))
          have e7 : e3 7 = ptr h'.next 0 := ((hfr 7 (by decide)).trans (by first | rfl | assumption | (symm; assumption)))
          have e8 : e3 8 = .string (wantOf x.kind) := ((hfr 8 (by decide)).trans (by first | rfl | assumption | (symm; assumption)))
          exact ⟨rfl, hkb4, hex, (by simp only [go_sem, seval, e0'] <;> first | rfl | assumption | (symm; assumption)), by simp only [upd, dstUpd, reduceIte, Nat.reduceEqDiff]; exact e7, (by simp only [go_sem, seval, e8] <;> first | rfl | assumption | (symm; assumption))⟩
      rintro ⟨e3, h4, d3⟩ ⟨hd3, hkb4, hex, e0', e7, e8⟩
      simp only at hd3 hkb4 hex e0' e7 e8
      rw [hd3]
      have hk4 : KeptBut h1.next h2 h4 := hk3.trans hkb4
      have hgx : h4.get h'.next = some (.cells x.cells true 0) := by rw [hkb4.get _ h7lt h7ne]; exact n3.get
      have pg : ptr h'.next 0 = .pointer (some ⟨h'.next, 0, none⟩) := rfl
      rw [pg] at e7
      have hcx : h4.cells h'.next 0 4 = some x.cells := cells_all hgx rfl
      refine Wc_block (Wc_seq (Wc_ops (Wo_pre 1 (fun call => by simp only [go_sem, seval, e7, hcx]; rfl) ?_)))
      refine Wo_call (Wk_kept (says_ok F.says (x := x) (hS x hxm) ok.text) fun h5 k5 => ?_)
      refine (Wo_run (fun call => by simp only [go_sem, seval]; rfl) ?_)
      show Wc T _ _ _
      refine Wc_cond false (by first | rfl | assumption) (fun e => by cases e) (fun _ => ?_)
      have hk5 : KeptBut h1.next h2 h5 := hk4.kept k5
      have hgx5 : h5.get h'.next = some (.cells x.cells true 0) := by rw [k5.get _ (by have := hkb4.next; omega)]; exact hgx
      refine Wc_seq (Wc_ops (Wo_pre 4 (fun call => by simp only [go_sem, seval, e0', e7, hgx5, Nd.cells, e8]; rfl) ?_))
      refine Wo_call (Wk_kept (fits_ok F.fits (hn.keep (hkept _ hk5)) (hki.keep (hkept _ hk5)) (fun k hk => ⟨(ok.kids k hk).1, by have := (ok.kids k hk).2; omega⟩) hkl w3 w2) fun h6 k6 => ?_)
      rw [fit_of_shape ok.kind.1 ok.kind.2 ok.shape]
      refine (Wo_run (fun call => by simp only [go_sem, seval]; rfl) ?_)
      show Wc T _ _ _
      refine Wc_cond false (by first | rfl | assumption) (fun e => by cases e) (fun _ => Wc_skip ?_)
      obtain ⟨ms', hu', hms'⟩ := hex
      refine ⟨rfl, hk5.kept k6, ms', ?_, hms'⟩
      show h6.get h1.next = _
      rw [k6.get _ (by have := hk5.next; omega), k5.get _ (by have := hk4.next; omega)]; exact hu'
    · rintro e h' d ⟨rfl, hkb, hex⟩ hfr h24
      have e0 : e 0 = v := ((hfr 0 (by decide)).trans (by first | rfl | assumption | (symm; assumption)))
      have e5 : e 5 = .slice (some ⟨h1.next, 0, none⟩) l.length l.length := ((hfr 5 (by decide)).trans (by first | rfl | assumption | (symm; assumption)))
      exact ⟨rfl, hkb, hex, (by simp only [go_sem, seval, e0] <;> first | rfl | assumption | (symm; assumption)), (by simp only [go_sem, seval, e5] <;> first | rfl | assumption | (symm; assumption))⟩
  rintro ⟨e, h3, d⟩ ⟨hd, hkb, ⟨ms, hu, hms⟩, e0, e5⟩
  simp only at hd hkb hu e0 e5
  rw [hd]
  have hne := g.ne
  have ew : IntKind.i64.wrap (((l.length : Nat) : Int) - 1) = ((l.length : Nat) : Int) - 1 := wrap64 (by omega) (by omega)
  refine Wc_seq (Wc_ops (Wo_run (fun call => by simp only [go_sem, seval, e0, hvl, ew]; rfl) ?_))
  show Wc T _ _ _
  refine Wc_mid (fun s' => s'.d = some [] ∧ KeptBut h1.next h2 s'.h ∧ s'.e 0 = v ∧ s'.e 12 = .int .i64 (((l.length : Nat) : Int) - 1)) ?_ ?_
  · refine Wc_seq (Wc_ops (Wo_run (fun call => by simp only [go_sem, seval, e0, hvl]; rfl) ?_))
    show Wc T _ _ _
    refine Wc_range l.length (fun j e h' d => d = some [] ∧ KeptBut h1.next h2 h' ∧ h'.get h1.next = some (.cells (ints64 ms) true 1)) (by decide) (by first | rfl | assumption) (by first | rfl | assumption) (by omega) (by decide) ⟨rfl, hkb, hu⟩ ?_ ?_
    · rintro j e' h' d hj ⟨rfl, hkb2, hu2⟩ hfr h91 h90
      obtain ⟨x, hx⟩ : ∃ x, l[j]? = some x := ⟨_, List.getElem?_eq_getElem hj⟩
      obtain ⟨b, c, o, z', hvb, hb, hg, hcs⟩ := (hn.keep (hkept _ hkb2)).load4 hx
      have e89 : e' 89 = v := ((hfr 89 (by decide)).trans (by first | rfl | assumption | (symm; assumption)))
      have e5' : e' 5 = .slice (some ⟨h1.next, 0, none⟩) l.length l.length := ((hfr 5 (by decide)).trans (by first | rfl | assumption | (symm; assumption)))
      have e12 : e' 12 = .int .i64 (((l.length : Nat) : Int) - 1) := ((hfr 12 (by decide)).trans (by first | rfl | assumption | (symm; assumption)))
      refine Wc_seq (Wc_ops (Wo_pre 5 (fun call => by simp only [go_sem, seval, h91, e89, hvb, idx_ok hj, hcs]; rfl) ?_))
      refine Wo_store_new (cs := x.cells) (h := h') (by first | rfl | assumption) (by first | rfl | assumption) rfl rfl fun h4 n4 => Wo_nil ?_
      show Wc T _ _ _
      have hu4 : h4.get h1.next = some (.cells (ints64 ms) true 1) := by
        rw [n4.kept.get _ (by have := hkb2.next; omega)]; exact hu2
      have hk4 : KeptBut h1.next h2 h4 := hkb2.kept n4.kept
      obtain ⟨m0, hm0, hm1, hm2⟩ := hms.2 j hj
      have hcm : (ints64 ms)[j * 1]? = some (.int .i64 m0) := by rw [Nat.mul_one]; exact ints64_get hm0
      have hq : (((j : Nat) : Int) == ((l.length : Nat) : Int) - 1) = decide (j + 1 = l.length) := by rw [Bool.beq_eq_decide_eq, decide_eq_decide]; omega
      have hp : (x.kind == 1) = decide (x.kind = 1) := Bool.beq_eq_decide_eq _ _
      have hlast := g.last j x hx
      have hroot : j + 1 = l.length → (j : Int) ∉ kidsUp l l.length := fun hj1 hm => by
        simp only [kidsUp, List.take_length, List.mem_flatMap] at hm
        obtain ⟨y, hy, hky⟩ := hm
        obtain ⟨i, hi⟩ := List.getElem?_of_mem hy
        have := ((g.ok i y hi).kids _ hky).2
        have := (List.getElem?_eq_some_iff.1 hi).1
        omega
      cases q : decide (j + 1 = l.length)
      · have q' := of_decide_eq_false q
        have p : decide (x.kind = 1) = false := decide_eq_false fun e => q' (hlast.1 e)
        have hm : (m0 == 0) = false := beq_eq_false_iff_ne.2 fun e => hm2.1 e (g.used j (by omega))
        refine Wc_seq (Wc_ops (Wo_run (fun call => by simp only [go_sem, seval, n4.get, Nd.cells, e5', e12, hp, hq, p, q, bne, idx_ok hj, hu4, hcm, hm]; rfl) ?_))
        show Wc T _ _ _
        refine Wc_cond false (by first | rfl | assumption) (fun e => by cases e) (fun _ => Wc_skip ?_)
        exact ⟨rfl, hk4, hu4⟩
      · have q' := of_decide_eq_true q
        have p : decide (x.kind = 1) = true := decide_eq_true (hlast.2 q')
        have hm : (m0 == 0) = true := beq_iff_eq.2 (hm2.2 (hroot q'))
        refine Wc_seq (Wc_ops (Wo_run (fun call => by simp only [go_sem, seval, n4.get, Nd.cells, e5', e12, hp, hq, p, q, bne, idx_ok hj, hu4, hcm, hm]; rfl) ?_))
        show Wc T _ _ _
        refine Wc_cond false (by first | rfl | assumption) (fun e => by cases e) (fun _ => Wc_skip ?_)
        exact ⟨rfl, hk4, hu4⟩
    · rintro e' h' d ⟨rfl, hkb2, hu2⟩ hfr h91
      have e0' : e' 0 = v := ((hfr 0 (by decide)).trans (by first | rfl | assumption | (symm; assumption)))
      have e12 : e' 12 = .int .i64 (((l.length : Nat) : Int) - 1) := ((hfr 12 (by decide)).trans (by first | rfl | assumption | (symm; assumption)))
      exact ⟨rfl, hkb2, (by simp only [go_sem, seval, e0'] <;> first | rfl | assumption | (symm; assumption)), (by simp only [go_sem, seval, e12] <;> first | rfl | assumption | (symm; assumption))⟩
  rintro ⟨e', h4, d⟩ ⟨hd4, hkb4, e0', e12⟩
  simp only at hd4 hkb4 e0' e12
  rw [hd4]
  have z : ¬ ((l.length : Nat) : Int) - 1 < 0 := by omega
  refine Wc_seq (Wc_block (Wc_seq (Wc_ops (Wo_run (fun call => by simp only [go_sem, seval, e12, z]; rfl) ?_))))
  show Wc T _ _ _
  refine Wc_cond false (by first | rfl | assumption) (fun e => by cases e) (fun _ => ?_)
  refine Wc_seq (Wc_ops (Wo_pre 1 (fun call => by simp only [go_sem, seval, e0']; rfl) ?_))
  refine Wo_call (Wk_kept (deep13 F.deep (hn.keep (hkept _ hkb4)) (by omega) hK) fun h5 k5 => ?_)
  refine (Wo_run (fun call => by simp only [go_sem, seval]; rfl) ?_)
  show Wc T _ _ _
  have hdp := g.deep
  refine Wc_cond false (by simp only [go_sem, seval, decide_eq_false (show ¬ (200 : Int) < ((deepOf l : Nat) : Int) by omega)] <;> first | rfl | assumption | (symm; assumption)) (fun e => by cases e) (fun _ => Wc_skip ?_)
  show Wc T _ _ _
  refine Wc_seq (Wc_ops (Wo_run (fun call => by simp only [go_sem, seval]; rfl) ?_))
  exact Wc_ret ⟨.inr rfl, rfl, [.int .i64 0, .int .i64 0], by simp only [resAll, resV, upd, dstUpd, reduceIte, Nat.reduceEqDiff], (hkept _ hkb4).trans k5, rfl⟩
end Go.Idl
end

section
namespace Go.Idl
def C19 : IFn := ⟨13, (.seq (.ops [⟨some 2, .op (.alloc [.int .i64 0, .string ⟨#[]⟩, .int .i64 0, .int .i64 0, .int .i64 0]), none⟩]) (.seq (.draw [⟨some 3, .op (.mov (.t 0)), none⟩, ⟨some 4, .op (.nilck (.t 3)), none⟩, ⟨some 5, .op (.faddr 0 (.t 4)), none⟩, ⟨some 6, .op (.load none (.t 5)), none⟩, ⟨some 7, .op (.mov (.t 0)), none⟩, ⟨some 8, .op (.nilck (.t 7)), none⟩, ⟨some 9, .op (.faddr 1 (.t 8)), none⟩, ⟨some 10, .op (.load none (.t 9)), none⟩, ⟨some 11, .op (.iaddr (.sl 5) (.t 6) (.t 10)), none⟩, ⟨some 12, .op (.load (some 5) (.t 11)), none⟩, ⟨none, .op (.store 5 (.t 2) (.t 12)), none⟩] [[], [0], [1, 0], [2, 1, 0], [], [4], [5, 4], [6, 5, 4], [7, 6, 5, 4, 3, 2, 1, 0], [8, 7, 6, 5, 4, 3, 2, 1, 0], [9, 8, 7, 6, 5, 4, 3, 2, 1, 0]]) .ret)), [.cell 2 (some 5)]⟩
def C56 : IFn := ⟨7, (.ops [⟨some 2, .op (.mov (.t 0)), none⟩, ⟨some 3, .call 19 [.t 2], none⟩, ⟨some 4, .op (.field 2 none (.t 3)), none⟩, ⟨some 5, .op (.build [.int .i64 0, .int .i64 0] [(0, 1, .t 4), (1, 1, .c (.int .i64 60))]), none⟩, ⟨some 6, .op (.iface 36 (.t 5)), none⟩, ⟨none, .panic (.t 6), none⟩]), []⟩
def C55 : IFn := ⟨22, (.seq (.ops [⟨some 4, .op (.mov (.c (.bool false))), none⟩]) (.seq (.ops [⟨some 6, .op (.mov (.t 0)), none⟩, ⟨some 7, .call 19 [.t 6], none⟩, ⟨some 5, .op (.alloc [.int .i64 0, .string ⟨#[]⟩, .int .i64 0, .int .i64 0, .int .i64 0]), none⟩, ⟨none, .op (.store 5 (.t 5) (.t 7)), none⟩]) (.seq (.ops [⟨some 8, .op (.faddr 0 (.t 5)), none⟩, ⟨some 9, .op (.load none (.t 8)), none⟩, ⟨some 10, .op (.bin .eql (.t 9) (.c (.int .i64 3))), none⟩, ⟨some 11, .op (.mov (.t 10)), none⟩, ⟨some 12, .op (.faddr 0 (.t 5)), (some (11, false))⟩, ⟨some 13, .op (.load none (.t 12)), (some (11, false))⟩, ⟨some 14, .op (.bin .eql (.t 13) (.c (.int .i64 2))), (some (11, false))⟩, ⟨some 15, .op (.pick (.t 11) (.c (.bool true)) (.t 14)), none⟩, ⟨some 16, .op (.mov (.t 15)), none⟩, ⟨some 17, .op (.mov (.t 1)), (some (16, true))⟩, ⟨some 18, .op (.faddr 1 (.t 5)), (some (16, true))⟩, ⟨some 19, .op (.load none (.t 18)), (some (16, true))⟩, ⟨some 20, .call 61 [.t 17, .t 19], (some (16, true))⟩, ⟨some 21, .op (.pick (.t 16) (.t 20) (.c (.bool false))), none⟩, ⟨some 4, .op (.mov (.t 21)), none⟩]) .ret))), [.tmp 4]⟩
def C37 : IFn := ⟨19, (.seq (.ops [⟨some 4, .op (.mov (.c (.bool false))), none⟩]) (.seq (.ops [⟨some 6, .op (.mov (.t 0)), none⟩, ⟨some 7, .op (.mov (.t 1)), none⟩, ⟨some 8, .op (.lit 1 1 [.string ⟨#[]⟩] [(0, 1, .t 7)]), none⟩, ⟨some 9, .call 55 [.t 6, .t 8], none⟩, ⟨some 5, .op (.mov (.t 9)), none⟩]) (.seq (.seq (.ops [⟨some 10, .op (.mov (.t 5)), none⟩]) (.cond (.t 10) (.ops [⟨some 11, .op (.mov (.t 0)), none⟩, ⟨some 12, .op (.nilck (.t 11)), none⟩, ⟨some 13, .op (.faddr 1 (.t 12)), none⟩, ⟨some 14, .op (.load none (.t 13)), none⟩, ⟨some 15, .op (.bin .add (.t 14) (.c (.int .i64 1))), none⟩, ⟨some 16, .op (.nilck (.t 11)), none⟩, ⟨some 17, .op (.faddr 1 (.t 16)), none⟩, ⟨none, .op (.store 1 (.t 17) (.t 15)), none⟩]) .skip)) (.seq (.ops [⟨some 18, .op (.mov (.t 5)), none⟩, ⟨some 4, .op (.mov (.t 18)), none⟩]) .ret)))), [.tmp 4]⟩
def C39 : IFn := ⟨10, (.seq (.ops [⟨some 4, .op (.mov (.t 0)), none⟩, ⟨some 5, .op (.mov (.t 1)), none⟩, ⟨some 6, .call 37 [.t 4, .t 5], none⟩, ⟨some 7, .op (.un .not (.t 6)), none⟩]) (.cond (.t 7) (.ops [⟨some 8, .op (.mov (.t 0)), none⟩, ⟨some 9, .call 56 [.t 8], none⟩]) .skip)), []⟩
def C38 : IFn := ⟨19, (.seq (.ops [⟨some 2, .op (.alloc [.int .i64 0, .string ⟨#[]⟩, .int .i64 0, .int .i64 0, .int .i64 0]), none⟩]) (.seq (.ops [⟨some 4, .op (.mov (.t 0)), none⟩, ⟨some 5, .call 19 [.t 4], none⟩, ⟨some 3, .op (.alloc [.int .i64 0, .string ⟨#[]⟩, .int .i64 0, .int .i64 0, .int .i64 0]), none⟩, ⟨none, .op (.store 5 (.t 3) (.t 5)), none⟩]) (.seq (.seq (.ops [⟨some 6, .op (.faddr 0 (.t 3)), none⟩, ⟨some 7, .op (.load none (.t 6)), none⟩, ⟨some 8, .op (.bin .neq (.t 7) (.c (.int .i64 1))), none⟩]) (.cond (.t 8) (.ops [⟨some 9, .op (.mov (.t 0)), none⟩, ⟨some 10, .call 56 [.t 9], none⟩]) .skip)) (.seq (.ops [⟨some 11, .op (.mov (.t 0)), none⟩, ⟨some 12, .op (.nilck (.t 11)), none⟩, ⟨some 13, .op (.faddr 1 (.t 12)), none⟩, ⟨some 14, .op (.load none (.t 13)), none⟩, ⟨some 15, .op (.bin .add (.t 14) (.c (.int .i64 1))), none⟩, ⟨some 16, .op (.nilck (.t 11)), none⟩, ⟨some 17, .op (.faddr 1 (.t 16)), none⟩, ⟨none, .op (.store 1 (.t 17) (.t 15)), none⟩]) (.seq (.ops [⟨some 18, .op (.load (some 5) (.t 3)), none⟩, ⟨none, .op (.store 5 (.t 2) (.t 18)), none⟩]) .ret))))), [.cell 2 (some 5)]⟩
def C21 : IFn := ⟨31, (.seq (.ops [⟨some 10, .op (.mov (.c (.int .i64 0))), none⟩]) (.seq (.ops [⟨some 11, .op (.mov (.t 0)), none⟩, ⟨some 12, .op (.mov (.t 0)), none⟩, ⟨some 13, .op (.nilck (.t 12)), none⟩, ⟨some 14, .op (.faddr 2 (.t 13)), none⟩, ⟨some 15, .op (.load none (.t 14)), none⟩, ⟨some 16, .op (.mov (.t 1)), none⟩, ⟨some 17, .op (.mov (.t 2)), none⟩, ⟨some 18, .op (.mov (.t 4)), none⟩, ⟨some 19, .op (.mov (.t 3)), none⟩, ⟨some 20, .op (.build [.int .i64 0, .string ⟨#[]⟩, (.slice none 0 0), .int .i64 0] [(0, 1, .t 16), (1, 1, .t 17), (2, 1, .t 18), (3, 1, .t 19)]), none⟩, ⟨some 21, .op (.lit 4 1 [.int .i64 0, .string ⟨#[]⟩, (.slice none 0 0), .int .i64 0] [(0, 4, .t 20)]), none⟩, ⟨some 22, .op (.append 4 56 (.t 15) (.t 21)), none⟩, ⟨some 23, .op (.nilck (.t 11)), none⟩, ⟨some 24, .op (.faddr 2 (.t 23)), none⟩, ⟨none, .op (.store 1 (.t 24) (.t 22)), none⟩]) (.seq (.ops [⟨some 25, .op (.mov (.t 0)), none⟩, ⟨some 26, .op (.nilck (.t 25)), none⟩, ⟨some 27, .op (.faddr 2 (.t 26)), none⟩, ⟨some 28, .op (.load none (.t 27)), none⟩, ⟨some 29, .op (.len .sl (.t 28)), none⟩, ⟨some 30, .op (.bin .sub (.t 29) (.c (.int .i64 1))), none⟩, ⟨some 10, .op (.mov (.t 30)), none⟩]) .ret))), [.tmp 10]⟩
def C40L0 : IC := (.seq (.seq (.ops [⟨some 19, .op (.mov (.t 0)), none⟩, ⟨some 20, .call 37 [.t 19, .c (.string ⟨#[44]⟩)], none⟩]) (.cond (.t 20) .skip (.exit 0))) (.block 1 (.ops [⟨some 21, .op (.mov (.t 7)), none⟩, ⟨some 22, .op (.mov (.t 2)), none⟩, ⟨some 23, .op (.mov (.t 0)), none⟩, ⟨some 24, .callv (.t 22) [.t 23], none⟩, ⟨some 25, .op (.lit 1 1 [.int .i64 0] [(0, 1, .t 24)]), none⟩, ⟨some 26, .op (.append 1 8 (.t 21) (.t 25)), none⟩, ⟨some 7, .op (.mov (.t 26)), none⟩]))) def C40 : IFn := ⟨31, (.seq (.ops [⟨some 6, .op (.mov (.c (.slice none 0 0))), none⟩]) (.seq (.ops [⟨some 7, .op (.mov (.c (.slice none 0 0))), none⟩]) (.seq (.seq (.ops [⟨some 8, .op (.mov (.t 0)), none⟩, ⟨some 9, .op (.mov (.t 1)), none⟩, ⟨some 10, .op (.lit 1 1 [.string ⟨#[]⟩] [(0, 1, .t 9)]), none⟩, ⟨some 11, .call 55 [.t 8, .t 10], none⟩, ⟨some 12, .op (.un .not (.t 11)), none⟩]) (.cond (.t 12) (.seq (.ops [⟨some 13, .op (.mov (.t 7)), none⟩, ⟨some 14, .op (.mov (.t 2)), none⟩, ⟨some 15, .op (.mov (.t 0)), none⟩, ⟨some 16, .callv (.t 14) [.t 15], none⟩, ⟨some 17, .op (.lit 1 1 [.int .i64 0] [(0, 1, .t 16)]), none⟩, ⟨some 18, .op (.append 1 8 (.t 13) (.t 17)), none⟩, ⟨some 7, .op (.mov (.t 18)), none⟩]) (.block 0 (.loop C40L0))) .skip)) (.seq (.ops [⟨some 27, .op (.mov (.t 0)), none⟩, ⟨some 28, .op (.mov (.t 1)), none⟩, ⟨some 29, .call 39 [.t 27, .t 28], none⟩]) (.seq (.ops [⟨some 30, .op (.mov (.t 7)), none⟩, ⟨some 6, .op (.mov (.t 30)), none⟩]) .ret))))), [.tmp 6]⟩
def C20 : IFn := ⟨42, (.seq (.ops [⟨some 2, .op (.mov (.c (.int .i64 0))), none⟩]) (.seq (.seq (.ops [⟨some 7, .op (.mov (.t 0)), none⟩, ⟨some 8, .call 37 [.t 7, .c (.string ⟨#[114, 101, 99]⟩)], none⟩]) (.cond (.t 8) (.seq (.ops [⟨some 9, .op (.mov (.t 0)), none⟩, ⟨some 10, .call 38 [.t 9], none⟩, ⟨some 3, .op (.alloc [.int .i64 0, .string ⟨#[]⟩, .int .i64 0, .int .i64 0, .int .i64 0]), none⟩, ⟨none, .op (.store 5 (.t 3) (.t 10)), none⟩]) (.seq (.ops [⟨some 11, .op (.mov (.t 0)), none⟩, ⟨some 12, .call 39 [.t 11, .c (.string ⟨#[123]⟩)], none⟩]) (.seq (.ops [⟨some 13, .op (.mov (.t 0)), none⟩, ⟨some 14, .call 40 [.t 13, .c (.string ⟨#[125]⟩), (.c (.func (.func 41) #[] #[]))], none⟩, ⟨some 4, .op (.mov (.t 14)), none⟩]) (.seq (.ops [⟨some 15, .op (.mov (.t 0)), none⟩, ⟨some 16, .op (.faddr 1 (.t 3)), none⟩, ⟨some 17, .op (.load none (.t 16)), none⟩, ⟨some 18, .op (.faddr 2 (.t 3)), none⟩, ⟨some 19, .op (.load none (.t 18)), none⟩, ⟨some 20, .op (.mov (.t 4)), none⟩, ⟨some 21, .call 21 [.t 15, .c (.int .i64 2), .t 17, .t 19, .t 20], none⟩, ⟨some 2, .op (.mov (.t 21)), none⟩]) .ret)))) .skip)) (.seq (.ops [⟨some 22, .op (.mov (.t 0)), none⟩, ⟨some 23, .call 39 [.t 22, .c (.string ⟨#[102, 110]⟩)], none⟩]) (.seq (.ops [⟨some 24, .op (.mov (.t 0)), none⟩, ⟨some 25, .call 38 [.t 24], none⟩, ⟨some 5, .op (.alloc [.int .i64 0, .string ⟨#[]⟩, .int .i64 0, .int .i64 0, .int .i64 0]), none⟩, ⟨none, .op (.store 5 (.t 5) (.t 25)), none⟩]) (.seq (.ops [⟨some 26, .op (.mov (.t 0)), none⟩, ⟨some 27, .call 39 [.t 26, .c (.string ⟨#[40]⟩)], none⟩]) (.seq (.ops [⟨some 28, .op (.mov (.t 0)), none⟩, ⟨some 29, .call 40 [.t 28, .c (.string ⟨#[41]⟩), (.c (.func (.func 41) #[] #[]))], none⟩, ⟨some 6, .op (.mov (.t 29)), none⟩]) (.seq (.ops [⟨some 30, .op (.mov (.t 6)), none⟩, ⟨some 31, .op (.mov (.t 0)), none⟩, ⟨some 32, .call 42 [.t 31], none⟩, ⟨some 33, .op (.lit 1 1 [.int .i64 0] [(0, 1, .t 32)]), none⟩, ⟨some 34, .op (.append 1 8 (.t 30) (.t 33)), none⟩, ⟨some 6, .op (.mov (.t 34)), none⟩]) (.seq (.ops [⟨some 35, .op (.mov (.t 0)), none⟩, ⟨some 36, .op (.faddr 1 (.t 5)), none⟩, ⟨some 37, .op (.load none (.t 36)), none⟩, ⟨some 38, .op (.faddr 2 (.t 5)), none⟩, ⟨some 39, .op (.load none (.t 38)), none⟩, ⟨some 40, .op (.mov (.t 6)), none⟩, ⟨some 41, .call 21 [.t 35, .c (.int .i64 3), .t 37, .t 39, .t 40], none⟩, ⟨some 2, .op (.mov (.t 41)), none⟩]) .ret)))))))), [.tmp 2]⟩
def C41 : IFn := ⟨12, (.seq (.ops [⟨some 2, .op (.mov (.c (.int .i64 0))), none⟩]) (.seq (.ops [⟨some 4, .op (.mov (.t 0)), none⟩, ⟨some 5, .call 38 [.t 4], none⟩, ⟨some 3, .op (.alloc [.int .i64 0, .string ⟨#[]⟩, .int .i64 0, .int .i64 0, .int .i64 0]), none⟩, ⟨none, .op (.store 5 (.t 3) (.t 5)), none⟩]) (.seq (.ops [⟨some 6, .op (.mov (.t 0)), none⟩, ⟨some 7, .op (.faddr 1 (.t 3)), none⟩, ⟨some 8, .op (.load none (.t 7)), none⟩, ⟨some 9, .op (.faddr 2 (.t 3)), none⟩, ⟨some 10, .op (.load none (.t 9)), none⟩, ⟨some 11, .call 21 [.t 6, .c (.int .i64 17), .t 8, .t 10, .c (.slice none 0 0)], none⟩, ⟨some 2, .op (.mov (.t 11)), none⟩]) .ret))), [.tmp 2]⟩
def C42L0 : IC := (.seq (.seq (.ops [⟨some 10, .op (.mov (.t 0)), none⟩, ⟨some 11, .op (.lit 1 1 [.string ⟨#[]⟩] [(0, 1, .c (.string ⟨#[125]⟩))]), none⟩, ⟨some 12, .call 55 [.t 10, .t 11], none⟩, ⟨some 13, .op (.un .not (.t 12)), none⟩]) (.cond (.t 13) .skip (.exit 0))) (.block 1 (.ops [⟨some 14, .op (.mov (.t 4)), none⟩, ⟨some 15, .op (.mov (.t 0)), none⟩, ⟨some 16, .call 57 [.t 15], none⟩, ⟨some 17, .op (.lit 1 1 [.int .i64 0] [(0, 1, .t 16)]), none⟩, ⟨some 18, .op (.append 1 8 (.t 14) (.t 17)), none⟩, ⟨some 4, .op (.mov (.t 18)), none⟩]))) def C42 : IFn := ⟨25, (.seq (.ops [⟨some 2, .op (.mov (.c (.int .i64 0))), none⟩]) (.seq (.ops [⟨some 5, .op (.mov (.t 0)), none⟩, ⟨some 6, .call 19 [.t 5], none⟩, ⟨some 7, .op (.field 2 none (.t 6)), none⟩, ⟨some 3, .op (.mov (.t 7)), none⟩]) (.seq (.ops [⟨some 8, .op (.mov (.t 0)), none⟩, ⟨some 9, .call 39 [.t 8, .c (.string ⟨#[123]⟩)], none⟩]) (.seq (.ops [⟨some 4, .op (.mov (.c (.slice none 0 0))), none⟩]) (.seq (.block 0 (.loop C42L0)) (.seq (.ops [⟨some 19, .op (.mov (.t 0)), none⟩, ⟨some 20, .call 39 [.t 19, .c (.string ⟨#[125]⟩)], none⟩]) (.seq (.ops [⟨some 21, .op (.mov (.t 0)), none⟩, ⟨some 22, .op (.mov (.t 3)), none⟩, ⟨some 23, .op (.mov (.t 4)), none⟩, ⟨some 24, .call 21 [.t 21, .c (.int .i64 4), .c (.string ⟨#[]⟩), .t 22, .t 23], none⟩, ⟨some 2, .op (.mov (.t 24)), none⟩]) .ret))))))), [.tmp 2]⟩
def C57 : IFn := ⟨95, (.seq (.ops [⟨some 2, .op (.mov (.c (.int .i64 0))), none⟩]) (.seq (.ops [⟨some 9, .op (.mov (.t 0)), none⟩, ⟨some 10, .call 19 [.t 9], none⟩, ⟨some 3, .op (.alloc [.int .i64 0, .string ⟨#[]⟩, .int .i64 0, .int .i64 0, .int .i64 0]), none⟩, ⟨none, .op (.store 5 (.t 3) (.t 10)), none⟩]) (.seq (.seq (.draw [⟨some 11, .call 62 [], none⟩, ⟨some 12, .op (.faddr 1 (.t 3)), none⟩, ⟨some 13, .op (.load none (.t 12)), none⟩, ⟨some 14, .op (.lookup (.one .str) .nilFunc false (.t 11) (.t 13)), none⟩, ⟨some 4, .op (.mov (.t 14)), none⟩] [[], [], [1], [2, 1, 0], [3, 2, 1, 0]]) (.seq (.ops [⟨some 15, .op (.faddr 0 (.t 3)), none⟩, ⟨some 16, .op (.load none (.t 15)), none⟩, ⟨some 17, .op (.bin .eql (.t 16) (.c (.int .i64 2))), none⟩, ⟨some 18, .op (.mov (.t 17)), none⟩, ⟨some 19, .op (.mov (.t 4)), (some (18, true))⟩, ⟨some 20, .op (.isnil .fn true (.t 19)), (some (18, true))⟩, ⟨some 21, .op (.pick (.t 18) (.t 20) (.c (.bool false))), none⟩]) (.cond (.t 21) (.seq (.ops [⟨some 22, .op (.mov (.t 0)), none⟩, ⟨some 23, .op (.nilck (.t 22)), none⟩, ⟨some 24, .op (.faddr 1 (.t 23)), none⟩, ⟨some 25, .op (.load none (.t 24)), none⟩, ⟨some 26, .op (.bin .add (.t 25) (.c (.int .i64 1))), none⟩, ⟨some 27, .op (.nilck (.t 22)), none⟩, ⟨some 28, .op (.faddr 1 (.t 27)), none⟩, ⟨none, .op (.store 1 (.t 28) (.t 26)), none⟩]) (.seq (.ops [⟨some 29, .op (.mov (.t 4)), none⟩, ⟨some 30, .op (.mov (.t 0)), none⟩, ⟨some 31, .op (.faddr 2 (.t 3)), none⟩, ⟨some 32, .op (.load none (.t 31)), none⟩, ⟨some 33, .callv (.t 29) [.t 30, .t 32], none⟩, ⟨some 2, .op (.mov (.t 33)), none⟩]) .ret)) .skip))) (.seq (.ops [⟨some 34, .op (.mov (.t 0)), none⟩, ⟨some 35, .call 63 [.t 34], none⟩, ⟨some 5, .op (.mov (.t 35)), none⟩]) (.seq (.ops [⟨some 36, .op (.mov (.t 0)), none⟩, ⟨some 37, .call 19 [.t 36], none⟩, ⟨some 38, .op (.field 2 none (.t 37)), none⟩, ⟨some 6, .op (.mov (.t 38)), none⟩]) (.seq (.seq (.ops [⟨some 39, .op (.mov (.t 0)), none⟩, ⟨some 40, .op (.nilck (.t 39)), none⟩, ⟨some 41, .op (.faddr 2 (.t 40)), none⟩, ⟨some 42, .op (.load none (.t 41)), none⟩, ⟨some 43, .op (.mov (.t 5)), none⟩, ⟨some 44, .op (.iaddr (.sl 4) (.t 42) (.t 43)), none⟩, ⟨some 45, .op (.faddr 0 (.t 44)), none⟩, ⟨some 46, .op (.load none (.t 45)), none⟩, ⟨some 7, .op (.mov (.t 46)), none⟩]) (.block 0 (.seq (.ops [⟨some 48, .op (.mov (.t 7)), none⟩, ⟨some 49, .op (.bin .eql (.t 48) (.c (.int .i64 22))), none⟩, ⟨some 50, .op (.mov (.t 49)), none⟩, ⟨some 51, .op (.mov (.t 0)), (some (50, true))⟩, ⟨some 52, .call 37 [.t 51, .c (.string ⟨#[59]⟩)], (some (50, true))⟩, ⟨some 53, .op (.pick (.t 50) (.t 52) (.c (.bool false))), none⟩, ⟨some 47, .op (.mov (.t 53)), none⟩]) (.cond (.t 47) (.seq (.ops [⟨some 54, .op (.mov (.t 0)), none⟩, ⟨some 55, .op (.mov (.t 0)), none⟩, ⟨some 56, .op (.nilck (.t 55)), none⟩, ⟨some 57, .op (.faddr 2 (.t 56)), none⟩, ⟨some 58, .op (.load none (.t 57)), none⟩, ⟨some 59, .op (.mov (.t 5)), none⟩, ⟨some 60, .op (.iaddr (.sl 4) (.t 58) (.t 59)), none⟩, ⟨some 61, .op (.faddr 3 (.t 60)), none⟩, ⟨some 62, .op (.load none (.t 61)), none⟩, ⟨some 63, .op (.mov (.t 5)), none⟩, ⟨some 64, .op (.lit 1 1 [.int .i64 0] [(0, 1, .t 63)]), none⟩, ⟨some 65, .call 21 [.t 54, .c (.int .i64 12), .c (.string ⟨#[]⟩), .t 62, .t 64], none⟩, ⟨some 2, .op (.mov (.t 65)), none⟩]) .ret) (.seq (.ops [⟨some 67, .op (.mov (.t 7)), none⟩, ⟨some 68, .op (.bin .neq (.t 67) (.c (.int .i64 17))), none⟩, ⟨some 69, .op (.mov (.t 68)), none⟩, ⟨some 70, .op (.mov (.t 7)), (some (69, true))⟩, ⟨some 71, .op (.bin .neq (.t 70) (.c (.int .i64 20))), (some (69, true))⟩, ⟨some 72, .op (.pick (.t 69) (.t 71) (.c (.bool false))), none⟩, ⟨some 73, .op (.mov (.t 72)), none⟩, ⟨some 74, .op (.mov (.t 7)), (some (73, true))⟩, ⟨some 75, .op (.bin .neq (.t 74) (.c (.int .i64 21))), (some (73, true))⟩, ⟨some 76, .op (.pick (.t 73) (.t 75) (.c (.bool false))), none⟩, ⟨some 77, .op (.mov (.t 76)), none⟩, ⟨some 78, .op (.mov (.t 7)), (some (77, true))⟩, ⟨some 79, .op (.bin .neq (.t 78) (.c (.int .i64 30))), (some (77, true))⟩, ⟨some 80, .op (.pick (.t 77) (.t 79) (.c (.bool false))), none⟩, ⟨some 66, .op (.mov (.t 80)), none⟩]) (.cond (.t 66) (.ops [⟨some 81, .op (.mov (.t 0)), none⟩, ⟨some 82, .call 56 [.t 81], none⟩]) .skip)))))) (.seq (.ops [⟨some 83, .op (.mov (.t 0)), none⟩, ⟨some 84, .call 39 [.t 83, .c (.string ⟨#[61]⟩)], none⟩]) (.seq (.ops [⟨some 85, .op (.mov (.t 0)), none⟩, ⟨some 86, .call 64 [.t 85], none⟩, ⟨some 8, .op (.mov (.t 86)), none⟩]) (.seq (.ops [⟨some 87, .op (.mov (.t 0)), none⟩, ⟨some 88, .call 39 [.t 87, .c (.string ⟨#[59]⟩)], none⟩]) (.seq (.ops [⟨some 89, .op (.mov (.t 0)), none⟩, ⟨some 90, .op (.mov (.t 6)), none⟩, ⟨some 91, .op (.mov (.t 5)), none⟩, ⟨some 92, .op (.mov (.t 8)), none⟩, ⟨some 93, .op (.lit 1 2 [.int .i64 0, .int .i64 0] [(0, 1, .t 91), (1, 1, .t 92)]), none⟩, ⟨some 94, .call 21 [.t 89, .c (.int .i64 6), .c (.string ⟨#[]⟩), .t 90, .t 93], none⟩, ⟨some 2, .op (.mov (.t 94)), none⟩]) .ret)))))))))), [.tmp 2]⟩
def C63L0 : IC := (.block 1 (.seq (.ops [⟨some 9, .op (.mov (.t 0)), none⟩, ⟨some 10, .call 19 [.t 9], none⟩, ⟨some 11, .op (.field 2 none (.t 10)), none⟩, ⟨some 4, .op (.mov (.t 11)), none⟩]) (.block 2 (.seq (.ops [⟨some 14, .op (.mov (.t 0)), none⟩, ⟨some 15, .call 37 [.t 14, .c (.string ⟨#[46]⟩)], none⟩, ⟨some 13, .op (.mov (.t 15)), none⟩]) (.cond (.t 13) (.seq (.ops [⟨some 16, .op (.mov (.t 0)), none⟩, ⟨some 17, .call 38 [.t 16], none⟩, ⟨some 5, .op (.alloc [.int .i64 0, .string ⟨#[]⟩, .int .i64 0, .int .i64 0, .int .i64 0]), none⟩, ⟨none, .op (.store 5 (.t 5) (.t 17)), none⟩]) (.ops [⟨some 18, .op (.mov (.t 0)), none⟩, ⟨some 19, .op (.faddr 1 (.t 5)), none⟩, ⟨some 20, .op (.load none (.t 19)), none⟩, ⟨some 21, .op (.mov (.t 4)), none⟩, ⟨some 22, .op (.mov (.t 3)), none⟩, ⟨some 23, .op (.lit 1 1 [.int .i64 0] [(0, 1, .t 22)]), none⟩, ⟨some 24, .call 21 [.t 18, .c (.int .i64 20), .t 20, .t 21, .t 23], none⟩, ⟨some 3, .op (.mov (.t 24)), none⟩])) (.seq (.ops [⟨some 26, .op (.mov (.t 0)), none⟩, ⟨some 27, .call 37 [.t 26, .c (.string ⟨#[91]⟩)], none⟩, ⟨some 25, .op (.mov (.t 27)), none⟩]) (.cond (.t 25) (.seq (.ops [⟨some 28, .op (.mov (.t 0)), none⟩, ⟨some 29, .call 64 [.t 28], none⟩, ⟨some 6, .op (.mov (.t 29)), none⟩]) (.seq (.ops [⟨some 30, .op (.mov (.t 0)), none⟩, ⟨some 31, .call 39 [.t 30, .c (.string ⟨#[93]⟩)], none⟩]) (.ops [⟨some 32, .op (.mov (.t 0)), none⟩, ⟨some 33, .op (.mov (.t 4)), none⟩, ⟨some 34, .op (.mov (.t 3)), none⟩, ⟨some 35, .op (.mov (.t 6)), none⟩, ⟨some 36, .op (.lit 1 2 [.int .i64 0, .int .i64 0] [(0, 1, .t 34), (1, 1, .t 35)]), none⟩, ⟨some 37, .call 21 [.t 32, .c (.int .i64 21), .c (.string ⟨#[]⟩), .t 33, .t 36], none⟩, ⟨some 3, .op (.mov (.t 37)), none⟩]))) (.seq (.ops [⟨some 12, .op (.mov (.t 3)), none⟩, ⟨some 2, .op (.mov (.t 12)), none⟩]) .ret)))))))) def C63 : IFn := ⟨38, (.seq (.ops [⟨some 2, .op (.mov (.c (.int .i64 0))), none⟩]) (.seq (.ops [⟨some 7, .op (.mov (.t 0)), none⟩, ⟨some 8, .call 77 [.t 7], none⟩, ⟨some 3, .op (.mov (.t 8)), none⟩]) (.block 0 (.loop C63L0)))), [.tmp 2]⟩
def C64 : IFn := ⟨33, (.seq (.ops [⟨some 2, .op (.mov (.c (.int .i64 0))), none⟩]) (.seq (.ops [⟨some 6, .op (.mov (.t 0)), none⟩, ⟨some 7, .call 78 [.t 6, .c (.int .i64 0)], none⟩, ⟨some 3, .op (.mov (.t 7)), none⟩]) (.seq (.seq (.ops [⟨some 8, .op (.mov (.t 0)), none⟩, ⟨some 9, .op (.lit 1 4 [.string ⟨#[]⟩, .string ⟨#[]⟩, .string ⟨#[]⟩, .string ⟨#[]⟩] [(0, 1, .c (.string ⟨#[61, 61]⟩)), (1, 1, .c (.string ⟨#[33, 61]⟩)), (2, 1, .c (.string ⟨#[60]⟩)), (3, 1, .c (.string ⟨#[60, 61]⟩))]), none⟩, ⟨some 10, .call 55 [.t 8, .t 9], none⟩, ⟨some 11, .op (.un .not (.t 10)), none⟩]) (.cond (.t 11) (.seq (.ops [⟨some 12, .op (.mov (.t 3)), none⟩, ⟨some 2, .op (.mov (.t 12)), none⟩]) .ret) .skip)) (.seq (.ops [⟨some 13, .op (.mov (.t 0)), none⟩, ⟨some 14, .call 19 [.t 13], none⟩, ⟨some 4, .op (.alloc [.int .i64 0, .string ⟨#[]⟩, .int .i64 0, .int .i64 0, .int .i64 0]), none⟩, ⟨none, .op (.store 5 (.t 4) (.t 14)), none⟩]) (.seq (.ops [⟨some 15, .op (.mov (.t 0)), none⟩, ⟨some 16, .op (.nilck (.t 15)), none⟩, ⟨some 17, .op (.faddr 1 (.t 16)), none⟩, ⟨some 18, .op (.load none (.t 17)), none⟩, ⟨some 19, .op (.bin .add (.t 18) (.c (.int .i64 1))), none⟩, ⟨some 20, .op (.nilck (.t 15)), none⟩, ⟨some 21, .op (.faddr 1 (.t 20)), none⟩, ⟨none, .op (.store 1 (.t 21) (.t 19)), none⟩]) (.seq (.ops [⟨some 22, .op (.mov (.t 0)), none⟩, ⟨some 23, .call 78 [.t 22, .c (.int .i64 0)], none⟩, ⟨some 5, .op (.mov (.t 23)), none⟩]) (.seq (.ops [⟨some 24, .op (.mov (.t 0)), none⟩, ⟨some 25, .op (.faddr 1 (.t 4)), none⟩, ⟨some 26, .op (.load none (.t 25)), none⟩, ⟨some 27, .op (.faddr 2 (.t 4)), none⟩, ⟨some 28, .op (.load none (.t 27)), none⟩, ⟨some 29, .op (.mov (.t 3)), none⟩, ⟨some 30, .op (.mov (.t 5)), none⟩, ⟨some 31, .op (.lit 1 2 [.int .i64 0, .int .i64 0] [(0, 1, .t 29), (1, 1, .t 30)]), none⟩, ⟨some 32, .call 21 [.t 24, .c (.int .i64 19), .t 26, .t 28, .t 31], none⟩, ⟨some 2, .op (.mov (.t 32)), none⟩]) .ret))))))), [.tmp 2]⟩
def C70 : IFn := ⟨23, (.seq (.ops [⟨some 4, .op (.mov (.c (.int .i64 0))), none⟩]) (.seq (.ops [⟨some 7, .op (.mov (.t 0)), none⟩, ⟨some 8, .call 38 [.t 7], none⟩, ⟨some 5, .op (.alloc [.int .i64 0, .string ⟨#[]⟩, .int .i64 0, .int .i64 0, .int .i64 0]), none⟩, ⟨none, .op (.store 5 (.t 5) (.t 8)), none⟩]) (.seq (.ops [⟨some 9, .op (.mov (.t 0)), none⟩, ⟨some 10, .call 39 [.t 9, .c (.string ⟨#[61]⟩)], none⟩]) (.seq (.ops [⟨some 11, .op (.mov (.t 0)), none⟩, ⟨some 12, .call 64 [.t 11], none⟩, ⟨some 6, .op (.mov (.t 12)), none⟩]) (.seq (.ops [⟨some 13, .op (.mov (.t 0)), none⟩, ⟨some 14, .call 39 [.t 13, .c (.string ⟨#[59]⟩)], none⟩]) (.seq (.ops [⟨some 15, .op (.mov (.t 0)), none⟩, ⟨some 16, .op (.faddr 1 (.t 5)), none⟩, ⟨some 17, .op (.load none (.t 16)), none⟩, ⟨some 18, .op (.faddr 2 (.t 5)), none⟩, ⟨some 19, .op (.load none (.t 18)), none⟩, ⟨some 20, .op (.mov (.t 6)), none⟩, ⟨some 21, .op (.lit 1 1 [.int .i64 0] [(0, 1, .t 20)]), none⟩, ⟨some 22, .call 21 [.t 15, .c (.int .i64 5), .t 17, .t 19, .t 21], none⟩, ⟨some 4, .op (.mov (.t 22)), none⟩]) .ret)))))), [.tmp 4]⟩
def C71 : IFn := ⟨29, (.seq (.ops [⟨some 4, .op (.mov (.c (.int .i64 0))), none⟩]) (.seq (.ops [⟨some 7, .op (.mov (.t 0)), none⟩, ⟨some 8, .call 64 [.t 7], none⟩, ⟨some 5, .op (.mov (.t 8)), none⟩]) (.seq (.ops [⟨some 9, .op (.mov (.t 0)), none⟩, ⟨some 10, .call 42 [.t 9], none⟩, ⟨some 6, .op (.mov (.t 10)), none⟩]) (.seq (.seq (.ops [⟨some 11, .op (.mov (.t 0)), none⟩, ⟨some 12, .call 37 [.t 11, .c (.string ⟨#[101, 108, 115, 101]⟩)], none⟩]) (.cond (.t 12) (.seq (.ops [⟨some 13, .op (.mov (.t 0)), none⟩, ⟨some 14, .op (.mov (.t 1)), none⟩, ⟨some 15, .op (.mov (.t 5)), none⟩, ⟨some 16, .op (.mov (.t 6)), none⟩, ⟨some 17, .op (.mov (.t 0)), none⟩, ⟨some 18, .call 42 [.t 17], none⟩, ⟨some 19, .op (.lit 1 3 [.int .i64 0, .int .i64 0, .int .i64 0] [(0, 1, .t 15), (1, 1, .t 16), (2, 1, .t 18)]), none⟩, ⟨some 20, .call 21 [.t 13, .c (.int .i64 7), .c (.string ⟨#[]⟩), .t 14, .t 19], none⟩, ⟨some 4, .op (.mov (.t 20)), none⟩]) .ret) .skip)) (.seq (.ops [⟨some 21, .op (.mov (.t 0)), none⟩, ⟨some 22, .op (.mov (.t 1)), none⟩, ⟨some 23, .op (.mov (.t 5)), none⟩, ⟨some 24, .op (.mov (.t 6)), none⟩, ⟨some 25, .op (.mov (.t 0)), none⟩, ⟨some 26, .call 21 [.t 25, .c (.int .i64 14), .c (.string ⟨#[]⟩), .c (.int .i64 0), .c (.slice none 0 0)], none⟩, ⟨some 27, .op (.lit 1 3 [.int .i64 0, .int .i64 0, .int .i64 0] [(0, 1, .t 23), (1, 1, .t 24), (2, 1, .t 26)]), none⟩, ⟨some 28, .call 21 [.t 21, .c (.int .i64 7), .c (.string ⟨#[]⟩), .t 22, .t 27], none⟩, ⟨some 4, .op (.mov (.t 28)), none⟩]) .ret))))), [.tmp 4]⟩
def C72 : IFn := ⟨15, (.seq (.ops [⟨some 4, .op (.mov (.c (.int .i64 0))), none⟩]) (.seq (.ops [⟨some 6, .op (.mov (.t 0)), none⟩, ⟨some 7, .call 64 [.t 6], none⟩, ⟨some 5, .op (.mov (.t 7)), none⟩]) (.seq (.ops [⟨some 8, .op (.mov (.t 0)), none⟩, ⟨some 9, .op (.mov (.t 1)), none⟩, ⟨some 10, .op (.mov (.t 5)), none⟩, ⟨some 11, .op (.mov (.t 0)), none⟩, ⟨some 12, .call 42 [.t 11], none⟩, ⟨some 13, .op (.lit 1 2 [.int .i64 0, .int .i64 0] [(0, 1, .t 10), (1, 1, .t 12)]), none⟩, ⟨some 14, .call 21 [.t 8, .c (.int .i64 8), .c (.string ⟨#[]⟩), .t 9, .t 13], none⟩, ⟨some 4, .op (.mov (.t 14)), none⟩]) .ret))), [.tmp 4]⟩
def C73 : IFn := ⟨8, (.seq (.ops [⟨some 4, .op (.mov (.c (.int .i64 0))), none⟩]) (.seq (.ops [⟨some 5, .op (.mov (.t 0)), none⟩, ⟨some 6, .op (.mov (.t 1)), none⟩, ⟨some 7, .call 81 [.t 5, .c (.int .i64 9), .t 6], none⟩, ⟨some 4, .op (.mov (.t 7)), none⟩]) .ret)), [.tmp 4]⟩
def C74 : IFn := ⟨8, (.seq (.ops [⟨some 4, .op (.mov (.c (.int .i64 0))), none⟩]) (.seq (.ops [⟨some 5, .op (.mov (.t 0)), none⟩, ⟨some 6, .op (.mov (.t 1)), none⟩, ⟨some 7, .call 81 [.t 5, .c (.int .i64 10), .t 6], none⟩, ⟨some 4, .op (.mov (.t 7)), none⟩]) .ret)), [.tmp 4]⟩
def C75 : IFn := ⟨8, (.seq (.ops [⟨some 4, .op (.mov (.c (.int .i64 0))), none⟩]) (.seq (.ops [⟨some 5, .op (.mov (.t 0)), none⟩, ⟨some 6, .op (.mov (.t 1)), none⟩, ⟨some 7, .call 81 [.t 5, .c (.int .i64 11), .t 6], none⟩, ⟨some 4, .op (.mov (.t 7)), none⟩]) .ret)), [.tmp 4]⟩
def C76 : IFn := ⟨16, (.seq (.ops [⟨some 4, .op (.mov (.c (.int .i64 0))), none⟩]) (.seq (.ops [⟨some 6, .op (.mov (.t 0)), none⟩, ⟨some 7, .call 39 [.t 6, .c (.string ⟨#[40]⟩)], none⟩]) (.seq (.ops [⟨some 8, .op (.mov (.t 0)), none⟩, ⟨some 9, .call 40 [.t 8, .c (.string ⟨#[41]⟩), (.c (.func (.func 41) #[] #[]))], none⟩, ⟨some 5, .op (.mov (.t 9)), none⟩]) (.seq (.ops [⟨some 10, .op (.mov (.t 0)), none⟩, ⟨some 11, .call 39 [.t 10, .c (.string ⟨#[59]⟩)], none⟩]) (.seq (.ops [⟨some 12, .op (.mov (.t 0)), none⟩, ⟨some 13, .op (.mov (.t 1)), none⟩, ⟨some 14, .op (.mov (.t 5)), none⟩, ⟨some 15, .call 21 [.t 12, .c (.int .i64 13), .c (.string ⟨#[]⟩), .t 13, .t 14], none⟩, ⟨some 4, .op (.mov (.t 15)), none⟩]) .ret))))), [.tmp 4]⟩
def C77 : IFn := ⟨81, (.seq (.ops [⟨some 2, .op (.mov (.c (.int .i64 0))), none⟩]) (.seq (.ops [⟨some 7, .op (.mov (.t 0)), none⟩, ⟨some 8, .call 19 [.t 7], none⟩, ⟨some 3, .op (.alloc [.int .i64 0, .string ⟨#[]⟩, .int .i64 0, .int .i64 0, .int .i64 0]), none⟩, ⟨none, .op (.store 5 (.t 3) (.t 8)), none⟩]) (.seq (.seq (.ops [⟨some 9, .op (.faddr 0 (.t 3)), none⟩, ⟨some 10, .op (.load none (.t 9)), none⟩]) (.block 0 (.seq (.ops [⟨some 12, .op (.bin .eql (.t 10) (.c (.int .i64 4))), none⟩, ⟨some 11, .op (.mov (.t 12)), none⟩]) (.cond (.t 11) (.seq (.ops [⟨some 13, .op (.mov (.t 0)), none⟩, ⟨some 14, .op (.nilck (.t 13)), none⟩, ⟨some 15, .op (.faddr 1 (.t 14)), none⟩, ⟨some 16, .op (.load none (.t 15)), none⟩, ⟨some 17, .op (.bin .add (.t 16) (.c (.int .i64 1))), none⟩, ⟨some 18, .op (.nilck (.t 13)), none⟩, ⟨some 19, .op (.faddr 1 (.t 18)), none⟩, ⟨none, .op (.store 1 (.t 19) (.t 17)), none⟩]) (.seq (.draw [⟨some 20, .op (.mov (.t 0)), none⟩, ⟨some 21, .op (.faddr 4 (.t 3)), none⟩, ⟨some 22, .op (.load none (.t 21)), none⟩, ⟨some 23, .call 82 [.t 22, .c (.int .i64 10)], none⟩, ⟨some 24, .op (.faddr 2 (.t 3)), none⟩, ⟨some 25, .op (.load none (.t 24)), none⟩, ⟨some 26, .call 21 [.t 20, .c (.int .i64 15), .t 23, .t 25, .c (.slice none 0 0)], none⟩, ⟨some 2, .op (.mov (.t 26)), none⟩] [[], [], [1], [2, 1], [], [4], [3, 2, 1, 5, 4, 0], [6, 3, 2, 1, 5, 4, 0]]) .ret)) (.seq (.ops [⟨some 28, .op (.bin .eql (.t 10) (.c (.int .i64 1))), none⟩, ⟨some 27, .op (.mov (.t 28)), none⟩]) (.cond (.t 27) (.seq (.ops [⟨some 29, .op (.mov (.t 0)), none⟩, ⟨some 30, .op (.nilck (.t 29)), none⟩, ⟨some 31, .op (.faddr 1 (.t 30)), none⟩, ⟨some 32, .op (.load none (.t 31)), none⟩, ⟨some 33, .op (.bin .add (.t 32) (.c (.int .i64 1))), none⟩, ⟨some 34, .op (.nilck (.t 29)), none⟩, ⟨some 35, .op (.faddr 1 (.t 34)), none⟩, ⟨none, .op (.store 1 (.t 35) (.t 33)), none⟩]) (.seq (.seq (.ops [⟨some 36, .op (.mov (.t 0)), none⟩, ⟨some 37, .call 37 [.t 36, .c (.string ⟨#[40]⟩)], none⟩, ⟨some 38, .op (.un .not (.t 37)), none⟩]) (.cond (.t 38) (.seq (.ops [⟨some 39, .op (.mov (.t 0)), none⟩, ⟨some 40, .op (.faddr 1 (.t 3)), none⟩, ⟨some 41, .op (.load none (.t 40)), none⟩, ⟨some 42, .op (.faddr 2 (.t 3)), none⟩, ⟨some 43, .op (.load none (.t 42)), none⟩, ⟨some 44, .call 21 [.t 39, .c (.int .i64 17), .t 41, .t 43, .c (.slice none 0 0)], none⟩, ⟨some 2, .op (.mov (.t 44)), none⟩]) .ret) .skip)) (.seq (.ops [⟨some 45, .op (.mov (.t 0)), none⟩, ⟨some 46, .call 40 [.t 45, .c (.string ⟨#[41]⟩), (.c (.func (.func 64) #[] #[]))], none⟩, ⟨some 4, .op (.mov (.t 46)), none⟩]) (.seq (.ops [⟨some 47, .op (.mov (.t 0)), none⟩, ⟨some 48, .op (.faddr 1 (.t 3)), none⟩, ⟨some 49, .op (.load none (.t 48)), none⟩, ⟨some 50, .op (.faddr 2 (.t 3)), none⟩, ⟨some 51, .op (.load none (.t 50)), none⟩, ⟨some 52, .op (.mov (.t 4)), none⟩, ⟨some 53, .call 21 [.t 47, .c (.int .i64 22), .t 49, .t 51, .t 52], none⟩, ⟨some 2, .op (.mov (.t 53)), none⟩]) .ret)))) (.seq (.ops [⟨some 55, .op (.bin .eql (.t 10) (.c (.int .i64 2))), none⟩, ⟨some 54, .op (.mov (.t 55)), none⟩]) (.cond (.t 54) (.seq (.draw [⟨some 56, .call 83 [], none⟩, ⟨some 57, .op (.faddr 1 (.t 3)), none⟩, ⟨some 58, .op (.load none (.t 57)), none⟩, ⟨some 59, .op (.lookup (.one .str) .nilFunc false (.t 56) (.t 58)), none⟩, ⟨some 5, .op (.mov (.t 59)), none⟩] [[], [], [1], [2, 1, 0], [3, 2, 1, 0]]) (.seq (.ops [⟨some 60, .op (.mov (.t 5)), none⟩, ⟨some 61, .op (.isnil .fn true (.t 60)), none⟩]) (.cond (.t 61) (.seq (.ops [⟨some 62, .op (.mov (.t 0)), none⟩, ⟨some 63, .op (.nilck (.t 62)), none⟩, ⟨some 64, .op (.faddr 1 (.t 63)), none⟩, ⟨some 65, .op (.load none (.t 64)), none⟩, ⟨some 66, .op (.bin .add (.t 65) (.c (.int .i64 1))), none⟩, ⟨some 67, .op (.nilck (.t 62)), none⟩, ⟨some 68, .op (.faddr 1 (.t 67)), none⟩, ⟨none, .op (.store 1 (.t 68) (.t 66)), none⟩]) (.seq (.ops [⟨some 69, .op (.mov (.t 5)), none⟩, ⟨some 70, .op (.mov (.t 0)), none⟩, ⟨some 71, .op (.faddr 2 (.t 3)), none⟩, ⟨some 72, .op (.load none (.t 71)), none⟩, ⟨some 73, .callv (.t 69) [.t 70, .t 72], none⟩, ⟨some 2, .op (.mov (.t 73)), none⟩]) .ret)) .skip))) .skip)))))))) (.seq (.ops [⟨some 74, .op (.mov (.t 0)), none⟩, ⟨some 75, .call 39 [.t 74, .c (.string ⟨#[40]⟩)], none⟩]) (.seq (.ops [⟨some 76, .op (.mov (.t 0)), none⟩, ⟨some 77, .call 64 [.t 76], none⟩, ⟨some 6, .op (.mov (.t 77)), none⟩]) (.seq (.ops [⟨some 78, .op (.mov (.t 0)), none⟩, ⟨some 79, .call 39 [.t 78, .c (.string ⟨#[41]⟩)], none⟩]) (.seq (.ops [⟨some 80, .op (.mov (.t 6)), none⟩, ⟨some 2, .op (.mov (.t 80)), none⟩]) .ret))))))), [.tmp 2]⟩
def C78L0 : IC := (.seq (.seq (.ops [⟨some 20, .op (.mov (.t 0)), none⟩, ⟨some 21, .op (.mov (.t 5)), none⟩, ⟨some 22, .op (.mov (.t 1)), none⟩, ⟨some 23, .op (.iaddr (.sl 1) (.t 21) (.t 22)), none⟩, ⟨some 24, .op (.load none (.t 23)), none⟩, ⟨some 25, .call 55 [.t 20, .t 24], none⟩]) (.cond (.t 25) .skip (.exit 0))) (.block 1 (.seq (.ops [⟨some 26, .op (.mov (.t 0)), none⟩, ⟨some 27, .call 19 [.t 26], none⟩, ⟨some 7, .op (.alloc [.int .i64 0, .string ⟨#[]⟩, .int .i64 0, .int .i64 0, .int .i64 0]), none⟩, ⟨none, .op (.store 5 (.t 7) (.t 27)), none⟩]) (.seq (.ops [⟨some 28, .op (.mov (.t 0)), none⟩, ⟨some 29, .op (.nilck (.t 28)), none⟩, ⟨some 30, .op (.faddr 1 (.t 29)), none⟩, ⟨some 31, .op (.load none (.t 30)), none⟩, ⟨some 32, .op (.bin .add (.t 31) (.c (.int .i64 1))), none⟩, ⟨some 33, .op (.nilck (.t 28)), none⟩, ⟨some 34, .op (.faddr 1 (.t 33)), none⟩, ⟨none, .op (.store 1 (.t 34) (.t 32)), none⟩]) (.seq (.ops [⟨some 35, .op (.mov (.t 0)), none⟩, ⟨some 36, .op (.mov (.t 1)), none⟩, ⟨some 37, .op (.bin .add (.t 36) (.c (.int .i64 1))), none⟩, ⟨some 38, .call 78 [.t 35, .t 37], none⟩, ⟨some 8, .op (.mov (.t 38)), none⟩]) (.ops [⟨some 39, .op (.mov (.t 0)), none⟩, ⟨some 40, .op (.faddr 1 (.t 7)), none⟩, ⟨some 41, .op (.load none (.t 40)), none⟩, ⟨some 42, .op (.faddr 2 (.t 7)), none⟩, ⟨some 43, .op (.load none (.t 42)), none⟩, ⟨some 44, .op (.mov (.t 6)), none⟩, ⟨some 45, .op (.mov (.t 8)), none⟩, ⟨some 46, .op (.lit 1 2 [.int .i64 0, .int .i64 0] [(0, 1, .t 44), (1, 1, .t 45)]), none⟩, ⟨some 47, .call 21 [.t 39, .c (.int .i64 19), .t 41, .t 43, .t 46], none⟩, ⟨some 6, .op (.mov (.t 47)), none⟩])))))) def C78 : IFn := ⟨49, (.seq (.ops [⟨some 4, .op (.mov (.c (.int .i64 0))), none⟩]) (.seq (.ops [⟨some 9, .call 84 [], none⟩, ⟨some 5, .op (.mov (.t 9)), none⟩]) (.seq (.seq (.ops [⟨some 10, .op (.mov (.t 1)), none⟩, ⟨some 11, .op (.mov (.t 5)), none⟩, ⟨some 12, .op (.len .sl (.t 11)), none⟩, ⟨some 13, .op (.bin .eql (.t 10) (.t 12)), none⟩]) (.cond (.t 13) (.seq (.ops [⟨some 14, .op (.mov (.t 0)), none⟩, ⟨some 15, .call 85 [.t 14], none⟩, ⟨some 4, .op (.mov (.t 15)), none⟩]) .ret) .skip)) (.seq (.ops [⟨some 16, .op (.mov (.t 0)), none⟩, ⟨some 17, .op (.mov (.t 1)), none⟩, ⟨some 18, .op (.bin .add (.t 17) (.c (.int .i64 1))), none⟩, ⟨some 19, .call 78 [.t 16, .t 18], none⟩, ⟨some 6, .op (.mov (.t 19)), none⟩]) (.seq (.block 0 (.loop C78L0)) (.seq (.ops [⟨some 48, .op (.mov (.t 6)), none⟩, ⟨some 4, .op (.mov (.t 48)), none⟩]) .ret)))))), [.tmp 4]⟩
def C81 : IFn := ⟨18, (.seq (.ops [⟨some 6, .op (.mov (.c (.int .i64 0))), none⟩]) (.seq (.ops [⟨some 8, .op (.mov (.t 0)), none⟩, ⟨some 9, .call 64 [.t 8], none⟩, ⟨some 7, .op (.mov (.t 9)), none⟩]) (.seq (.ops [⟨some 10, .op (.mov (.t 0)), none⟩, ⟨some 11, .call 39 [.t 10, .c (.string ⟨#[59]⟩)], none⟩]) (.seq (.ops [⟨some 12, .op (.mov (.t 0)), none⟩, ⟨some 13, .op (.mov (.t 1)), none⟩, ⟨some 14, .op (.mov (.t 2)), none⟩, ⟨some 15, .op (.mov (.t 7)), none⟩, ⟨some 16, .op (.lit 1 1 [.int .i64 0] [(0, 1, .t 15)]), none⟩, ⟨some 17, .call 21 [.t 12, .t 13, .c (.string ⟨#[]⟩), .t 14, .t 16], none⟩, ⟨some 6, .op (.mov (.t 17)), none⟩]) .ret)))), [.tmp 6]⟩
def C85 : IFn := ⟨30, (.seq (.ops [⟨some 2, .op (.mov (.c (.int .i64 0))), none⟩]) (.seq (.ops [⟨some 5, .op (.mov (.t 0)), none⟩, ⟨some 6, .call 19 [.t 5], none⟩, ⟨some 3, .op (.alloc [.int .i64 0, .string ⟨#[]⟩, .int .i64 0, .int .i64 0, .int .i64 0]), none⟩, ⟨none, .op (.store 5 (.t 3) (.t 6)), none⟩]) (.seq (.seq (.ops [⟨some 7, .op (.mov (.t 0)), none⟩, ⟨some 8, .op (.lit 1 3 [.string ⟨#[]⟩, .string ⟨#[]⟩, .string ⟨#[]⟩] [(0, 1, .c (.string ⟨#[45]⟩)), (1, 1, .c (.string ⟨#[33]⟩)), (2, 1, .c (.string ⟨#[126]⟩))]), none⟩, ⟨some 9, .call 55 [.t 7, .t 8], none⟩, ⟨some 10, .op (.un .not (.t 9)), none⟩]) (.cond (.t 10) (.seq (.ops [⟨some 11, .op (.mov (.t 0)), none⟩, ⟨some 12, .call 63 [.t 11], none⟩, ⟨some 2, .op (.mov (.t 12)), none⟩]) .ret) .skip)) (.seq (.ops [⟨some 13, .op (.mov (.t 0)), none⟩, ⟨some 14, .op (.nilck (.t 13)), none⟩, ⟨some 15, .op (.faddr 1 (.t 14)), none⟩, ⟨some 16, .op (.load none (.t 15)), none⟩, ⟨some 17, .op (.bin .add (.t 16) (.c (.int .i64 1))), none⟩, ⟨some 18, .op (.nilck (.t 13)), none⟩, ⟨some 19, .op (.faddr 1 (.t 18)), none⟩, ⟨none, .op (.store 1 (.t 19) (.t 17)), none⟩]) (.seq (.ops [⟨some 20, .op (.mov (.t 0)), none⟩, ⟨some 21, .call 85 [.t 20], none⟩, ⟨some 4, .op (.mov (.t 21)), none⟩]) (.seq (.ops [⟨some 22, .op (.mov (.t 0)), none⟩, ⟨some 23, .op (.faddr 1 (.t 3)), none⟩, ⟨some 24, .op (.load none (.t 23)), none⟩, ⟨some 25, .op (.faddr 2 (.t 3)), none⟩, ⟨some 26, .op (.load none (.t 25)), none⟩, ⟨some 27, .op (.mov (.t 4)), none⟩, ⟨some 28, .op (.lit 1 1 [.int .i64 0] [(0, 1, .t 27)]), none⟩, ⟨some 29, .call 21 [.t 22, .c (.int .i64 18), .t 24, .t 26, .t 28], none⟩, ⟨some 2, .op (.mov (.t 29)), none⟩]) .ret)))))), [.tmp 2]⟩
def C87 : IFn := ⟨8, (.seq (.ops [⟨some 4, .op (.mov (.c (.int .i64 0))), none⟩]) (.seq (.ops [⟨some 5, .op (.mov (.t 0)), none⟩, ⟨some 6, .op (.mov (.t 1)), none⟩, ⟨some 7, .call 21 [.t 5, .c (.int .i64 16), .c (.string ⟨#[]⟩), .t 6, .c (.slice none 0 0)], none⟩, ⟨some 4, .op (.mov (.t 7)), none⟩]) .ret)), [.tmp 4]⟩
def C88 : IFn := ⟨8, (.seq (.ops [⟨some 4, .op (.mov (.c (.int .i64 0))), none⟩]) (.seq (.ops [⟨some 5, .op (.mov (.t 0)), none⟩, ⟨some 6, .op (.mov (.t 1)), none⟩, ⟨some 7, .call 21 [.t 5, .c (.int .i64 30), .c (.string ⟨#[]⟩), .t 6, .c (.slice none 0 0)], none⟩, ⟨some 4, .op (.mov (.t 7)), none⟩]) .ret)), [.tmp 4]⟩
def C89 : IFn := ⟨14, (.seq (.ops [⟨some 4, .op (.mov (.c (.int .i64 0))), none⟩]) (.seq (.ops [⟨some 6, .op (.mov (.t 0)), none⟩, ⟨some 7, .call 38 [.t 6], none⟩, ⟨some 5, .op (.alloc [.int .i64 0, .string ⟨#[]⟩, .int .i64 0, .int .i64 0, .int .i64 0]), none⟩, ⟨none, .op (.store 5 (.t 5) (.t 7)), none⟩]) (.seq (.ops [⟨some 8, .op (.mov (.t 0)), none⟩, ⟨some 9, .op (.faddr 1 (.t 5)), none⟩, ⟨some 10, .op (.load none (.t 9)), none⟩, ⟨some 11, .op (.faddr 2 (.t 5)), none⟩, ⟨some 12, .op (.load none (.t 11)), none⟩, ⟨some 13, .call 21 [.t 8, .c (.int .i64 23), .t 10, .t 12, .c (.slice none 0 0)], none⟩, ⟨some 4, .op (.mov (.t 13)), none⟩]) .ret))), [.tmp 4]⟩
def C90 : IFn := ⟨8, (.seq (.ops [⟨some 4, .op (.mov (.c (.int .i64 0))), none⟩]) (.seq (.ops [⟨some 5, .op (.mov (.t 0)), none⟩, ⟨some 6, .op (.mov (.t 1)), none⟩, ⟨some 7, .call 100 [.t 5, .c (.int .i64 24), .t 6], none⟩, ⟨some 4, .op (.mov (.t 7)), none⟩]) .ret)), [.tmp 4]⟩
def C91 : IFn := ⟨8, (.seq (.ops [⟨some 4, .op (.mov (.c (.int .i64 0))), none⟩]) (.seq (.ops [⟨some 5, .op (.mov (.t 0)), none⟩, ⟨some 6, .op (.mov (.t 1)), none⟩, ⟨some 7, .call 100 [.t 5, .c (.int .i64 25), .t 6], none⟩, ⟨some 4, .op (.mov (.t 7)), none⟩]) .ret)), [.tmp 4]⟩
def C92 : IFn := ⟨8, (.seq (.ops [⟨some 4, .op (.mov (.c (.int .i64 0))), none⟩]) (.seq (.ops [⟨some 5, .op (.mov (.t 0)), none⟩, ⟨some 6, .op (.mov (.t 1)), none⟩, ⟨some 7, .call 101 [.t 5, .c (.int .i64 26), .t 6], none⟩, ⟨some 4, .op (.mov (.t 7)), none⟩]) .ret)), [.tmp 4]⟩
def C93 : IFn := ⟨8, (.seq (.ops [⟨some 4, .op (.mov (.c (.int .i64 0))), none⟩]) (.seq (.ops [⟨some 5, .op (.mov (.t 0)), none⟩, ⟨some 6, .op (.mov (.t 1)), none⟩, ⟨some 7, .call 100 [.t 5, .c (.int .i64 27), .t 6], none⟩, ⟨some 4, .op (.mov (.t 7)), none⟩]) .ret)), [.tmp 4]⟩
def C94 : IFn := ⟨8, (.seq (.ops [⟨some 4, .op (.mov (.c (.int .i64 0))), none⟩]) (.seq (.ops [⟨some 5, .op (.mov (.t 0)), none⟩, ⟨some 6, .op (.mov (.t 1)), none⟩, ⟨some 7, .call 101 [.t 5, .c (.int .i64 28), .t 6], none⟩, ⟨some 4, .op (.mov (.t 7)), none⟩]) .ret)), [.tmp 4]⟩
def C95 : IFn := ⟨8, (.seq (.ops [⟨some 4, .op (.mov (.c (.int .i64 0))), none⟩]) (.seq (.ops [⟨some 5, .op (.mov (.t 0)), none⟩, ⟨some 6, .op (.mov (.t 1)), none⟩, ⟨some 7, .call 100 [.t 5, .c (.int .i64 29), .t 6], none⟩, ⟨some 4, .op (.mov (.t 7)), none⟩]) .ret)), [.tmp 4]⟩
def C100 : IFn := ⟨20, (.seq (.ops [⟨some 6, .op (.mov (.c (.int .i64 0))), none⟩]) (.seq (.ops [⟨some 8, .op (.mov (.t 0)), none⟩, ⟨some 9, .call 39 [.t 8, .c (.string ⟨#[40]⟩)], none⟩]) (.seq (.ops [⟨some 10, .op (.mov (.t 0)), none⟩, ⟨some 11, .call 64 [.t 10], none⟩, ⟨some 7, .op (.mov (.t 11)), none⟩]) (.seq (.ops [⟨some 12, .op (.mov (.t 0)), none⟩, ⟨some 13, .call 39 [.t 12, .c (.string ⟨#[41]⟩)], none⟩]) (.seq (.ops [⟨some 14, .op (.mov (.t 0)), none⟩, ⟨some 15, .op (.mov (.t 1)), none⟩, ⟨some 16, .op (.mov (.t 2)), none⟩, ⟨some 17, .op (.mov (.t 7)), none⟩, ⟨some 18, .op (.lit 1 1 [.int .i64 0] [(0, 1, .t 17)]), none⟩, ⟨some 19, .call 21 [.t 14, .t 15, .c (.string ⟨#[]⟩), .t 16, .t 18], none⟩, ⟨some 6, .op (.mov (.t 19)), none⟩]) .ret))))), [.tmp 6]⟩
def C101 : IFn := ⟨15, (.seq (.ops [⟨some 6, .op (.mov (.c (.int .i64 0))), none⟩]) (.seq (.ops [⟨some 7, .op (.mov (.t 0)), none⟩, ⟨some 8, .call 39 [.t 7, .c (.string ⟨#[40]⟩)], none⟩]) (.seq (.ops [⟨some 9, .op (.mov (.t 0)), none⟩, ⟨some 10, .call 39 [.t 9, .c (.string ⟨#[41]⟩)], none⟩]) (.seq (.ops [⟨some 11, .op (.mov (.t 0)), none⟩, ⟨some 12, .op (.mov (.t 1)), none⟩, ⟨some 13, .op (.mov (.t 2)), none⟩, ⟨some 14, .call 21 [.t 11, .t 12, .c (.string ⟨#[]⟩), .t 13, .c (.slice none 0 0)], none⟩, ⟨some 6, .op (.mov (.t 14)), none⟩]) .ret)))), [.tmp 6]⟩
def C83 : IFn := ⟨3, (.seq (.ops [⟨some 0, .op (.mov (.c (.map none))), none⟩]) (.seq (.ops [⟨some 1, .op (.mkmap (.one .str)), none⟩, ⟨none, .op (.mapset (.one .str) (.t 1) (.c (.string ⟨#[110, 117, 108, 108]⟩)) (.c (.func (.func 87) #[] #[]))), none⟩, ⟨none, .op (.mapset (.one .str) (.t 1) (.c (.string ⟨#[114, 111, 111, 116]⟩)) (.c (.func (.func 88) #[] #[]))), none⟩, ⟨none, .op (.mapset (.one .str) (.t 1) (.c (.string ⟨#[110, 101, 119]⟩)) (.c (.func (.func 89) #[] #[]))), none⟩, ⟨none, .op (.mapset (.one .str) (.t 1) (.c (.string ⟨#[97, 114, 114]⟩)) (.c (.func (.func 90) #[] #[]))), none⟩, ⟨none, .op (.mapset (.one .str) (.t 1) (.c (.string ⟨#[108, 101, 110]⟩)) (.c (.func (.func 91) #[] #[]))), none⟩, ⟨none, .op (.mapset (.one .str) (.t 1) (.c (.string ⟨#[105, 110]⟩)) (.c (.func (.func 92) #[] #[]))), none⟩, ⟨none, .op (.mapset (.one .str) (.t 1) (.c (.string ⟨#[105, 109, 103]⟩)) (.c (.func (.func 93) #[] #[]))), none⟩, ⟨none, .op (.mapset (.one .str) (.t 1) (.c (.string ⟨#[115, 105, 122, 101]⟩)) (.c (.func (.func 94) #[] #[]))), none⟩, ⟨none, .op (.mapset (.one .str) (.t 1) (.c (.string ⟨#[112, 114, 111, 109, 111, 116, 101]⟩)) (.c (.func (.func 95) #[] #[]))), none⟩, ⟨some 2, .op (.mov (.t 1)), none⟩, ⟨some 0, .op (.mov (.t 2)), none⟩]) .ret)), [.tmp 0]⟩
def C62 : IFn := ⟨3, (.seq (.ops [⟨some 0, .op (.mov (.c (.map none))), none⟩]) (.seq (.ops [⟨some 1, .op (.mkmap (.one .str)), none⟩, ⟨none, .op (.mapset (.one .str) (.t 1) (.c (.string ⟨#[108, 101, 116]⟩)) (.c (.func (.func 70) #[] #[]))), none⟩, ⟨none, .op (.mapset (.one .str) (.t 1) (.c (.string ⟨#[105, 102]⟩)) (.c (.func (.func 71) #[] #[]))), none⟩, ⟨none, .op (.mapset (.one .str) (.t 1) (.c (.string ⟨#[119, 104, 105, 108, 101]⟩)) (.c (.func (.func 72) #[] #[]))), none⟩, ⟨none, .op (.mapset (.one .str) (.t 1) (.c (.string ⟨#[114, 101, 116, 117, 114, 110]⟩)) (.c (.func (.func 73) #[] #[]))), none⟩, ⟨none, .op (.mapset (.one .str) (.t 1) (.c (.string ⟨#[111, 117, 116]⟩)) (.c (.func (.func 74) #[] #[]))), none⟩, ⟨none, .op (.mapset (.one .str) (.t 1) (.c (.string ⟨#[115, 116, 111, 112]⟩)) (.c (.func (.func 75) #[] #[]))), none⟩, ⟨none, .op (.mapset (.one .str) (.t 1) (.c (.string ⟨#[109, 101, 114, 103, 101]⟩)) (.c (.func (.func 76) #[] #[]))), none⟩, ⟨some 2, .op (.mov (.t 1)), none⟩, ⟨some 0, .op (.mov (.t 2)), none⟩]) .ret)), [.tmp 0]⟩
def C84 : IFn := ⟨7, (.seq (.ops [⟨some 0, .op (.mov (.c (.slice none 0 0))), none⟩]) (.seq (.ops [⟨some 1, .op (.lit 1 2 [.string ⟨#[]⟩, .string ⟨#[]⟩] [(0, 1, .c (.string ⟨#[124]⟩)), (1, 1, .c (.string ⟨#[94]⟩))]), none⟩, ⟨some 2, .op (.lit 1 1 [.string ⟨#[]⟩] [(0, 1, .c (.string ⟨#[38]⟩))]), none⟩, ⟨some 3, .op (.lit 1 2 [.string ⟨#[]⟩, .string ⟨#[]⟩] [(0, 1, .c (.string ⟨#[60, 60]⟩)), (1, 1, .c (.string ⟨#[62, 62]⟩))]), none⟩, ⟨some 4, .op (.lit 1 2 [.string ⟨#[]⟩, .string ⟨#[]⟩] [(0, 1, .c (.string ⟨#[43]⟩)), (1, 1, .c (.string ⟨#[45]⟩))]), none⟩, ⟨some 5, .op (.lit 1 3 [.string ⟨#[]⟩, .string ⟨#[]⟩, .string ⟨#[]⟩] [(0, 1, .c (.string ⟨#[42]⟩)), (1, 1, .c (.string ⟨#[47]⟩)), (2, 1, .c (.string ⟨#[37]⟩))]), none⟩, ⟨some 6, .op (.lit 1 5 [(.slice none 0 0), (.slice none 0 0), (.slice none 0 0), (.slice none 0 0), (.slice none 0 0)] [(0, 1, .t 1), (1, 1, .t 2), (2, 1, .t 3), (3, 1, .t 4), (4, 1, .t 5)]), none⟩, ⟨some 0, .op (.mov (.t 6)), none⟩]) .ret)), [.tmp 0]⟩
def C18L0 : IC := (.seq (.ops [⟨some 8, .op (.bin .lss (.t 7) (.t 6)), none⟩]) (.seq (.cond (.t 8) .skip (.exit 0)) (.seq (.block 1 (.seq (.ops [⟨some 9, .op (.iaddr (.sl 5) (.t 5) (.t 7)), none⟩, ⟨some 10, .op (.load (some 5) (.t 9)), none⟩, ⟨some 4, .op (.alloc [.int .i64 0, .string ⟨#[]⟩, .int .i64 0, .int .i64 0, .int .i64 0]), none⟩, ⟨none, .op (.store 5 (.t 4) (.t 10)), none⟩]) (.seq (.seq (.ops [⟨some 11, .op (.faddr 0 (.t 4)), none⟩, ⟨some 12, .op (.load none (.t 11)), none⟩, ⟨some 13, .op (.bin .neq (.t 12) (.c (.int .i64 3))), none⟩]) (.cond (.t 13) (.exit 1) .skip)) (.seq (.ops [⟨some 14, .op (.faddr 1 (.t 4)), none⟩, ⟨some 15, .op (.load none (.t 14)), none⟩]) (.block 2 (.seq (.seq (.ops [⟨some 17, .op (.bin .eql (.t 15) (.c (.string ⟨#[40]⟩))), none⟩, ⟨some 16, .op (.mov (.t 17)), none⟩]) (.cond (.t 16) .skip (.seq (.ops [⟨some 18, .op (.bin .eql (.t 15) (.c (.string ⟨#[91]⟩))), none⟩, ⟨some 16, .op (.mov (.t 18)), none⟩]) (.cond (.t 16) .skip (.ops [⟨some 19, .op (.bin .eql (.t 15) (.c (.string ⟨#[123]⟩))), none⟩, ⟨some 16, .op (.mov (.t 19)), none⟩]))))) (.cond (.t 16) (.seq (.ops [⟨some 20, .op (.mov (.t 2)), none⟩, ⟨some 21, .op (.bin .add (.t 20) (.c (.int .i64 1))), none⟩, ⟨some 2, .op (.mov (.t 21)), none⟩]) (.seq (.ops [⟨some 22, .op (.mov (.t 2)), none⟩, ⟨some 23, .op (.bin .gtr (.t 22) (.c (.int .i64 150))), none⟩]) (.cond (.t 23) (.ops [⟨some 24, .op (.faddr 2 (.t 4)), none⟩, ⟨some 25, .op (.load none (.t 24)), none⟩, ⟨some 26, .op (.build [.int .i64 0, .int .i64 0] [(0, 1, .t 25), (1, 1, .c (.int .i64 51))]), none⟩, ⟨some 27, .op (.iface 36 (.t 26)), none⟩, ⟨none, .panic (.t 27), none⟩]) .skip))) (.seq (.seq (.ops [⟨some 29, .op (.bin .eql (.t 15) (.c (.string ⟨#[41]⟩))), none⟩, ⟨some 28, .op (.mov (.t 29)), none⟩]) (.cond (.t 28) .skip (.seq (.ops [⟨some 30, .op (.bin .eql (.t 15) (.c (.string ⟨#[93]⟩))), none⟩, ⟨some 28, .op (.mov (.t 30)), none⟩]) (.cond (.t 28) .skip (.ops [⟨some 31, .op (.bin .eql (.t 15) (.c (.string ⟨#[125]⟩))), none⟩, ⟨some 28, .op (.mov (.t 31)), none⟩]))))) (.cond (.t 28) (.ops [⟨some 32, .op (.mov (.t 2)), none⟩, ⟨some 33, .op (.bin .sub (.t 32) (.c (.int .i64 1))), none⟩, ⟨some 34, .op (.minmax true (.t 33) (.c (.int .i64 0))), none⟩, ⟨some 2, .op (.mov (.t 34)), none⟩]) .skip))))))))) (.ops [⟨some 35, .op (.bin .add (.t 7) (.c (.int .i64 1))), none⟩, ⟨some 7, .op (.mov (.t 35)), none⟩])))) def C18 : IFn := ⟨36, (.seq (.ops [⟨some 2, .op (.mov (.c (.int .i64 0))), none⟩]) (.seq (.ops [⟨some 5, .op (.mov (.t 0)), none⟩, ⟨some 6, .op (.len .sl (.t 5)), none⟩, ⟨some 7, .op (.mov (.c (.int .i64 0))), none⟩]) (.block 0 (.loop C18L0)))), []⟩
def C9L0 : IC := (.seq (.seq (.ops [⟨some 25, .op (.mov (.t 6)), none⟩, ⟨some 26, .call 19 [.t 25], none⟩, ⟨some 27, .op (.field 0 none (.t 26)), none⟩, ⟨some 28, .op (.bin .neq (.t 27) (.c (.int .i64 0))), none⟩]) (.cond (.t 28) .skip (.exit 0))) (.block 1 (.ops [⟨some 29, .op (.mov (.t 7)), none⟩, ⟨some 30, .op (.mov (.t 6)), none⟩, ⟨some 31, .call 20 [.t 30], none⟩, ⟨some 32, .op (.lit 1 1 [.int .i64 0] [(0, 1, .t 31)]), none⟩, ⟨some 33, .op (.append 1 8 (.t 29) (.t 32)), none⟩, ⟨some 7, .op (.mov (.t 33)), none⟩]))) def C9 : IFn := ⟨59, (.seq (.ops [⟨some 2, .op (.mov (.c (.slice none 0 0))), none⟩]) (.seq (.ops [⟨some 9, .op (.mov (.t 0)), none⟩, ⟨some 10, .call 17 [.t 9], none⟩, ⟨some 8, .op (.mov (.t 10)), none⟩, ⟨some 11, .op (.extract (.t 8) 0), none⟩, ⟨some 12, .op (.extract (.t 8) 1), none⟩, ⟨some 13, .op (.extract (.t 8) 2), none⟩, ⟨some 3, .op (.mov (.t 11)), none⟩, ⟨some 4, .op (.mov (.t 12)), none⟩, ⟨some 5, .op (.mov (.t 13)), none⟩]) (.seq (.seq (.ops [⟨some 14, .op (.mov (.t 5)), none⟩, ⟨some 15, .op (.bin .neq (.t 14) (.c (.int .i64 0))), none⟩]) (.cond (.t 15) (.ops [⟨some 16, .op (.mov (.t 4)), none⟩, ⟨some 17, .op (.mov (.t 5)), none⟩, ⟨some 18, .op (.build [.int .i64 0, .int .i64 0] [(0, 1, .t 16), (1, 1, .t 17)]), none⟩, ⟨some 19, .op (.iface 36 (.t 18)), none⟩, ⟨none, .panic (.t 19), none⟩]) .skip)) (.seq (.ops [⟨some 20, .op (.mov (.t 3)), none⟩, ⟨some 21, .call 18 [.t 20], none⟩]) (.seq (.ops [⟨some 22, .op (.mov (.t 3)), none⟩, ⟨some 23, .op (.build [(.slice none 0 0), .int .i64 0, (.slice none 0 0)] [(0, 1, .t 22)]), none⟩, ⟨some 24, .op (.box (.t 23)), none⟩, ⟨some 6, .op (.mov (.t 24)), none⟩]) (.seq (.ops [⟨some 7, .op (.mov (.c (.slice none 0 0))), none⟩]) (.seq (.block 0 (.loop C9L0)) (.seq (.ops [⟨some 34, .op (.mov (.t 6)), none⟩, ⟨some 35, .op (.mov (.t 7)), none⟩, ⟨some 36, .call 21 [.t 34, .c (.int .i64 1), .c (.string ⟨#[]⟩), .c (.int .i64 0), .t 35], none⟩]) (.seq (.block 2 (.seq (.ops [⟨some 38, .op (.mov (.t 6)), none⟩, ⟨some 39, .op (.nilck (.t 38)), none⟩, ⟨some 40, .op (.faddr 2 (.t 39)), none⟩, ⟨some 41, .op (.load none (.t 40)), none⟩, ⟨some 42, .op (.len .sl (.t 41)), none⟩, ⟨some 43, .op (.bin .gtr (.t 42) (.c (.int .i64 50000))), none⟩, ⟨some 37, .op (.mov (.t 43)), none⟩]) (.cond (.t 37) (.ops [⟨some 44, .op (.build [.int .i64 0, .int .i64 0] [(0, 1, .c (.int .i64 0)), (1, 1, .c (.int .i64 2))]), none⟩, ⟨some 45, .op (.iface 36 (.t 44)), none⟩, ⟨none, .panic (.t 45), none⟩]) (.seq (.ops [⟨some 47, .op (.mov (.t 6)), none⟩, ⟨some 48, .op (.nilck (.t 47)), none⟩, ⟨some 49, .op (.faddr 2 (.t 48)), none⟩, ⟨some 50, .op (.load none (.t 49)), none⟩, ⟨some 51, .call 13 [.t 50], none⟩, ⟨some 52, .op (.bin .gtr (.t 51) (.c (.int .i64 200))), none⟩, ⟨some 46, .op (.mov (.t 52)), none⟩]) (.cond (.t 46) (.ops [⟨some 53, .op (.build [.int .i64 0, .int .i64 0] [(0, 1, .c (.int .i64 0)), (1, 1, .c (.int .i64 51))]), none⟩, ⟨some 54, .op (.iface 36 (.t 53)), none⟩, ⟨none, .panic (.t 54), none⟩]) .skip))))) (.seq (.ops [⟨some 55, .op (.mov (.t 6)), none⟩, ⟨some 56, .op (.nilck (.t 55)), none⟩, ⟨some 57, .op (.faddr 2 (.t 56)), none⟩, ⟨some 58, .op (.load none (.t 57)), none⟩, ⟨some 2, .op (.mov (.t 58)), none⟩]) .ret)))))))))), [.tmp 2]⟩
def C5 : IFn := ⟨8, (.seq (.ops [⟨some 2, .op (.alloc [(.slice none 0 0)]), none⟩, ⟨some 3, .op (.alloc [.int .i64 0]), none⟩, ⟨some 4, .op (.alloc [.int .i64 0]), none⟩]) (.seq (.ops [⟨some 5, .op (.fn 8 [] [.t 2, .t 3, .t 4]), none⟩, ⟨none, .defer (.t 5) [], none⟩]) (.seq (.ops [⟨some 6, .op (.mov (.t 0)), none⟩, ⟨some 7, .call 9 [.t 6], none⟩, ⟨none, .op (.store 1 (.t 2) (.t 7)), none⟩, ⟨none, .op (.store 1 (.t 3) (.c (.int .i64 0))), none⟩, ⟨none, .op (.store 1 (.t 4) (.c (.int .i64 0))), none⟩]) .ret))), [.cell 2 none, .cell 3 none, .cell 4 none]⟩
def C8 : IFn := ⟨21, (.seq (.ops [⟨some 6, .op (.recover), none⟩, ⟨some 3, .op (.mov (.t 6)), none⟩]) (.seq (.ops [⟨some 7, .op (.mov (.t 3)), none⟩, ⟨some 8, .op (.isnil .ifc true (.t 7)), none⟩]) (.cond (.t 8) (.seq (.ops [⟨some 10, .op (.mov (.t 3)), none⟩, ⟨some 11, .op (.assert 36 (.agg #[.int .i64 0, .int .i64 0]) (.t 10)), none⟩, ⟨some 9, .op (.mov (.t 11)), none⟩, ⟨some 12, .op (.extract (.t 9) 0), none⟩, ⟨some 13, .op (.extract (.t 9) 1), none⟩, ⟨some 4, .op (.alloc [.int .i64 0, .int .i64 0]), none⟩, ⟨none, .op (.store 2 (.t 4) (.t 12)), none⟩, ⟨some 5, .op (.mov (.t 13)), none⟩]) (.seq (.seq (.ops [⟨some 14, .op (.mov (.t 5)), none⟩, ⟨some 15, .op (.un .not (.t 14)), none⟩]) (.cond (.t 15) (.ops [⟨some 16, .op (.mov (.t 3)), none⟩, ⟨none, .panic (.t 16), none⟩]) .skip)) (.draw [⟨some 17, .op (.faddr 0 (.t 4)), none⟩, ⟨some 18, .op (.load none (.t 17)), none⟩, ⟨some 19, .op (.faddr 1 (.t 4)), none⟩, ⟨some 20, .op (.load none (.t 19)), none⟩, ⟨none, .op (.store 1 (.t 0) (.c (.slice none 0 0))), none⟩, ⟨none, .op (.store 1 (.t 1) (.t 18)), none⟩, ⟨none, .op (.store 1 (.t 2) (.t 20)), none⟩] [[], [0], [], [2], [], [4, 1, 0], [5, 4, 1, 0, 3, 2]]))) .skip))), []⟩
def C61 : IFn := ⟨9, (.seq (.ops [⟨some 4, .op (.mov (.c (.bool false))), none⟩]) (.seq (.ops [⟨some 5, .op (.mov (.t 0)), none⟩, ⟨some 6, .op (.mov (.t 1)), none⟩, ⟨some 7, .call 69 [.t 5, .t 6], none⟩, ⟨some 8, .op (.bin .geq (.t 7) (.c (.int .i64 0))), none⟩, ⟨some 4, .op (.mov (.t 8)), none⟩]) .ret)), [.tmp 4]⟩
def C69L0 : IC := (.seq (.ops [⟨some 9, .op (.bin .lss (.t 8) (.t 7)), none⟩]) (.seq (.cond (.t 9) .skip (.exit 0)) (.seq (.block 1 (.seq (.ops [⟨some 10, .op (.mov (.t 8)), none⟩, ⟨some 5, .op (.mov (.t 10)), none⟩]) (.seq (.ops [⟨some 11, .op (.mov (.t 1)), none⟩, ⟨some 12, .op (.mov (.t 0)), none⟩, ⟨some 13, .op (.mov (.t 5)), none⟩, ⟨some 14, .op (.iaddr (.sl 1) (.t 12) (.t 13)), none⟩, ⟨some 15, .op (.load none (.t 14)), none⟩, ⟨some 16, .op (.bin .eql (.t 11) (.t 15)), none⟩]) (.cond (.t 16) (.seq (.ops [⟨some 17, .op (.mov (.t 5)), none⟩, ⟨some 4, .op (.mov (.t 17)), none⟩]) .ret) .skip)))) (.ops [⟨some 18, .op (.bin .add (.t 8) (.c (.int .i64 1))), none⟩, ⟨some 8, .op (.mov (.t 18)), none⟩])))) def C69 : IFn := ⟨19, (.seq (.ops [⟨some 4, .op (.mov (.c (.int .i64 0))), none⟩]) (.seq (.seq (.ops [⟨some 6, .op (.mov (.t 0)), none⟩, ⟨some 7, .op (.len .sl (.t 6)), none⟩, ⟨some 8, .op (.mov (.c (.int .i64 0))), none⟩]) (.block 0 (.loop C69L0))) (.seq (.ops [⟨some 4, .op (.mov (.c (.int .i64 (-1)))), none⟩]) .ret))), [.tmp 4]⟩ end Go.Idl
end

section
namespace Go.Idl
variable {T : Tbl}
def idxOf : List ByteArray → ByteArray → Nat → Option Nat
  | [], _, _ => none
  | x :: l, s, k => if s = x then some k else idxOf l s (k + 1)
def idxI (l : List ByteArray) (s : ByteArray) : Int := match idxOf l s 0 with
  | some k => k
  | none => -1
theorem idxOf_none {s : ByteArray} : ∀ {l : List ByteArray} {k : Nat}, (∀ x ∈ l, s ≠ x) → idxOf l s k = none
  | [], _, _ => rfl
  | x :: l, k, h => by rw [idxOf, if_neg (h x (List.mem_cons_self ..))]; exact idxOf_none fun y hy => h y (List.mem_cons_of_mem _ hy)
theorem idxOf_some {s : ByteArray} : ∀ {l : List ByteArray} {k j : Nat}, (∀ i, i < j → ∀ x, l[i]? = some x → s ≠ x) → l[j]? = some s → idxOf l s k = some (k + j)
  | [], _, _, _, h => by simp at h
  | x :: l, k, 0, _, h => by simp at h; rw [idxOf, if_pos h.symm, Nat.add_zero]
  | x :: l, k, j + 1, h1, h2 => by
    rw [idxOf, if_neg (h1 0 (Nat.succ_pos _) x rfl), idxOf_some (j := j) (fun i hi y hy => h1 (i + 1) (Nat.succ_lt_succ hi) y hy) (by simpa using h2)]
    congr 1; omega
theorem indexS_ok (hT : T.fn 69 = some C69) {h : Heap} {v : Value} {l : List ByteArray} {s : ByteArray} (hv : strsAt h v l) (hl : l.length < 9223372036854775807) :
    Wk T (.fn 69) [v, .string s] h (fun o h' => h' = h ∧ o = .ret (.int .i64 (idxI l s))) := by
  obtain ⟨va, vc, hvl⟩ := hv.len
  refine Wk_fn hT (by simp [C69]) ?_
  simp only [C69]
  refine Wc_seq (Wc_ops (Wo_run (fun call => by simp only [go_sem, seval]; rfl) ?_))
  show Wc T _ _ _
  refine Wc_seq (Wc_seq (Wc_ops (Wo_run (fun call => by simp only [go_sem, seval, hvl]; rfl) ?_)))
  show Wc T _ _ _
  refine Wc_range l.length (fun j e h' d => d = some [] ∧ h' = h ∧ ∀ i, i < j → ∀ x, l[i]? = some x → s ≠ x) (by decide) (by simp only [upd, dstUpd, reduceIte, Nat.reduceEqDiff]) (by simp only [upd, dstUpd, reduceIte, Nat.reduceEqDiff]) hl (by decide) ⟨rfl, rfl, fun i hi => by omega⟩ ?_ ?_
  · rintro j e h' d hj ⟨rfl, rfl, hne⟩ hfr h8 h7
    obtain ⟨x, hx⟩ : ∃ x, l[j]? = some x := ⟨_, List.getElem?_eq_getElem hj⟩
    obtain ⟨b, c, o, z, hvb, hb, hg, hcell⟩ := strsAt.load hv hx
    have e0 : e 0 = v := ((hfr 0 (by decide)).trans (by first | rfl | assumption | (symm; assumption)))
    have e1 : e 1 = .string s := ((hfr 1 (by decide)).trans (by first | rfl | assumption | (symm; assumption)))
    refine Wc_seq (Wc_ops (Wo_run (fun call => by simp only [go_sem, seval, h8]; rfl) ?_))
    show Wc T _ _ _
    refine Wc_seq (Wc_ops (Wo_run (fun call => by simp only [go_sem, seval, e0, e1, hvb, idx_ok hj, hg, hcell]; rfl) ?_))
    show Wc T _ _ _
    refine Wc_cond (decide (s = x)) (by simp [ev, upd, dstUpd]) (fun hd => ?_) (fun hd => Wc_skip ?_)
    · have hsx : s = x := by simpa using hd
      subst hsx
      refine Wc_seq (Wc_ops (Wo_run (fun call => by simp only [go_sem, seval, h8]; rfl) ?_))
      refine Wc_ret ⟨.inr rfl, rfl, [.int .i64 j], by simp only [resAll, resV, upd, dstUpd, reduceIte, Nat.reduceEqDiff], rfl, ?_⟩
      simp only [tup, idxI, idxOf_some hne hx, Nat.zero_add]
    · refine ⟨rfl, rfl, fun i hi y hy => ?_⟩
      rcases Nat.lt_or_eq_of_le (Nat.le_of_lt_succ hi) with h1 | h1
      · exact hne i h1 y hy
      · subst h1; rw [hx] at hy; cases hy; simpa using hd
  · rintro e h' d ⟨rfl, rfl, hne⟩ hfr h8
    show Wc T _ _ _
    refine Wc_seq (Wc_ops (Wo_run (fun call => by simp only [go_sem, seval]; rfl) ?_))
    refine Wc_ret ⟨.inr rfl, rfl, [.int .i64 (-1)], by simp only [resAll, resV, upd, dstUpd, reduceIte, Nat.reduceEqDiff], rfl, ?_⟩
    have : idxOf l s 0 = none := idxOf_none fun x hx => by
      obtain ⟨i, hi⟩ := List.getElem?_of_mem hx
      exact hne i (List.getElem?_eq_some_iff.1 hi).1 x hi
    simp only [tup, idxI, this]
def hasL (l : List ByteArray) (s : ByteArray) : Bool := l.any fun x => decide (s = x)
theorem idxOf_ge {s : ByteArray} : ∀ {l : List ByteArray} {k : Nat}, (idxOf l s k).isSome = hasL l s
  | [], k => rfl
  | x :: l, k => by
    rw [idxOf, hasL, List.any_cons]
    by_cases h : s = x
    · rw [if_pos h, decide_eq_true h]; rfl
    · rw [if_neg h, decide_eq_false h, Bool.false_or]; exact idxOf_ge
theorem contains_ok (hT : T.fn 61 = some C61) (hi : T.fn 69 = some C69) {h : Heap} {v : Value} {l : List ByteArray} {s : ByteArray} (hv : strsAt h v l) (hl : l.length < 9223372036854775807) :
    Wk T (.fn 61) [v, .string s] h (fun o h' => h' = h ∧ o = .ret (.bool (hasL l s))) := by
  refine Wk_fn hT (by simp [C61]) ?_
  simp only [C61]
  refine Wc_seq (Wc_ops (Wo_run (fun call => by simp only [go_sem, seval]; rfl) ?_))
  show Wc T _ _ _
  refine Wc_seq (Wc_ops (Wo_pre 2 (fun call => by simp only [go_sem, seval]; rfl) ?_))
  refine Wo_call (Wk_pure (indexS_ok hi hv hl) ?_)
  have hd : decide ((0 : Int) ≤ idxI l s) = hasL l s := by
    have := idxOf_ge (s := s) (l := l) (k := 0)
    rw [← this, idxI]
    cases idxOf l s 0 with
    | none => rfl
    | some k => simp
  refine (Wo_run (fun call => by simp only [go_sem, seval]; rfl) ?_)
  refine Wc_ret ⟨.inr rfl, rfl, [.bool (decide ((0 : Int) ≤ idxI l s))], by simp only [resAll, resV, upd, dstUpd, reduceIte, Nat.reduceEqDiff], rfl, ?_⟩
  rw [hd]; rfl
end Go.Idl
end

section
namespace Go.Idl
variable {T : Tbl} {X : Nat → Prop}
structure PN where
  kind : Int
  text : ByteArray
  kids : List Int
  pos : Int
structure PSt where
  i : Nat
  l : List PN
inductive PR (α : Type) where
  | ok (a : α) (s : PSt)
  | err (at' : Nat) (e : Int)
def isB (t : Tok) (l : List ByteArray) : Bool := (t.kind == 3 || t.kind == 2) && hasL l t.text
def takeS (ts : List Tok) (s : ByteArray) (st : PSt) : Option (Bool × PSt) := ts[st.i]?.map fun t => if isB t [s] then (true, { st with i := st.i + 1 }) else (false, st)
def wantS (ts : List Tok) (s : ByteArray) (st : PSt) : Option (PR Unit) := ts[st.i]?.map fun t => if isB t [s] then .ok () { st with i := st.i + 1 } else .err t.frm 60
def nameS (ts : List Tok) (st : PSt) : Option (PR Tok) := ts[st.i]?.map fun t => if t.kind = 1 then .ok t { st with i := st.i + 1 } else .err t.frm 60
def nodeS (kind : Int) (text : ByteArray) (pos : Int) (kids : List Int) (st : PSt) : Option (Nat × PSt) := if st.l.length < 1000000000 then some (st.l.length, { st with l := st.l ++ [⟨kind, text, kids, pos⟩] }) else none
def kidsAt (X : Nat → Prop) (h : Heap) (kv : Value) (kids : List Int) : Prop := (kv = .slice none 0 0 ∧ kids = []) ∨ ∃ b c, kv = .slice (some ⟨b, 0, none⟩) kids.length c ∧ b < h.next ∧ h.get b = some (.cells (ints64 kids) true 1) ∧ ¬ X b
def Nd.pn (x : Nd) : PN := ⟨x.kind, x.text, x.kids, x.pos⟩
theorem nd_len (x : Nd) : x.cells.length = 4 := rfl
structure PFr (pb : Nat) (h h' : Heap) : Prop where
  next : h.next ≤ h'.next
  get' : ∀ b, b < h.next → b ≠ pb → (pb < b → ∀ cs, h.get b ≠ some (.cells cs true 4)) → h'.get b = h.get b
theorem PFr.get {pb : Nat} {h h' : Heap} (x : PFr pb h h') (b : Nat) (hb : b < h.next) (hp : b ≠ pb) (hn : ∀ cs, h.get b ≠ some (.cells cs true 4)) : h'.get b = h.get b := x.get' b hb hp fun _ => hn
theorem PFr.refl (pb : Nat) (h : Heap) : PFr pb h h := ⟨Nat.le_refl _, fun _ _ _ _ => rfl⟩
theorem PFr.trans {pb : Nat} {a b c : Heap} (x : PFr pb a b) (y : PFr pb b c) : PFr pb a c := ⟨Nat.le_trans x.next y.next, fun k hk hp hn => by
  rw [y.get' k (Nat.lt_of_lt_of_le hk x.next) hp (fun hl cs => by rw [x.get' k hk hp hn]; exact hn hl cs), x.get' k hk hp hn]⟩
theorem Kept.pfr {a b : Heap} (x : Kept a b) (pb : Nat) : PFr pb a b := ⟨x.next, fun k hk _ _ => x.get k hk⟩
theorem kidsAt.keep {pb : Nat} {h h' : Heap} {kv : Value} {kids : List Int} (k : kidsAt X h kv kids) (f : PFr pb h h') (hp : ∀ cs, h.get pb ≠ some (.cells cs true 1)) : kidsAt X h' kv kids := by
  rcases k with k | ⟨b, c, h1, h2, h3, h4⟩
  · exact .inl k
  · refine .inr ⟨b, c, h1, Nat.lt_of_lt_of_le h2 f.next, ?_, h4⟩
    rw [f.get b h2 (fun e => by subst e; exact hp _ h3) (fun cs e => by rw [h3] at e; simp at e)]; exact h3
structure Par (pb : Nat) (ts : List Tok) (X : Nat → Prop) (h : Heap) (st : PSt) : Prop where
  lt : pb < h.next
  few : ts.length < 4611686018427387904
  rep : ∃ tv lv nds, h.get pb = some (.cells [tv, .int .i64 st.i, lv] true 0) ∧ ownL Tok.cells 5 0 h tv ts ∧ ownL Nd.cells 4 pb h lv nds ∧ (∀ x ∈ nds, kidsAt X h x.kv x.kids) ∧ nds.map Nd.pn = st.l
theorem Par.no1 {pb : Nat} {ts : List Tok} {h : Heap} {st : PSt} (p : Par pb ts X h st) : ∀ cs, h.get pb ≠ some (.cells cs true 1) := by
  obtain ⟨tv, lv, nds, h1, _⟩ := p.rep
  intro cs e
  rw [h1] at e; simp at e
theorem Par.keep {pb : Nat} {ts : List Tok} {h h' : Heap} {st : PSt} (p : Par pb ts X h st) (k : Kept h h') : Par pb ts X h' st := by
  obtain ⟨tv, lv, nds, h1, h2, h3, h4, h5⟩ := p.rep
  exact ⟨Nat.lt_of_lt_of_le p.lt k.next, p.few, tv, lv, nds, by rw [k.get _ p.lt]; exact h1, h2.kept k, h3.kept k, fun x hx => (h4 x hx).keep (k.pfr pb) p.no1, h5⟩
theorem Par.go {pb : Nat} {ts : List Tok} {h : Heap} {st : PSt} {tv lv : Value} {i : Nat} (p : Par pb ts X h st) (hg : h.get pb = some (.cells [tv, .int .i64 st.i, lv] true 0)) : Par pb ts X (h.set pb (.cells [tv, .int .i64 i, lv] true 0)) { st with i := i } ∧ PFr pb h (h.set pb (.cells [tv, .int .i64 i, lv] true 0)) := by
  obtain ⟨tv', lv', nds, h1, h2, h3, h4, h5⟩ := p.rep
  rw [hg] at h1
  simp only [Option.some.injEq, Blk.cells.injEq, List.cons.injEq, and_true, true_and] at h1
  obtain ⟨rfl, rfl⟩ := h1
  have fr : PFr pb h (h.set pb (.cells [tv, .int .i64 i, lv] true 0)) := ⟨Nat.le_refl _, fun b hb hp _ => set_get_ne' _ _ hp⟩
  have other : ∀ (w : Nat) (b : Nat) (cs : List Value), w ≠ 0 → h.get b = some (.cells cs true w) → (h.set pb (.cells [tv, .int .i64 i, lv] true 0)).get b = h.get b := fun w b cs hw hb => set_get_ne' _ _ (fun e => by
    subst e; rw [hg] at hb; simp only [Option.some.injEq, Blk.cells.injEq] at hb; exact hw hb.2.2.symm)
  refine ⟨⟨p.lt, p.few, tv, lv, nds, set_get' _ _ _, ?_, ?_, fun x hx => (h4 x hx).keep fr p.no1, h5⟩, fr⟩
  · rcases h2 with h2 | ⟨b, e1, e2, e3, e4⟩
    · exact .inl h2
    · exact .inr ⟨b, e1, e2, e3, by rw [other 5 b _ (by decide) e4]; exact e4⟩
  · rcases h3 with h3 | ⟨b, e1, e2, e3, e4⟩
    · exact .inl h3
    · exact .inr ⟨b, e1, e2, e3, by rw [other 4 b _ (by decide) e4]; exact e4⟩
def PPost {α : Type} (pb : Nat) (ts : List Tok) (X : Nat → Prop) (h : Heap) (f : α → Out) : PR α → Out → Heap → Prop
  | .ok a st, o, h' => PFr pb h h' ∧ o = f a ∧ Par pb ts X h' st
  | .err at' e, o, h' => PFr pb h h' ∧ o = .pan (.iface 36 (.agg #[.int .i64 at', .int .i64 e]))
structure Par1 (T : Tbl) : Prop where
  now : T.fn 19 = some C19
  fail : T.fn 56 = some C56
  is : T.fn 55 = some C55
  take : T.fn 37 = some C37
  want : T.fn 39 = some C39
  name : T.fn 38 = some C38
  node : T.fn 21 = some C21
  contains : T.fn 61 = some C61
  index : T.fn 69 = some C69
theorem now_ok (F : Par1 T) {pb : Nat} {ts : List Tok} {h : Heap} {st : PSt} {t : Tok} (p : Par pb ts X h st) (ht : ts[st.i]? = some t) : Wk T (.fn 19) [ptr pb 0] h (fun o h' => Kept h h' ∧ o = .ret (.agg t.cells.toArray)) := by
  obtain ⟨tv, lv, nds, hg, htv, _⟩ := p.rep
  obtain ⟨b, c, rfl, hb0, hb, hgb, hcell⟩ := htv.load tok_len ht
  have hi := (List.getElem?_eq_some_iff.1 ht).1
  refine Wk_fn F.now (by simp [C19]) ?_
  simp only [C19]
  refine Wc_seq (Wc_ops (Wo_op (v := ptr h.next 0) (h' := h.new (.cells z5 true 0)) rfl (Wo_nil ?_)))
  show Wc T _ _ _
  have hg1 : (h.new (.cells z5 true 0)).get pb = some (.cells [.slice (some ⟨b, 0, none⟩) ts.length c, .int .i64 st.i, lv] true 0) := by rw [new_get_ne' _ _ (by have := p.lt; omega)]; exact hg
  have hc1 : (h.new (.cells z5 true 0)).cells b (st.i * 5) 5 = some t.cells := by
    simp only [Heap.cells] at hcell ⊢
    rw [new_get_ne' _ _ (by omega)]; exact hcell
  refine Wc_seq (Wc_draw_still (by decide) ?_)
  refine (Wo_pre 10 (fun call => by simp only [go_sem, seval, hg1, idx_ok hi, hc1]; rfl) ?_)
  refine Wo_store_new (cs := t.cells) (h := h) (by first | rfl | assumption) (by first | rfl | assumption) rfl rfl fun h2 n2 => Wo_nil ⟨rfl, ?_⟩
  have hcc : h2.cells h.next 0 5 = some t.cells := cells_all n2.get rfl
  exact Wc_ret ⟨.inr rfl, rfl, [.agg t.cells.toArray], by simp only [resAll, resV, upd, dstUpd, reduceIte, Nat.reduceEqDiff, ptr, hcc, Option.map_some], n2.kept, rfl⟩
theorem fail_ok (F : Par1 T) {pb : Nat} {ts : List Tok} {h : Heap} {st : PSt} {t : Tok} (p : Par pb ts X h st) (ht : ts[st.i]? = some t) : Wk T (.fn 56) [ptr pb 0] h (fun o h' => Kept h h' ∧ o = .pan (.iface 36 (.agg #[.int .i64 t.frm, .int .i64 60]))) := by
  refine Wk_fn2 F.fail (by simp [C56]) ?_
  simp only [C56]
  refine Wc_ops (Wo_pre 1 (fun call => by simp only [go_sem, seval]; rfl) ?_)
  refine Wo_call (Wk_kept (now_ok F p ht) fun h2 k2 => ?_)
  refine Wo_op (v := .int .i64 t.frm) (h' := h2) rfl ?_
  refine Wo_op (v := .agg #[.int .i64 t.frm, .int .i64 60]) (h' := h2) (by rfl) ?_
  refine Wo_op (v := .iface 36 (.agg #[.int .i64 t.frm, .int .i64 60])) (h' := h2) (by rfl) ?_
  refine Wo_panic (t := 36) (v := .agg #[.int .i64 t.frm, .int .i64 60]) (by first | rfl | assumption) ?_
  exact ⟨rfl, k2, rfl⟩
theorem is_ok (F : Par1 T) {pb : Nat} {ts : List Tok} {h : Heap} {st : PSt} {t : Tok} {v : Value} {l : List ByteArray} (p : Par pb ts X h st) (ht : ts[st.i]? = some t) (hv : strsAt h v l) (hl : l.length < 1000) : Wk T (.fn 55) [ptr pb 0, v] h (fun o h' => Kept h h' ∧ o = .ret (.bool (isB t l))) := by
  refine Wk_fn F.is (by simp [C55]) ?_
  simp only [C55]
  refine Wc_seq (Wc_ops (Wo_run (fun call => by simp only [go_sem, seval]; rfl) ?_))
  show Wc T _ _ _
  refine Wc_seq (Wc_ops (Wo_pre 1 (fun call => by simp only [go_sem, seval]; rfl) ?_))
  refine Wo_call (Wk_kept (now_ok F p ht) fun h2 k2 => ?_)
  refine Wo_op (v := ptr h2.next 0) (h' := h2.new (.cells z5 true 0)) rfl ?_
  refine Wo_store_new (cs := t.cells) (h := h2) (by first | rfl | assumption) (by first | rfl | assumption) rfl rfl fun h3 n3 => Wo_nil ?_
  show Wc T _ _ _
  have hg3 := n3.get
  have k3 := k2.trans n3.kept
  have fin : ∀ (e : Env) (b : Bool), e 4 = .bool b → isB t l = b → (Ex.ret = .normal ∨ Ex.ret = .ret) ∧ some ([] : List Dfr) = some [] ∧ ∃ vs, resAll e h3 [.tmp 4] = some vs ∧ Kept h h3 ∧ Out.ret (tup vs) = .ret (.bool (isB t l)) := fun e b h4 hb => ⟨.inr rfl, rfl, [.bool b], by simp only [resAll, resV, h4], k3, by rw [hb]; rfl⟩
  cases x3 : (t.kind == 3)
  · cases x2 : (t.kind == 2)
    · refine Wc_seq (Wc_ops (Wo_run (fun call => by simp only [go_sem, seval, hg3, Tok.cells, x3, x2]; rfl) ?_))
      exact Wc_ret (fin _ false (by first | rfl | assumption) (by rw [isB, x3, x2]; rfl))
    · refine Wc_seq (Wc_ops (Wo_pre 12 (fun call => by simp only [go_sem, seval, hg3, Tok.cells, x3, x2]; rfl) ?_))
      refine Wo_take (by simp only [upd, dstUpd, reduceIte, Nat.reduceEqDiff, gval_bool]; rfl) (Wo_call (Wk_pure (contains_ok F.contains F.index (hv.keep k3) (by omega)) ?_))
      refine (Wo_run (fun call => by simp only [go_sem, seval]; rfl) ?_)
      exact Wc_ret (fin _ (hasL l t.text) (by first | rfl | assumption) (by rw [isB, x3, x2]; rfl))
  · refine Wc_seq (Wc_ops (Wo_pre 12 (fun call => by simp only [go_sem, seval, hg3, Tok.cells, x3]; rfl) ?_))
    refine Wo_take (by simp only [upd, dstUpd, reduceIte, Nat.reduceEqDiff, gval_bool]; rfl) (Wo_call (Wk_pure (contains_ok F.contains F.index (hv.keep k3) (by omega)) ?_))
    refine (Wo_run (fun call => by simp only [go_sem, seval]; rfl) ?_)
    exact Wc_ret (fin _ (hasL l t.text) (by first | rfl | assumption) (by rw [isB, x3]; rfl))
end Go.Idl
end

section
namespace Go.Idl
variable {T : Tbl} {X : Nat → Prop}
theorem Par.other {pb : Nat} {ts : List Tok} {h : Heap} {st : PSt} (p : Par pb ts X h st) {b : Nat} {cs : List Value} (hb : b ≠ pb) (hg : h.get b = some (.cells cs true 0)) (o : Blk) : Par pb ts X (h.set b o) st := by
  obtain ⟨tv, lv, nds, h1, h2, h3, h4, h5⟩ := p.rep
  have other : ∀ (w : Nat) (k : Nat) (cs : List Value), w ≠ 0 → h.get k = some (.cells cs true w) → (h.set b o).get k = h.get k := fun w k cs hw hk => set_get_ne' _ _ (fun e => by
    subst e; rw [hg] at hk; simp only [Option.some.injEq, Blk.cells.injEq] at hk; exact hw hk.2.2.symm)
  refine ⟨p.lt, p.few, tv, lv, nds, by rw [set_get_ne' _ _ (Ne.symm hb)]; exact h1, ?_, ?_, fun x hx => ?_, h5⟩
  · rcases h2 with h2 | ⟨k, e1, e2, e3, e4⟩
    · exact .inl h2
    · exact .inr ⟨k, e1, e2, e3, by rw [other 5 k _ (by decide) e4]; exact e4⟩
  · rcases h3 with h3 | ⟨k, e1, e2, e3, e4⟩
    · exact .inl h3
    · exact .inr ⟨k, e1, e2, e3, by rw [other 4 k _ (by decide) e4]; exact e4⟩
  · rcases h4 x hx with k | ⟨k, c, e1, e2, e3, e4⟩
    · exact .inl k
    · exact .inr ⟨k, c, e1, e2, by rw [other 1 k _ (by decide) e3]; exact e3, e4⟩
theorem pstr (s : ByteArray) {h h1 : Heap} (n1 : New1 h h1 (.cells [.string s] true 1)) : strsAt h1 (.slice (some ⟨h.next, 0, none⟩) 1 1) [s] :=
  ⟨.inr ⟨h.next, 1, rfl, by rw [n1.next]; exact Nat.lt_succ_self _, .inr ⟨true, 1, n1.get⟩⟩, fun _ _ => trivial⟩
theorem take_ok (F : Par1 T) {pb : Nat} {ts : List Tok} {h : Heap} {st st' : PSt} {s : ByteArray} {b : Bool} (p : Par pb ts X h st) (hs : takeS ts s st = some (b, st')) : Wk T (.fn 37) [ptr pb 0, .string s] h (fun o h' => PFr pb h h' ∧ Par pb ts X h' st' ∧ o = .ret (.bool b)) := by
  rw [takeS] at hs
  obtain ⟨t, ht, hs⟩ := Option.map_eq_some_iff.1 hs
  have hi := (List.getElem?_eq_some_iff.1 ht).1
  have hfew := p.few
  refine Wk_fn F.take (by simp [C37]) ?_
  simp only [C37]
  refine Wc_seq (Wc_ops (Wo_run (fun call => by simp only [go_sem, seval]; rfl) ?_))
  show Wc T _ _ _
  refine Wc_seq (Wc_ops (Wo_pre 2 (fun call => by simp only [go_sem, seval]; rfl) ?_))
  refine Wo_new (v := .slice (some ⟨h.next, 0, none⟩) 1 1) (B := .cells [.string s] true 1) (by rfl) fun h1 n1 => ?_
  refine Wo_call (Wk_kept (is_ok F (p.keep n1.kept) ht (pstr s n1) (by simp)) fun h2 k2 => ?_)
  refine (Wo_run (fun call => by simp only [go_sem, seval]; rfl) ?_)
  show Wc T _ _ _
  have k12 := n1.kept.trans k2
  have p2 := p.keep k12
  obtain ⟨tv, lv, nds, hg, _⟩ := p2.rep
  have hw : IntKind.i64.wrap (((st.i : Nat) : Int) + 1) = ((st.i + 1 : Nat) : Int) := by rw [wrap64] <;> omega
  cases hb : isB t [s]
  · rw [hb] at hs
    cases hs
    refine Wc_seq (Wc_seq (Wc_ops (Wo_run (fun call => by simp only [go_sem, seval, hb]; rfl) ?_)))
    show Wc T _ _ _
    refine Wc_cond false (by first | rfl | assumption) (fun e => by cases e) (fun _ => Wc_skip ?_)
    show Wc T _ _ _
    refine Wc_seq (Wc_ops (Wo_run (fun call => by simp only [go_sem, seval]; rfl) ?_))
    exact Wc_ret ⟨.inr rfl, rfl, [.bool false], by simp only [resAll, resV, upd, dstUpd, reduceIte, Nat.reduceEqDiff], k12.pfr pb, p2, rfl⟩
  · rw [hb] at hs
    cases hs
    have go := p2.go (i := st.i + 1) hg
    refine Wc_seq (Wc_seq (Wc_ops (Wo_run (fun call => by simp only [go_sem, seval, hb]; rfl) ?_)))
    show Wc T _ _ _
    refine Wc_cond true (by first | rfl | assumption) (fun _ => ?_) (fun e => by cases e)
    refine Wc_ops (Wo_pre 7 (fun call => by simp only [go_sem, seval, hg, hw]; rfl) ?_)
    refine Wo_op (iop_store_at (k := 1) (v := .int .i64 ((st.i + 1 : Nat) : Int)) (by first | rfl | assumption) (by simp only [ev, upd, dstUpd, reduceIte, Nat.reduceEqDiff]; rfl) hg (by simp)) (Wo_nil ?_)
    show Wc T _ _ _
    refine Wc_seq (Wc_ops (Wo_run (fun call => by simp only [go_sem, seval]; rfl) ?_))
    exact Wc_ret ⟨.inr rfl, rfl, [.bool true], by simp only [resAll, resV, upd, dstUpd, reduceIte, Nat.reduceEqDiff], (k12.pfr pb).trans go.2, go.1, rfl⟩
theorem want_ok (F : Par1 T) {pb : Nat} {ts : List Tok} {h : Heap} {st : PSt} {s : ByteArray} {r : PR Unit} (p : Par pb ts X h st) (hs : wantS ts s st = some r) : Wk T (.fn 39) [ptr pb 0, .string s] h (fun o h' => PPost pb ts X h (fun _ => .ret (tup [])) r o h') := by
  rw [wantS] at hs
  obtain ⟨t, ht, hs⟩ := Option.map_eq_some_iff.1 hs
  have htake : takeS ts s st = some (if isB t [s] then (true, { st with i := st.i + 1 }) else (false, st)) := by rw [takeS, ht]; rfl
  refine Wk_fn2 F.want (by simp [C39]) ?_
  simp only [C39]
  refine Wc_seq (Wc_ops (Wo_pre 2 (fun call => by simp only [go_sem, seval]; rfl) ?_))
  cases hb : isB t [s]
  · rw [hb] at htake hs
    refine Wo_call ((take_ok F p htake).mono ?_)
    rintro o h2 ⟨f2, p2, rfl⟩
    show Wo T _ _ _
    refine (Wo_run (fun call => by simp only [go_sem, seval]; rfl) ?_)
    show Wc T _ _ _
    refine Wc_cond true (by first | rfl | assumption) (fun _ => ?_) (fun e => by cases e)
    refine Wc_ops (Wo_pre 1 (fun call => by simp only [go_sem, seval]; rfl) ?_)
    refine Wo_call ((fail_ok F p2 ht).mono ?_)
    rintro o h3 ⟨k3, rfl⟩
    show To _ _ _
    subst hs
    exact ⟨rfl, f2.trans (k3.pfr pb), rfl⟩
  · rw [hb] at htake hs
    refine Wo_call ((take_ok F p htake).mono ?_)
    rintro o h2 ⟨f2, p2, rfl⟩
    show Wo T _ _ _
    refine (Wo_run (fun call => by simp only [go_sem, seval]; rfl) ?_)
    show Wc T _ _ _
    refine Wc_cond false (by first | rfl | assumption) (fun e => by cases e) (fun _ => Wc_skip ?_)
    subst hs
    exact ⟨rfl, [], rfl, f2, rfl, p2⟩
theorem name_ok (F : Par1 T) {pb : Nat} {ts : List Tok} {h : Heap} {st : PSt} {r : PR Tok} (p : Par pb ts X h st) (hs : nameS ts st = some r) : Wk T (.fn 38) [ptr pb 0] h (fun o h' => PPost pb ts X h (fun t => .ret (.agg t.cells.toArray)) r o h') := by
  rw [nameS] at hs
  obtain ⟨t, ht, hs⟩ := Option.map_eq_some_iff.1 hs
  have hi := (List.getElem?_eq_some_iff.1 ht).1
  have hfew := p.few
  refine Wk_fn2 F.name (by simp [C38]) ?_
  simp only [C38]
  refine Wc_seq (Wc_ops (Wo_alloc fun h1 n1 => Wo_nil ?_))
  show Wc T _ _ _
  have p1 := p.keep n1.kept
  refine Wc_seq (Wc_ops (Wo_pre 1 (fun call => by simp only [go_sem, seval]; rfl) ?_))
  refine Wo_call (Wk_kept (now_ok F p1 ht) fun h2 k2 => ?_)
  refine Wo_op (v := ptr h2.next 0) (h' := h2.new (.cells z5 true 0)) rfl ?_
  refine Wo_store_new (cs := t.cells) (h := h2) (by first | rfl | assumption) (by first | rfl | assumption) rfl rfl fun h3 n3 => Wo_nil ?_
  show Wc T _ _ _
  have hg3 := n3.get
  have k13 := k2.trans n3.kept
  have p3 := p1.keep k13
  have hres3 : h3.get h.next = some (.cells z5 true 0) := by rw [k13.get _ (by rw [n1.next]; exact Nat.lt_succ_self _)]; exact n1.get
  have hne : h.next ≠ pb := by have := p.lt; omega
  by_cases hk : t.kind = 1
  case neg =>
    have hb : (t.kind != 1) = true := by simp [hk]
    rw [if_neg hk] at hs
    subst hs
    refine Wc_seq (Wc_seq (Wc_ops (Wo_run (fun call => by simp only [go_sem, seval, hg3, Tok.cells, hb]; rfl) ?_)))
    show Wc T _ _ _
    refine Wc_cond true (by first | rfl | assumption) (fun _ => ?_) (fun e => by cases e)
    refine Wc_ops (Wo_pre 1 (fun call => by simp only [go_sem, seval]; rfl) ?_)
    refine Wo_call ((fail_ok F p3 ht).mono ?_)
    rintro o h4 ⟨k4, rfl⟩
    show To _ _ _
    exact ⟨rfl, ((n1.kept.trans k13).trans k4).pfr pb, rfl⟩
  have hb : (t.kind != 1) = false := by simp [hk]
  rw [if_pos hk] at hs
  subst hs
  obtain ⟨tv, lv, nds, hg, _⟩ := p3.rep
  have hw : IntKind.i64.wrap (((st.i : Nat) : Int) + 1) = ((st.i + 1 : Nat) : Int) := by rw [wrap64] <;> omega
  have go := p3.go (i := st.i + 1) hg
  refine Wc_seq (Wc_seq (Wc_ops (Wo_run (fun call => by simp only [go_sem, seval, hg3, Tok.cells, hb]; rfl) ?_)))
  show Wc T _ _ _
  refine Wc_cond false (by first | rfl | assumption) (fun e => by cases e) (fun _ => Wc_skip ?_)
  show Wc T _ _ _
  refine Wc_seq (Wc_ops (Wo_pre 7 (fun call => by simp only [go_sem, seval, hg, hw]; rfl) ?_))
  refine Wo_op (iop_store_at (k := 1) (v := .int .i64 ((st.i + 1 : Nat) : Int)) (by first | rfl | assumption) (by simp only [ev, upd, dstUpd, reduceIte, Nat.reduceEqDiff]; rfl) hg (by simp)) (Wo_nil ?_)
  show Wc T _ _ _
  have hpb : pb < h2.next := by have := k2.next; have := p1.lt; omega
  have hset : ([tv, Value.int .i64 st.i, lv].set 1 (.int .i64 ((st.i + 1 : Nat) : Int))) = [tv, .int .i64 ((st.i + 1 : Nat) : Int), lv] := rfl
  rw [hset]
  obtain ⟨pgo, fgo⟩ := go
  have hres4 : (h3.set pb (.cells [tv, .int .i64 ((st.i + 1 : Nat) : Int), lv] true 0)).get h.next = some (.cells z5 true 0) := by rw [set_get_ne' _ _ hne]; exact hres3
  have hct : (h3.set pb (.cells [tv, .int .i64 ((st.i + 1 : Nat) : Int), lv] true 0)).cells h2.next 0 5 = some t.cells := cells_all (by rw [set_get_ne' _ _ (by omega)]; exact hg3) rfl
  generalize h3.set pb (.cells [tv, .int .i64 ((st.i + 1 : Nat) : Int), lv] true 0) = h4 at pgo fgo hres4 hct ⊢
  refine Wc_seq (Wc_ops (Wo_pre 1 (fun call => by simp only [go_sem, seval, hct]; rfl) ?_))
  refine Wo_op (iop_store (b := h.next) (esz := 0) (cs := t.cells) (z := z5) (by first | rfl | assumption) (by first | rfl | assumption) rfl hres4 rfl) (Wo_nil ?_)
  have hcc : (h4.set h.next (.cells t.cells true 0)).cells h.next 0 5 = some t.cells := cells_all (set_get' _ _ _) rfl
  have hfr : PFr pb h (h4.set h.next (.cells t.cells true 0)) := by
    have f4 : PFr pb h h4 := ((n1.kept.trans k13).pfr pb).trans fgo
    exact ⟨f4.next, fun b hb hp hn => by rw [set_get_ne' _ _ (by omega)]; exact f4.get' b hb hp hn⟩
  exact Wc_ret ⟨rfl, [.agg t.cells.toArray], by simp only [resAll, resV, upd, dstUpd, reduceIte, Nat.reduceEqDiff, ptr, hcc, Option.map_some], hfr, rfl, pgo.other hne hres4 _⟩
end Go.Idl
end
