/- ParseGood: for every description the law's call answers true and leaves its argument as it was; the package-level tables that strconv.FormatInt reads are tied to the program's text. -/
import Derived.Test.YtmnhbineiecfoaaGreatDoorP24
import Derived.Test.YtmnhbineiecfoaaGreatDoorI29
import Derived.Test.YtmnhbineiecfoaaGreatDoorO4
import Derived.Lib.ItoaNum
import Derived.KernelRfl
import Derived.Test.YtmnhbineiecfoaaGreatDoorI3f
import Derived.Test.YtmnhbineiecfoaaGreatDoorP3
import Derived.Shelf.LaysM
import Derived.Shelf.Strings.Search1
import Derived.Shelf.Strings.Search2
import Derived.Shelf.Strings.Search3
import Derived.Shelf.Strings.Shaped
import Derived.Shelf.Strconv.Itoa4
import Derived.Test.YtmnhbineiecfoaaGreatDoorProg
import Derived.Test.YtmnhbineiecfoaaGreatDoorChecked
import Derived.Test.YtmnhbineiecfoaaGreatDoorCards
import Derived.Test.YtmnhbineiecfoaaGreatDoorTie
import Derived.WalkKit
import Derived.ProofKit
import Derived.OpenShut
import Derived.Deep.DeepHandedRow
import Derived.Lib.LaidTab
import Derived.Stop.LaidErr
set_option linter.unusedVariables false
set_option linter.unusedSimpArgs false
set_option maxRecDepth 100000
section
namespace Go.Idl
variable {T : Tbl}
def wrongV (n : Nat) (k : Int) : Value := .iface 36 (.agg #[.int .i64 n, .int .i64 k])
def nilC : Blk := .cells [.slice none 0 0] true 0
def iC (k : Int) : Blk := .cells [.int .i64 k] true 0
theorem deferP_none {args : List Value} {h : Heap} {Q : Ex → Option Value → St → Prop} (k : ∀ e, Q .normal none ⟨e, h, some []⟩) : WcD T C8.code none ⟨args0 args, h, some []⟩ Q := by
  simp only [C8]
  refine WcD_seq (WcD_rec rfl rfl ?_)
  show WcD T _ _ _ _
  refine WcD_seq (WcD_ops rfl (Wc_ops (Wo_run (fun call => by simp only [go_sem, seval]; rfl) ?_)))
  show WcD T _ _ _ _
  refine WcD_cond false (by simp [ev, upd, dstUpd]) (fun h => by cases h) (fun _ => WcD_skip (k _))
theorem deferP_some {h : Heap} {n : Nat} {k : Int} {a b c : Nat} {x y z : Value} {Q : Ex → Option Value → St → Prop} (ha : h.get a = some (.cells [x] true 0)) (hb : h.get b = some (.cells [y] true 0)) (hc : h.get c = some (.cells [z] true 0)) (hab : a ≠ b) (hac : a ≠ c) (hbc : b ≠ c) (la : a < h.next) (lb : b < h.next) (lc : c < h.next)
    (q : ∀ e h', (∀ d, d < h.next → d ≠ a → d ≠ b → d ≠ c → h'.get d = h.get d) → h.next ≤ h'.next → h'.get a = some nilC → h'.get b = some (iC n) → h'.get c = some (iC k) → Q .normal none ⟨e, h', some []⟩) :
    WcD T C8.code (some (wrongV n k)) ⟨args0 [ptr a 0, ptr b 0, ptr c 0], h, some []⟩ Q := by
  simp only [C8]
  refine WcD_seq (WcD_rec rfl rfl ?_)
  show WcD T _ _ _ _
  refine WcD_seq (WcD_ops rfl (Wc_ops (Wo_run (fun call => by simp only [go_sem, seval, wrongV]; rfl) ?_)))
  show WcD T _ _ _ _
  refine WcD_cond true (by simp [ev, upd, dstUpd]) (fun _ => ?_) (fun h => by cases h)
  refine WcD_seq (WcD_ops rfl (Wc_ops (Wo_pre 6 (fun call => by simp only [go_sem, seval]; rfl) ?_)))
  refine Wo_op (iop_store (b := h.next) (esz := 0) (cs := [.int .i64 n, .int .i64 k]) (z := [.int .i64 0, .int .i64 0]) (by simp only [upd, dstUpd, reduceIte, Nat.reduceEqDiff, ptr]) (by simp only [upd, dstUpd, reduceIte, Nat.reduceEqDiff]) rfl (new_get' _ _) rfl) ?_
  have hg0 : ∀ d, d < h.next → ((h.new (.cells [.int .i64 0, .int .i64 0] true 0)).set h.next (.cells [.int .i64 n, .int .i64 k] true 0)).get d = h.get d := by
    intro d hd
    rw [set_get_ne' _ _ (by omega), new_get_ne' _ _ (by omega)]
  have hn0 : ((h.new (.cells [.int .i64 0, .int .i64 0] true 0)).set h.next (.cells [.int .i64 n, .int .i64 k] true 0)).next = h.next + 1 := rfl
  have hgm : ((h.new (.cells [.int .i64 0, .int .i64 0] true 0)).set h.next (.cells [.int .i64 n, .int .i64 k] true 0)).get h.next = some (.cells [.int .i64 n, .int .i64 k] true 0) := set_get' _ _ _
  generalize (h.new (.cells [.int .i64 0, .int .i64 0] true 0)).set h.next (.cells [.int .i64 n, .int .i64 k] true 0) = h1 at hg0 hn0 hgm ⊢
  refine (Wo_run (fun call => by simp only [go_sem, seval]; rfl) ?_)
  show WcD T _ _ _ _
  refine WcD_seq (WcD_seq (WcD_ops rfl (Wc_ops (Wo_run (fun call => by simp only [go_sem, seval]; rfl) ?_))))
  show WcD T _ _ _ _
  refine WcD_cond false (by simp [ev, upd, dstUpd]) (fun h => by cases h) (fun _ => WcD_skip ?_)
  show WcD T _ _ _ _
  refine WcD_draw (Wc_draw ?_)
  refine Wd_P rfl (by simp only [iop, ev, upd, dstUpd, ptr, Nat.reduceEqDiff, reduceIte]; rfl) ?_
  refine Wd_R rfl (v := .int .i64 n) (h' := h1) (by simp only [iop, ev, upd, dstUpd, ptr, Nat.reduceEqDiff, reduceIte, Heap.cell, hgm]; rfl) (by intro p hp; cases hp) ?_
  refine Wd_P rfl (by simp only [iop, ev, upd, dstUpd, ptr, Nat.reduceEqDiff, reduceIte]; rfl) ?_
  refine Wd_R rfl (v := .int .i64 k) (h' := h1) (by simp only [iop, ev, upd, dstUpd, ptr, Nat.reduceEqDiff, reduceIte, Heap.cell, hgm]; rfl) (by intro p hp; cases hp) ?_
  have hL1 : ∀ e : Env, e 17 = ptr h.next 0 → locOp (.load none (.t 17)) e = .cells h.next 0 1 := fun e he => by simp only [locOp, ev, he, ptr]
  have hL2 : ∀ e : Env, e 19 = ptr h.next 1 → locOp (.load none (.t 19)) e = .cells h.next 1 1 := fun e he => by simp only [locOp, ev, he, ptr]
  rw [hL1 _ (by simp only [upd, dstUpd, reduceIte, Nat.reduceEqDiff, ptr]), hL2 _ (by simp only [upd, dstUpd, reduceIte, Nat.reduceEqDiff, ptr])]
  have side : ∀ (hh : Heap) (d i : Nat) (bk : Blk), d < h.next → ∀ p ∈ [(3, Loc.cells h.next 1 1), (1, Loc.cells h.next 0 1)], p.1 ∈ ([[], [0], [], [2], [], [4, 1, 0], [5, 4, 1, 0, 3, 2]] : List (List Nat)).getD i [] ∨ sameAt hh (hh.set d bk) p.2 := by
    intro hh d i bk hd p hp
    rcases List.mem_cons.1 hp with rfl | hp
    · exact .inr (sameAt_cells (by omega))
    · rw [List.mem_singleton] at hp; subst hp; exact .inr (sameAt_cells (by omega))
  refine Wd_E rfl (iop_store1 (b := a) (esz := 0) (v := .slice none 0 0) (x := x) (by simp only [upd, dstUpd, reduceIte, Nat.reduceEqDiff, args0]; rfl) (by simp only [upd, dstUpd, reduceIte, Nat.reduceEqDiff, ev, cellsOf]) (by rw [hg0 _ la]; exact ha)) (side _ _ 4 _ la) ?_
  refine Wd_E rfl (iop_store1 (b := b) (esz := 0) (v := .int .i64 n) (x := y) (by simp only [upd, dstUpd, reduceIte, Nat.reduceEqDiff, args0]; rfl) (by simp only [upd, dstUpd, reduceIte, Nat.reduceEqDiff, ev, cellsOf]) (by rw [set_get_ne' _ _ hab.symm, hg0 _ lb]; exact hb)) (side _ _ 5 _ lb) ?_
  refine Wd_E rfl (iop_store1 (b := c) (esz := 0) (v := .int .i64 k) (x := z) (by simp only [upd, dstUpd, reduceIte, Nat.reduceEqDiff, args0]; rfl) (by simp only [upd, dstUpd, reduceIte, Nat.reduceEqDiff, ev, cellsOf]) (by rw [set_get_ne' _ _ hbc.symm, set_get_ne' _ _ hac.symm, hg0 _ lc]; exact hc)) (side _ _ 6 _ lc) ?_
  refine Wd_nil ?_
  refine q _ _ (fun d hd d1 d2 d3 => ?_) ?_ ?_ ?_ ?_
  · rw [set_get_ne' _ _ d3, set_get_ne' _ _ d2, set_get_ne' _ _ d1, hg0 _ hd]
  · show h.next ≤ h1.next; omega
  · rw [set_get_ne' _ _ hac, set_get_ne' _ _ hab, set_get']; rfl
  · rw [set_get_ne' _ _ hbc, set_get']; rfl
  · rw [set_get']; rfl
def ProgPost (h : Heap) : PO → Out → Heap → Prop
  | .ok l, o, h' => Kept h h' ∧ ∃ v nds, o = .ret (.tuple #[v, .int .i64 0, .int .i64 0]) ∧ ownL Nd.cells 4 h.next h' v nds ∧ (∀ x ∈ nds, kidsAt (fun _ => False) h' x.kv x.kids) ∧ nds.map Nd.pn = l
  | .err a e, o, h' => Kept h h' ∧ o = .ret (.tuple #[.slice none 0 0, .int .i64 a, .int .i64 e])
theorem Program_ok (F : ProgFns T) (hT : T.fn 5 = some C5) (hD : T.fn 8 = some C8) {num : Int → ByteArray} {f : Nat} {s : ByteArray} {h : Heap} {r : PO} (hnum : ∀ t ∈ (scanS s).1, ∀ (h : Heap) (K : Out → Heap → Prop), K (.ret (.string (num t.num))) h → Wk T (.fn 82) [.int .i64 t.num, .int .i64 10] h K) (hsz : s.size < 4611686018427387904) (hs : progS num f s = some r) :
    Wk T (.fn 5) [.string s] h (ProgPost h r) := by
  refine Wk_fnL hT (by simp [C5]) ?_
  simp only [C5]
  refine Wc_seq (Wc_ops (Wo_run (fun call => by simp only [go_sem, seval]; rfl) ?_))
  show Wc T _ _ _
  have hk : Kept h (((h.new nilC).new (iC 0)).new (iC 0)) := ((((Kept.refl h).new _).new _).new _)
  have hn : (((h.new nilC).new (iC 0)).new (iC 0)).next = h.next + 3 := rfl
  have hg1 : (((h.new nilC).new (iC 0)).new (iC 0)).get h.next = some nilC := by
    rw [new_get_ne' _ _ (by simp only [new_next]; omega), new_get_ne' _ _ (by simp only [new_next]; omega)]; exact new_get' _ _
  have hg2 : (((h.new nilC).new (iC 0)).new (iC 0)).get (h.next + 1) = some (iC 0) := by
    rw [new_get_ne' _ _ (by simp only [new_next]; omega)]; exact new_get' _ _
  have hg3 : (((h.new nilC).new (iC 0)).new (iC 0)).get (h.next + 2) = some (iC 0) := new_get' _ _
  show Wc T _ ⟨_, (((h.new nilC).new (iC 0)).new (iC 0)), _⟩ _
  generalize hh1 : ((h.new nilC).new (iC 0)).new (iC 0) = h1 at hk hn hg1 hg2 hg3 ⊢
  refine Wc_seq (Wc_ops (Wo_op rfl (Wo_defer (f := 8) (vs := [ptr h.next 0, ptr (h.next + 1) 0, ptr (h.next + 2) 0]) (by simp only [ev, upd, dstUpd, reduceIte]; rfl) (Wo_nil ?_))))
  show Wc T _ _ _
  refine Wc_seq (Wc_ops (Wo_pre 1 (fun call => by simp only [go_sem, seval]; rfl) ?_))
  refine Wo_call ((program_ok F hnum hsz hs).mono ?_)
  cases r with
  | err a er =>
    rintro o h3 ⟨k3, rfl⟩
    have o1 : h3.get h.next = some nilC := by rw [k3.get _ (by omega)]; exact hg1
    have o2 : h3.get (h.next + 1) = some (iC 0) := by rw [k3.get _ (by omega)]; exact hg2
    have o3 : h3.get (h.next + 2) = some (iC 0) := by rw [k3.get _ (by omega)]; exact hg3
    have n3 := k3.next
    show Lv T _ (some _) _ _
    refine Lv_one (g := 8) (args := [ptr h.next 0, ptr (h.next + 1) 0, ptr (h.next + 2) 0]) rfl hD (by simp [C8]) (deferP_some (n := a) (k := er) o1 o2 o3 (by omega) (by omega) (by omega) (by show _ < h3.next; omega) (by show _ < h3.next; omega) (by show _ < h3.next; omega) fun e h4 hsame hn4 q1 q2 q3 => ?_)
    refine ⟨.inl rfl, rfl, ⟨[], rfl⟩, [.slice none 0 0, .int .i64 a, .int .i64 er], ?_, ?_, rfl⟩
    · simp only [resAllP, resVP, resV, upd, dstUpd, Nat.reduceEqDiff, reduceIte, ptr, Heap.cell, new_next, Nat.add_assoc, Nat.reduceAdd, q1, q2, q3, nilC, iC]
      rfl
    · have k13 := hk.trans k3
      exact ⟨by show h.next ≤ h4.next; have := k13.next; have : h3.next ≤ h4.next := hn4; omega, fun b hb => by rw [hsame b (by show b < h3.next; omega) (by omega) (by omega) (by omega)]; exact k13.get b hb⟩
  | ok l =>
    rintro o h3 ⟨k3, v, nds, rfl, hnd, hkd, hmap⟩
    have o1 : h3.get h.next = some nilC := by rw [k3.get _ (by omega)]; exact hg1
    have o2 : h3.get (h.next + 1) = some (iC 0) := by rw [k3.get _ (by omega)]; exact hg2
    have o3 : h3.get (h.next + 2) = some (iC 0) := by rw [k3.get _ (by omega)]; exact hg3
    have n3 := k3.next
    obtain ⟨va, vc, hvl⟩ := hnd.len
    have hcell : cellsOf v = some [v] := by rw [hvl]; rfl
    show Wo T _ _ _
    refine Wo_op (iop_store1 (b := h.next) (esz := 0) (v := v) (x := .slice none 0 0) (by simp only [upd, dstUpd, reduceIte, Nat.reduceEqDiff]; rfl) (by simp only [upd, dstUpd, reduceIte, Nat.reduceEqDiff, ev]; exact hcell) o1) (Wo_op (iop_store1 (b := h.next + 1) (esz := 0) (v := .int .i64 0) (x := .int .i64 0) (by simp only [upd, dstUpd, reduceIte, Nat.reduceEqDiff]; rfl) rfl (by rw [set_get_ne' _ _ (by omega)]; exact o2)) (Wo_op (iop_store1 (b := h.next + 2) (esz := 0) (v := .int .i64 0) (x := .int .i64 0) (by simp only [upd, dstUpd, reduceIte, Nat.reduceEqDiff]; rfl) rfl (by rw [set_get_ne' _ _ (by omega), set_get_ne' _ _ (by omega)]; exact o3)) (Wo_nil ?_)))
    show Wc T _ _ _
    refine Wc_ret ?_
    show Lv T _ none ⟨_, (((h3.set h.next (.cells [v] true 0)).set (h.next + 1) (iC 0)).set (h.next + 2) (iC 0)), _⟩ _
    have q1 : (((h3.set h.next (.cells [v] true 0)).set (h.next + 1) (iC 0)).set (h.next + 2) (iC 0)).get h.next = some (.cells [v] true 0) := by rw [set_get_ne' _ _ (by omega), set_get_ne' _ _ (by omega), set_get']
    have q2 : (((h3.set h.next (.cells [v] true 0)).set (h.next + 1) (iC 0)).set (h.next + 2) (iC 0)).get (h.next + 1) = some (iC 0) := by rw [set_get_ne' _ _ (by omega), set_get']
    have q3 : (((h3.set h.next (.cells [v] true 0)).set (h.next + 1) (iC 0)).set (h.next + 2) (iC 0)).get (h.next + 2) = some (iC 0) := by rw [set_get']
    have hk4 : Kept h (((h3.set h.next (.cells [v] true 0)).set (h.next + 1) (iC 0)).set (h.next + 2) (iC 0)) := (((hk.trans k3).set (by omega) _).set (by omega) _).set (by omega) _
    have hoth : ∀ (w : Nat) (b : Nat) (cs : List Value), w ≠ 0 → h3.get b = some (.cells cs true w) → (((h3.set h.next (.cells [v] true 0)).set (h.next + 1) (iC 0)).set (h.next + 2) (iC 0)).get b = some (.cells cs true w) := fun w b cs hw hb => by
      have ne : ∀ c cs', h3.get c = some (.cells cs' true 0) → b ≠ c := fun c cs' hc e => by
        subst e; rw [hb] at hc; simp only [Option.some.injEq, Blk.cells.injEq] at hc; exact hw hc.2.2
      rw [set_get_ne' _ _ (ne _ _ o3), set_get_ne' _ _ (ne _ _ o2), set_get_ne' _ _ (ne _ _ o1)]; exact hb
    have hnx : (((h3.set h.next (.cells [v] true 0)).set (h.next + 1) (iC 0)).set (h.next + 2) (iC 0)).next = h3.next := rfl
    generalize ((h3.set h.next (.cells [v] true 0)).set (h.next + 1) (iC 0)).set (h.next + 2) (iC 0) = h4 at hk4 q1 q2 q3 hoth hnx ⊢
    have hnd4 : ownL Nd.cells 4 h.next h4 v nds := by
      rcases hnd with e | ⟨b, e1, e2, e3, e4⟩
      · exact .inl e
      · exact .inr ⟨b, by omega, by omega, e3, hoth 4 b _ (by decide) e4⟩
    have hkd4 : ∀ x ∈ nds, kidsAt (fun _ => False) h4 x.kv x.kids := fun x hx => by
      rcases hkd x hx with e | ⟨b, c, e1, e2, e3, e4⟩
      · exact .inl e
      · exact .inr ⟨b, c, e1, by omega, hoth 1 b _ (by decide) e3, e4⟩
    refine Lv_one (g := 8) (args := [ptr h.next 0, ptr (h.next + 1) 0, ptr (h.next + 2) 0]) rfl hD (by simp [C8]) (deferP_none fun e => ?_)
    refine ⟨.inl rfl, rfl, ⟨[], rfl⟩, [v, .int .i64 0, .int .i64 0], ?_, hk4, v, nds, rfl, hnd4, hkd4, hmap⟩
    simp only [resAll, resV, upd, dstUpd, Nat.reduceEqDiff, reduceIte, ptr, Heap.cell, new_next, Nat.add_assoc, Nat.reduceAdd, q1, q2, q3, iC]
    rfl
end Go.Idl
end

section
namespace Go.Idl
def namedB (k : Int) : Bool := decide (k = 2 ∨ k = 3 ∨ k = 5 ∨ k = 17 ∨ k = 22 ∨ k = 23 ∨ k = 18 ∨ k = 19)
def stands (s : ByteArray) (a : Nat) (t : ByteArray) : Prop := a + t.size ≤ s.size ∧ ((bs s).drop a).take t.size = bs t
structure NG (s : ByteArray) (ks : List Int) (x : PN) : Prop where
  pos : 0 ≤ x.pos ∧ x.pos ≤ s.size
  kind : 1 ≤ x.kind ∧ x.kind ≤ 30
  text : textB x.kind x.text = true
  shape : shapeB x.kind ks = true
  at' : namedB x.kind = true → stands s x.pos.toNat x.text
  few : x.text.size < 4611686018427387904
inductive Forest (s : ByteArray) : Nat → List PN → List Int → List Int → Prop
  | nil (o : Nat) : Forest s o [] [] []
  | snoc {o : Nat} {l m : List PN} {ks kn ks' kn' : List Int} {x : PN} (a : Forest s o l ks kn) (b : Forest s (o + l.length) m ks' kn') (hk : x.kids = ks') (h1 : x.kind ≠ 1) (g : NG s kn' x) :
    Forest s o (l ++ (m ++ [x])) (ks ++ [((o + l.length + m.length : Nat) : Int)]) (kn ++ [x.kind])
theorem Forest.append {s : ByteArray} {o p : Nat} {l m : List PN} {ks kn ks' kn' : List Int} (a : Forest s o l ks kn) (b : Forest s p m ks' kn') (hp : p = o + l.length) : Forest s o (l ++ m) (ks ++ ks') (kn ++ kn') := by
  induction b with
  | nil => simpa using a
  | @snoc q l2 m2 k2 n2 k3 n3 x c d hk h1 g ih1 ih2 =>
    subst hp
    have e := ih1 rfl
    have d' : Forest s (o + (l ++ l2).length) m2 k3 n3 := by rw [List.length_append, ← Nat.add_assoc]; exact d
    have r := Forest.snoc e d' hk h1 g
    rw [List.length_append, ← Nat.add_assoc] at r
    rw [← List.append_assoc, ← List.append_assoc ks, ← List.append_assoc kn]
    exact r
theorem Forest.one {s : ByteArray} {o : Nat} {m : List PN} {ks kn : List Int} {x : PN} (b : Forest s o m ks kn) (hk : x.kids = ks) (h1 : x.kind ≠ 1) (g : NG s kn x) : Forest s o (m ++ [x]) [((o + m.length : Nat) : Int)] [x.kind] := by
  have := Forest.snoc (.nil o) (l := []) (by simpa using b) hk h1 g
  simpa using this
theorem Forest.len {s : ByteArray} {o : Nat} {l : List PN} {ks kn : List Int} (a : Forest s o l ks kn) : ks.length = kn.length := by
  induction a with
  | nil => rfl
  | snoc a b hk h1 g ih1 ih2 => simp [ih1]
theorem Forest.range {s : ByteArray} {o : Nat} {l : List PN} {ks kn : List Int} (a : Forest s o l ks kn) : ∀ k ∈ ks, ∃ j : Nat, k = ((o + j : Nat) : Int) ∧ j < l.length := by
  induction a with
  | nil => intro k hk; cases hk
  | @snoc o l m ks kn ks' kn' x a b hk h1 g ih1 ih2 =>
    intro k hk'
    rcases List.mem_append.1 hk' with hk' | hk'
    · obtain ⟨j, e1, e2⟩ := ih1 k hk'
      exact ⟨j, e1, by simp; omega⟩
    · rw [List.mem_singleton] at hk'
      exact ⟨l.length + m.length, by rw [hk', Nat.add_assoc], by simp⟩
def kindP (L : List PN) (k : Int) : Int := (L[k.toNat]?.map (·.kind)).getD 0
theorem Forest.kinds {s : ByteArray} {o : Nat} {l L : List PN} {ks kn : List Int} (a : Forest s o l ks kn) (hL : ∀ j x, l[j]? = some x → L[o + j]? = some x) : ks.map (kindP L) = kn := by
  induction a with
  | nil => rfl
  | @snoc o l m ks kn ks' kn' x a b hk h1 g ih1 ih2 =>
    rw [List.map_append, ih1 fun j y hy => hL j y (by rw [List.getElem?_append_left (List.getElem?_eq_some_iff.1 hy).1]; exact hy)]
    congr 1
    have := hL (l.length + m.length) x (by rw [List.getElem?_append_right (by omega), Nat.add_sub_cancel_left, List.getElem?_append_right (by omega), Nat.sub_self]; rfl)
    simp only [List.map_cons, List.map_nil, kindP, Int.toNat_natCast]
    rw [Nat.add_assoc, this]
    rfl
theorem Forest.nodes {s : ByteArray} {o : Nat} {l L : List PN} {ks kn : List Int} (a : Forest s o l ks kn) (hL : ∀ j x, l[j]? = some x → L[o + j]? = some x) : ∀ j x, l[j]? = some x → NG s (x.kids.map (kindP L)) x ∧ (∀ k ∈ x.kids, 0 ≤ k ∧ k < ((o + j : Nat) : Int)) ∧ x.kind ≠ 1 := by
  induction a with
  | nil => intro j x hx; simp at hx
  | @snoc o l m ks kn ks' kn' x a b hk h1 g ih1 ih2 =>
    have hL1 : ∀ j y, l[j]? = some y → L[o + j]? = some y := fun j y hy => hL j y (by rw [List.getElem?_append_left (List.getElem?_eq_some_iff.1 hy).1]; exact hy)
    have hL2 : ∀ j y, m[j]? = some y → L[o + l.length + j]? = some y := fun j y hy => by
      rw [Nat.add_assoc]
      exact hL (l.length + j) y (by rw [List.getElem?_append_right (by omega), Nat.add_sub_cancel_left, List.getElem?_append_left (List.getElem?_eq_some_iff.1 hy).1]; exact hy)
    intro j y hy
    by_cases c1 : j < l.length
    · rw [List.getElem?_append_left c1] at hy
      exact ih1 hL1 j y hy
    · rw [List.getElem?_append_right (by omega)] at hy
      by_cases c2 : j - l.length < m.length
      · rw [List.getElem?_append_left c2] at hy
        obtain ⟨e1, e2, e3⟩ := ih2 hL2 _ y hy
        exact ⟨e1, fun k hk => by have := e2 k hk; omega, e3⟩
      · rw [List.getElem?_append_right (by omega)] at hy
        have hj := (List.getElem?_eq_some_iff.1 hy).1
        rw [List.length_singleton] at hj
        rw [show j - l.length - m.length = 0 by omega] at hy
        simp only [List.getElem?_cons_zero, Option.some.injEq] at hy
        subst hy
        refine ⟨?_, fun k hk' => ?_, h1⟩
        · rw [hk, b.kinds hL2]; exact g
        · rw [hk] at hk'
          obtain ⟨i, rfl, hi⟩ := b.range k hk'
          omega
theorem Forest.perm {s : ByteArray} {o : Nat} {l : List PN} {ks kn : List Int} (a : Forest s o l ks kn) : (l.flatMap (·.kids) ++ ks).Perm ((List.range' o l.length).map Int.ofNat) := by
  induction a with
  | nil => exact .refl _
  | @snoc o l m ks kn ks' kn' x a b hk h1 g ih1 ih2 =>
    have e : (List.range' o (l ++ (m ++ [x])).length).map Int.ofNat = (List.range' o l.length).map Int.ofNat ++ ((List.range' (o + l.length) m.length).map Int.ofNat ++ [((o + l.length + m.length : Nat) : Int)]) := by
      rw [List.length_append, List.length_append, List.length_singleton, List.range'_append_1 .. |>.symm, List.map_append, List.range'_append_1 .. |>.symm, List.map_append]
      rfl
    rw [e, List.flatMap_append, List.flatMap_append, List.flatMap_singleton, hk]
    refine List.Perm.trans ?_ (ih1.append (ih2.append_right _))
    generalize l.flatMap (·.kids) = A
    generalize m.flatMap (·.kids) = B
    simp only [List.append_assoc]
    refine List.Perm.append_left _ ?_
    rw [← List.append_assoc B, ← List.append_assoc B]
    exact List.perm_append_comm_assoc _ _ _
theorem kidsUp_all (l : List Nd) : kidsUp l l.length = (l.map Nd.pn).flatMap (·.kids) := by
  rw [kidsUp, List.take_length, List.flatMap_map]; rfl
theorem kindAt_pn (l : List Nd) (k : Int) : kindAt l k = kindP (l.map Nd.pn) k := by
  rw [kindAt, kindP, List.getElem?_map]
  cases l[k.toNat]? <;> rfl
theorem good_of_forest {s : ByteArray} {l : List PN} {kids kn : List Int} {nds : List Nd} (a : Forest s 0 l kids kn) (hkn : (kn.all fun k => k == 2 || k == 3) = true) (hm : nds.map Nd.pn = l ++ [⟨1, ⟨#[]⟩, kids, 0⟩]) (hlen : nds.length ≤ 50000) (hdeep : deepOf nds ≤ 200) :
    GoodT nds ∧ ∀ x ∈ nds, (0 ≤ x.pos ∧ x.pos ≤ s.size) ∧ (namedB x.kind = true → stands s x.pos.toNat x.text) ∧ x.text.size < 4611686018427387904 := by
  have hL : ∀ j x, l[j]? = some x → (l ++ [⟨1, ⟨#[]⟩, kids, 0⟩])[0 + j]? = some x := fun j x hx => by
    rw [Nat.zero_add, List.getElem?_append_left (List.getElem?_eq_some_iff.1 hx).1]; exact hx
  have hnl : nds.length = l.length + 1 := by have := congrArg List.length hm; simpa using this
  have get : ∀ n x, nds[n]? = some x → (l[n]? = some x.pn ∧ n < l.length) ∨ (n = l.length ∧ x.pn = ⟨1, ⟨#[]⟩, kids, 0⟩) := fun n x hx => by
    have : (nds.map Nd.pn)[n]? = some x.pn := by rw [List.getElem?_map, hx]; rfl
    rw [hm] at this
    by_cases c : n < l.length
    · rw [List.getElem?_append_left c] at this; exact .inl ⟨this, c⟩
    · have hn := (List.getElem?_eq_some_iff.1 this).1
      rw [List.length_append, List.length_singleton] at hn
      have e : n = l.length := by omega
      rw [List.getElem?_append_right (by omega), e, Nat.sub_self, List.getElem?_cons_zero, Option.some.injEq] at this
      exact .inr ⟨e, this.symm⟩
  have hka : ∀ ks : List Int, ks.map (kindAt nds) = ks.map (kindP (l ++ [⟨1, ⟨#[]⟩, kids, 0⟩])) := fun ks => List.map_congr_left fun k _ => by rw [kindAt_pn, hm]
  have hall := a.perm
  have hkids : kidsUp nds nds.length = l.flatMap (·.kids) ++ kids := by rw [kidsUp_all, hm, List.flatMap_append, List.flatMap_singleton]
  have hnodup : (kidsUp nds nds.length).Nodup := by
    rw [hkids]
    refine hall.symm.nodup ?_
    exact List.Pairwise.map _ (fun a b h e => h (Int.ofNat.inj e)) (List.nodup_range' (step := 1))
  refine ⟨⟨hlen, fun n x hx => ?_, hnodup, by omega, fun n x hx => ?_, fun n hn => ?_, hdeep⟩, fun x hx => ?_⟩
  · rcases get n x hx with ⟨h1, h2⟩ | ⟨h1, h2⟩
    · obtain ⟨g, r, _⟩ := a.nodes hL n _ h1
      exact ⟨fun k hk => by have := r k hk; omega, g.pos.1, g.kind, g.text, by rw [hka]; exact g.shape⟩
    · have hk : x.kids = kids := congrArg PN.kids h2
      have hkd : x.kind = 1 := congrArg PN.kind h2
      have hp : x.pos = 0 := congrArg PN.pos h2
      have ht : x.text = ⟨#[]⟩ := congrArg PN.text h2
      refine ⟨fun k hk' => ?_, by omega, by omega, by rw [hkd, ht]; rfl, ?_⟩
      · rw [hk] at hk'
        obtain ⟨j, rfl, hj⟩ := a.range k hk'
        omega
      · rw [hkd, hka, hk, a.kinds hL]; exact hkn
  · rcases get n x hx with ⟨h1, h2⟩ | ⟨h1, h2⟩
    · have := (a.nodes hL n _ h1).2.2
      exact ⟨fun h => absurd h this, fun h => by omega⟩
    · have hkd : x.kind = 1 := congrArg PN.kind h2
      exact ⟨fun _ => by omega, fun _ => hkd⟩
  · rw [hkids]
    refine hall.symm.mem_iff.1 ?_
    exact List.mem_map.2 ⟨n, List.mem_range'_1.2 (by omega), rfl⟩
  · obtain ⟨n, hn⟩ := List.getElem?_of_mem hx
    rcases get n x hn with ⟨h1, h2⟩ | ⟨h1, h2⟩
    · obtain ⟨g, _, _⟩ := a.nodes hL n _ h1
      exact ⟨g.pos, g.at', g.few⟩
    · have hkd : x.kind = 1 := congrArg PN.kind h2
      have hp : x.pos = 0 := congrArg PN.pos h2
      have ht : x.text = ⟨#[]⟩ := congrArg PN.text h2
      refine ⟨by omega, fun h => ?_, by rw [ht]; decide⟩
      rw [hkd] at h; cases h
end Go.Idl
end

section
namespace Go.Idl
structure TokOk (s : ByteArray) (t : Tok) : Prop where
  at' : stands s t.frm t.text
  name : t.kind = 1 → nameB t.text = true
  num : 0 ≤ t.num ∧ t.num ≤ 9223372036854775807
structure TsOk (s : ByteArray) (ts : List Tok) : Prop where
  len : 0 < ts.length ∧ ts.length ≤ 200001
  last : ∀ t, ts[ts.length - 1]? = some t → t.kind = 0
  tok : ∀ t ∈ ts, TokOk s t
  size : s.size < 4611686018427387904
structure St1 (ts : List Tok) (st : PSt) : Prop where
  i : st.i < ts.length
  l : st.l.length ≤ 2 * st.i
def Res {α : Type} (R : α → PSt → Prop) : Option (PR α) → Prop
  | none => False
  | some (.err _ e) => e ≠ 0
  | some (.ok a st) => R a st
theorem Res.mono {α : Type} {R Q : α → PSt → Prop} {x : Option (PR α)} (h : Res R x) (hq : ∀ a st, R a st → Q a st) : Res Q x := by
  cases x with
  | none => exact h
  | some r => cases r with
    | err _ _ => exact h
    | ok a st => exact hq a st h
theorem Res.and {α β : Type} {R : α → PSt → Prop} {Q : β → PSt → Prop} {x : Option (PR α)} {f : α → PSt → Option (PR β)} (h : Res R x) (hf : ∀ a st, R a st → Res Q (f a st)) : Res Q (andS x f) := by
  cases x with
  | none => exact h.elim
  | some r => cases r with
    | err _ _ => exact h
    | ok a st => exact hf a st h
variable {s : ByteArray} {ts : List Tok}
theorem TsOk.go (H : TsOk s ts) {i : Nat} {t : Tok} (ht : ts[i]? = some t) (hk : t.kind ≠ 0) : i + 1 < ts.length := by
  have hi := (List.getElem?_eq_some_iff.1 ht).1
  rcases Nat.lt_or_ge (i + 1) ts.length with h | h
  · exact h
  · have : i = ts.length - 1 := by omega
    rw [this] at ht
    exact absurd (H.last t ht) hk
theorem TsOk.get (H : TsOk s ts) {i : Nat} (hi : i < ts.length) : ∃ t, ts[i]? = some t ∧ TokOk s t := ⟨_, List.getElem?_eq_getElem hi, H.tok _ (List.getElem_mem hi)⟩
theorem isB_kind {t : Tok} {l : List ByteArray} (h : isB t l = true) : t.kind ≠ 0 ∧ hasL l t.text = true := by
  simp only [isB, Bool.and_eq_true, Bool.or_eq_true, beq_iff_eq] at h
  exact ⟨by omega, h.2⟩
structure Adv (ts : List Tok) (st st' : PSt) : Prop where
  i : st'.i < ts.length
  go : st.i < st'.i
  l : st'.l.length + 2 * st.i ≤ st.l.length + 2 * st'.i
theorem take_res (H : TsOk s ts) {st : PSt} (w : ByteArray) (hi : st.i < ts.length) : takeS ts w st = some (false, st) ∨ (takeS ts w st = some (true, { st with i := st.i + 1 }) ∧ st.i + 1 < ts.length) := by
  obtain ⟨t, ht, _⟩ := H.get hi
  rw [takeS, ht, Option.map_some]
  cases hb : isB t [w] with
  | false => exact .inl rfl
  | true => exact .inr ⟨rfl, H.go ht (isB_kind hb).1⟩
theorem want_res (H : TsOk s ts) {st : PSt} (w : ByteArray) (hi : st.i < ts.length) : Res (fun _ st' => st' = { st with i := st.i + 1 } ∧ st.i + 1 < ts.length) (wantS ts w st) := by
  obtain ⟨t, ht, _⟩ := H.get hi
  rw [wantS, ht, Option.map_some]
  cases hb : isB t [w] with
  | false => exact (by decide : (60 : Int) ≠ 0)
  | true => exact ⟨rfl, H.go ht (isB_kind hb).1⟩
theorem name_res (H : TsOk s ts) {st : PSt} (hi : st.i < ts.length) : Res (fun t st' => (st' = { st with i := st.i + 1 } ∧ st.i + 1 < ts.length) ∧ TokOk s t ∧ nameB t.text = true) (nameS ts st) := by
  obtain ⟨t, ht, hok⟩ := H.get hi
  rw [nameS, ht, Option.map_some]
  by_cases hk : t.kind = 1
  · rw [if_pos hk]; exact ⟨⟨rfl, H.go ht (by omega)⟩, hok, hok.name hk⟩
  · rw [if_neg hk]; exact (by decide : (60 : Int) ≠ 0)
def Ends (s : ByteArray) (l0 : List PN) (K : Int → Prop) (a : Nat) (st : PSt) : Prop := ∃ seg k, st.l = l0 ++ seg ∧ Forest s l0.length seg [(a : Int)] [k] ∧ K k
def EndsL (s : ByteArray) (l0 : List PN) (K : Int → Prop) (kids : List Int) (st : PSt) : Prop := ∃ seg kn, st.l = l0 ++ seg ∧ Forest s l0.length seg kids kn ∧ ∀ k ∈ kn, K k
theorem mk_res {st : PSt} {l0 seg : List PN} {kind pos : Int} {text : ByteArray} {kids kn : List Int} (hl : st.l = l0 ++ seg) (hf : Forest s l0.length seg kids kn) (g : NG s kn ⟨kind, text, kids, pos⟩) (h1 : kind ≠ 1) (hfew : st.l.length < 1000000000) :
    Res (fun a st' => st'.i = st.i ∧ st'.l.length = st.l.length + 1 ∧ Ends s l0 (fun k => k = kind) a st') (mkS kind text pos kids st) := by
  rw [mkS, nodeS, if_pos hfew, Option.map_some]
  refine ⟨rfl, by simp, seg ++ [⟨kind, text, kids, pos⟩], kind, by simp only [hl, List.append_assoc], ?_, rfl⟩
  have := hf.one rfl h1 g
  rw [hl, List.length_append]
  exact this
theorem Adv.trans {a b c : PSt} (x : Adv ts a b) (y : Adv ts b c) : Adv ts a c := ⟨y.i, Nat.lt_trans x.go y.go, by have := x.l; have := y.l; omega⟩
theorem Adv.st {a b : PSt} (x : Adv ts a b) (h : St1 ts a) : St1 ts b := ⟨x.i, by have := x.l; have := h.l; omega⟩
theorem Adv.one {a : PSt} (h : a.i + 1 < ts.length) : Adv ts a { a with i := a.i + 1 } := ⟨h, Nat.lt_succ_self _, by simp only; omega⟩
theorem St1.few {a : PSt} (h : St1 ts a) (H : TsOk s ts) : a.l.length < 400004 := by have := h.l; have := h.i; have := H.len.2; omega
def Fine (s : ByteArray) (ts : List Tok) (K : Int → Prop) (st : PSt) (r : Option (PR Nat)) : Prop := Res (fun a st' => Adv ts st st' ∧ Ends s st.l K a st') r
def FineL (s : ByteArray) (ts : List Tok) (K : Int → Prop) (st : PSt) (r : Option (PR (List Int))) : Prop := Res (fun kids st' => Adv ts st st' ∧ kids.length + st.i ≤ st'.i ∧ EndsL s st.l K kids st') r
def FineF (s : ByteArray) (ts : List Tok) (K : Int → Prop) (c f : Nat) (one : PSt → Option (PR Nat)) : Prop := ∀ st, St1 ts st → 12 * (ts.length - st.i) + c ≤ f → Fine s ts K st (one st)
theorem more_res (H : TsOk s ts) {K : Int → Prop} {one : PSt → Option (PR Nat)} {l0 : List PN} {i0 : Nat} (h1 : ∀ st, St1 ts st → i0 < st.i → Fine s ts K st (one st)) : ∀ (f : Nat) (acc : List Int) (st : PSt), St1 ts st → i0 < st.i → acc.length + i0 ≤ st.i → EndsL s l0 K acc st → ts.length - st.i < f →
    Res (fun kids st' => st'.i < ts.length ∧ st.i ≤ st'.i ∧ st'.l.length + 2 * st.i ≤ st.l.length + 2 * st'.i ∧ kids.length + i0 ≤ st'.i ∧ EndsL s l0 K kids st') (moreS ts one f acc st)
  | 0, acc, st, hs, hi, ha, he, hf => by omega
  | f + 1, acc, st, hs, hi, ha, he, hf => by
    have hlen := H.len.2
    have hsi := hs.i
    rw [moreS, if_neg (by omega)]
    rcases take_res H ⟨#[44]⟩ hs.i with e | ⟨e, e2⟩
    · rw [e]; exact ⟨hs.i, Nat.le_refl _, Nat.le_refl _, ha, he⟩
    · rw [e]
      have a1 : Adv ts st { st with i := st.i + 1 } := .one e2
      have hs2 := a1.st hs
      have hone := h1 _ hs2 (by show i0 < st.i + 1; omega)
      simp only
      cases ho : one { st with i := st.i + 1 } with
      | none => rw [ho] at hone; exact hone.elim
      | some r =>
        rw [ho] at hone
        cases r with
        | err a er => exact hone
        | ok k st2 =>
          obtain ⟨a2, seg2, k2, e1, f2, hk2⟩ := hone
          obtain ⟨seg, kn, e3, f3, hkn⟩ := he
          have a3 := a1.trans a2
          have g2 := a2.go
          have l3 := a3.l
          have i3 := a3.i
          simp only at g2 l3 e1 f2
          refine (more_res H h1 f (acc ++ [(k : Int)]) st2 (a3.st hs) (by omega) (by rw [List.length_append, List.length_singleton]; omega) ⟨seg ++ seg2, kn ++ [k2], by rw [e1, e3, List.append_assoc], f3.append f2 (by rw [e3, List.length_append]), fun k hk => ?_⟩ (by omega)).mono ?_
          · rcases List.mem_append.1 hk with hk | hk
            · exact hkn k hk
            · rw [List.mem_singleton] at hk; subst hk; exact hk2
          · rintro kids st' ⟨q1, q2, q3, q4, q5⟩
            exact ⟨q1, by omega, by omega, q4, q5⟩
theorem list_res (H : TsOk s ts) {K : Int → Prop} {one : PSt → Option (PR Nat)} {e : ByteArray} {f : Nat} {st : PSt} (hs : St1 ts st) (h1 : ∀ st', St1 ts st' → st.i ≤ st'.i → Fine s ts K st' (one st')) (hf : ts.length - st.i < f) : FineL s ts K st (listS ts e one f st) := by
  have inner : Res (fun kids st' => st'.i < ts.length ∧ st.i ≤ st'.i ∧ st'.l.length + 2 * st.i ≤ st.l.length + 2 * st'.i ∧ kids.length + st.i ≤ st'.i ∧ EndsL s st.l K kids st') (innerS ts e one f st) := by
    obtain ⟨t, ht, _⟩ := H.get hs.i
    rw [innerS, ht]
    simp only
    cases hb : isB t [e] with
    | true => exact ⟨hs.i, Nat.le_refl _, Nat.le_refl _, by simp, [], [], by simp, .nil _, by simp⟩
    | false =>
      have hone := h1 st hs (Nat.le_refl _)
      simp only [Bool.false_eq_true, if_false]
      cases ho : one st with
      | none => rw [ho] at hone; exact hone.elim
      | some r =>
        rw [ho] at hone
        cases r with
        | err a er => exact hone
        | ok k st2 =>
          obtain ⟨a2, seg2, k2, e1, f2, hk2⟩ := hone
          have g2 := a2.go
          have l2 := a2.l
          refine (more_res H (i0 := st.i) (fun st' hs' hi' => h1 st' hs' (by omega)) f [(k : Int)] st2 (a2.st hs) g2 (by simp; omega) ⟨seg2, [k2], e1, f2, by simpa using hk2⟩ (by omega)).mono ?_
          rintro kids st' ⟨q1, q2, q3, q4, q5⟩
          exact ⟨q1, by omega, by omega, q4, q5⟩
  rw [listS]
  cases hi : innerS ts e one f st with
  | none => rw [hi] at inner; exact inner.elim
  | some r =>
    rw [hi] at inner
    cases r with
    | err a er => exact inner
    | ok kids st' =>
      obtain ⟨q1, q2, q3, q4, q5⟩ := inner
      have hw := want_res H e q1
      simp only
      cases hws : wantS ts e st' with
      | none => rw [hws] at hw; exact hw.elim
      | some r =>
        rw [hws] at hw
        cases r with
        | err a er => exact hw
        | ok u st2 =>
          obtain ⟨rfl, h2⟩ := hw
          exact ⟨⟨h2, by simp only; omega, by simp only; omega⟩, by simp only; omega, q5⟩
theorem textB_name {k : Int} {x : ByteArray} (hk : mem7 k = true) (h : nameB x = true) : textB k x = true := by rw [textB, if_pos hk]; exact h
end Go.Idl
end

section
namespace Go.Idl
variable {s : ByteArray} {ts : List Tok} {num : Int → ByteArray}
def EK (k : Int) : Prop := exprB k = true
theorem ng {kind : Int} {text : ByteArray} {pos : Nat} {kids kn : List Int} (H : TsOk s ts) (hp : pos ≤ s.size) (hk : 1 ≤ kind ∧ kind ≤ 30) (ht : textB kind text = true) (hs : shapeB kind kn = true) (ha : (namedB kind = false ∧ text.size < 4611686018427387904) ∨ stands s pos text) : NG s kn ⟨kind, text, kids, (pos : Int)⟩ := by
  refine ⟨⟨Int.natCast_nonneg _, Int.ofNat_le.2 hp⟩, hk, ht, hs, fun h => ?_, ?_⟩
  · rcases ha with ha | ha
    · rw [ha.1] at h; cases h
    · exact ha
  · rcases ha with ha | ha
    · exact ha.2
    · have := ha.1; have := H.size; show text.size < _; omega
theorem TokOk.pos {t : Tok} (h : TokOk s t) : t.frm ≤ s.size := by have := h.at'.1; omega
theorem shape1 {k : Int} (kind : Int) (hk : EK k) (h : (kind == 5 || kind == 9 || kind == 10 || kind == 11 || kind == 18 || kind == 20 || kind == 24 || kind == 25 || kind == 27 || kind == 29) = true) : shapeB kind [k] = true := by
  simp only [Bool.or_eq_true, beq_iff_eq] at h
  have e : exprsB [k] 1 = true := by simp only [exprsB, List.all_cons, List.all_nil, show exprB k = true from hk]; rfl
  rcases h with ((((((((h | h) | h) | h) | h) | h) | h) | h) | h) | h <;> subst h <;> exact e
theorem exprs2 {k j : Int} (hk : EK k) (hj : EK j) : exprsB [k, j] 2 = true := by simp only [exprsB, List.all_cons, List.all_nil, show exprB k = true from hk, show exprB j = true from hj]; rfl
theorem Ends.one {l0 : List PN} {K : Int → Prop} {a : Nat} {st : PSt} (h : Ends s l0 K a st) : ∃ seg k, st.l = l0 ++ seg ∧ Forest s l0.length seg [(a : Int)] [k] ∧ K k := h
theorem Ends.two {l0 : List PN} {K J : Int → Prop} {a b : Nat} {st st' : PSt} (h : Ends s l0 K a st) (h' : Ends s st.l J b st') : ∃ seg k j, st'.l = l0 ++ seg ∧ Forest s l0.length seg [(a : Int), (b : Int)] [k, j] ∧ K k ∧ J j := by
  obtain ⟨seg, k, e1, f1, hk⟩ := h
  obtain ⟨seg2, j, e2, f2, hj⟩ := h'
  exact ⟨seg ++ seg2, k, j, by rw [e2, e1, List.append_assoc], f1.append f2 (by rw [e1, List.length_append]), hk, hj⟩
theorem Ends.mono {l0 : List PN} {K J : Int → Prop} {a : Nat} {st : PSt} (h : Ends s l0 K a st) (hj : ∀ k, K k → J k) : Ends s l0 J a st := by
  obtain ⟨seg, k, e1, f1, hk⟩ := h
  exact ⟨seg, k, e1, f1, hj k hk⟩
theorem leaf_res (H : TsOk s ts) {st : PSt} {kind : Int} {text : ByteArray} {pos : Nat} {K : Int → Prop} (hs : St1 ts st) (hi : st.i + 1 < ts.length) (g : NG s [] ⟨kind, text, [], (pos : Int)⟩) (h1 : kind ≠ 1) (hK : K kind) {i : Nat} (hi2 : st.i < i ∧ i < ts.length) : Fine s ts K st (mkS kind text pos [] { st with i := i }) := by
  have hf := hs.few H
  refine (mk_res (st := { st with i := i }) (l0 := st.l) (seg := []) (kn := []) (by simp) (.nil _) g h1 (by show st.l.length < _; omega)).mono ?_
  rintro a st' ⟨e1, e2, e3⟩
  simp only at e1 e2
  exact ⟨⟨by omega, by omega, by omega⟩, e3.mono fun k hk => by subst hk; exact hK⟩
theorem inside_res (H : TsOk s ts) {ex : PSt → Option (PR Nat)} {f : Nat} (hex : FineF s ts EK 9 f ex) {st : PSt} {kind : Int} {pos : Nat} (hs : St1 ts st) (hi : st.i + 1 < ts.length) (hf : 12 * (ts.length - (st.i + 1)) + 9 ≤ f) (hp : pos ≤ s.size) (h1 : 2 ≤ kind ∧ kind ≤ 30) (ht : textB kind ⟨#[]⟩ = true) (hsh : ∀ k, EK k → shapeB kind [k] = true) (hn : namedB kind = false) {K : Int → Prop} (hK : K kind) :
    Fine s ts K st (insideS ts ex kind pos { st with i := st.i + 1 }) := by
  have a0 : Adv ts st { st with i := st.i + 1 } := .one hi
  refine (want_res H _ a0.i).and ?_
  rintro _ _ ⟨rfl, h2⟩
  have a1 := a0.trans (.one (a := { st with i := st.i + 1 }) h2)
  refine (hex _ (a1.st hs) (by show 12 * (ts.length - (st.i + 1 + 1)) + 9 ≤ f; omega)).and ?_
  rintro e st2 ⟨a2, seg, k, e1, f1, hk⟩
  refine (want_res H _ a2.i).and ?_
  rintro _ _ ⟨rfl, h3⟩
  have a3 := (a1.trans a2).trans (.one h3)
  have hfew := (a3.st hs).few H
  refine (mk_res (st := { st2 with i := st2.i + 1 }) (l0 := st.l) (seg := seg) (kn := [k]) (kind := kind) (text := ⟨#[]⟩) (pos := (pos : Int)) e1 f1 (ng H hp ⟨by omega, h1.2⟩ ht (hsh k hk) (.inl ⟨hn, by decide⟩)) (by omega) (by omega)).mono ?_
  rintro a st' ⟨e2, e3, e4⟩
  have l2 := (a1.trans a2).l
  have g2 := (a1.trans a2).go
  simp only at e2 e3
  exact ⟨⟨by omega, by omega, by omega⟩, e4.mono fun k hk => by subst hk; exact hK⟩
theorem nothing_res (H : TsOk s ts) {st : PSt} {kind : Int} {pos : Nat} (hs : St1 ts st) (hi : st.i + 1 < ts.length) (g : NG s [] ⟨kind, ⟨#[]⟩, [], (pos : Int)⟩) (h1 : kind ≠ 1) {K : Int → Prop} (hK : K kind) : Fine s ts K st (nothingS ts kind pos { st with i := st.i + 1 }) := by
  refine (want_res H _ (show st.i + 1 < ts.length from hi)).and ?_
  rintro _ _ ⟨rfl, h2⟩
  refine (want_res H _ h2).and ?_
  rintro _ _ ⟨rfl, h3⟩
  simp only at h2 h3
  exact leaf_res (i := st.i + 1 + 1 + 1) H hs hi g h1 hK ⟨by omega, h3⟩
theorem word_res (H : TsOk s ts) {ex : PSt → Option (PR Nat)} {f : Nat} (hex : FineF s ts EK 9 f ex) {st : PSt} {pos : Nat} {w : ByteArray} {g : Int → PSt → Option (PR Nat)} (hs : St1 ts st) (hi : st.i + 1 < ts.length) (hf : 12 * (ts.length - (st.i + 1)) + 9 ≤ f) (hp : pos ≤ s.size) (hw : wordS ts ex w = some g) : Fine s ts EK st (g pos { st with i := st.i + 1 }) := by
  have hin : ∀ kind : Int, 2 ≤ kind ∧ kind ≤ 30 → textB kind ⟨#[]⟩ = true → (kind == 5 || kind == 9 || kind == 10 || kind == 11 || kind == 18 || kind == 20 || kind == 24 || kind == 25 || kind == 27 || kind == 29) = true → namedB kind = false → EK kind → Fine s ts EK st (insideS ts ex kind pos { st with i := st.i + 1 }) := fun kind h1 h2 h3 h4 h5 => inside_res H hex hs hi hf hp h1 h2 (fun k hk => shape1 kind hk h3) h4 h5
  rw [wordS] at hw
  by_cases h1 : w = ⟨#[110, 117, 108, 108]⟩
  · rw [if_pos h1] at hw; cases hw
    exact leaf_res (K := EK) (kind := 16) (text := ⟨#[]⟩) H hs hi (ng H hp (by decide) rfl rfl (.inl ⟨rfl, by decide⟩)) (by decide) rfl ⟨Nat.lt_succ_self _, hi⟩
  rw [if_neg h1] at hw
  by_cases h2 : w = ⟨#[114, 111, 111, 116]⟩
  · rw [if_pos h2] at hw; cases hw
    exact leaf_res (K := EK) (kind := 30) (text := ⟨#[]⟩) H hs hi (ng H hp (by decide) rfl rfl (.inl ⟨rfl, by decide⟩)) (by decide) rfl ⟨Nat.lt_succ_self _, hi⟩
  rw [if_neg h2] at hw
  by_cases h3 : w = ⟨#[110, 101, 119]⟩
  · rw [if_pos h3] at hw; cases hw
    refine (name_res H (show st.i + 1 < ts.length from hi)).and ?_
    rintro t _ ⟨⟨rfl, h2⟩, htk, hnm⟩
    simp only at h2
    exact leaf_res (K := EK) (i := st.i + 1 + 1) (kind := 23) (text := t.text) H hs hi (ng H htk.pos (by decide) (textB_name rfl hnm) rfl (.inr htk.at')) (by decide) rfl ⟨by omega, h2⟩
  rw [if_neg h3] at hw
  by_cases h4 : w = ⟨#[97, 114, 114]⟩
  · rw [if_pos h4] at hw; cases hw; exact hin 24 (by decide) rfl rfl rfl rfl
  rw [if_neg h4] at hw
  by_cases h5 : w = ⟨#[108, 101, 110]⟩
  · rw [if_pos h5] at hw; cases hw; exact hin 25 (by decide) rfl rfl rfl rfl
  rw [if_neg h5] at hw
  by_cases h6 : w = ⟨#[105, 110]⟩
  · rw [if_pos h6] at hw; cases hw
    exact nothing_res (K := EK) (kind := 26) H hs hi (ng H hp (by decide) rfl rfl (.inl ⟨rfl, by decide⟩)) (by decide) rfl
  rw [if_neg h6] at hw
  by_cases h7 : w = ⟨#[105, 109, 103]⟩
  · rw [if_pos h7] at hw; cases hw; exact hin 27 (by decide) rfl rfl rfl rfl
  rw [if_neg h7] at hw
  by_cases h8 : w = ⟨#[115, 105, 122, 101]⟩
  · rw [if_pos h8] at hw; cases hw
    exact nothing_res (K := EK) (kind := 28) H hs hi (ng H hp (by decide) rfl rfl (.inl ⟨rfl, by decide⟩)) (by decide) rfl
  rw [if_neg h8] at hw
  by_cases h9 : w = ⟨#[112, 114, 111, 109, 111, 116, 101]⟩
  · rw [if_pos h9] at hw; cases hw; exact hin 29 (by decide) rfl rfl rfl rfl
  rw [if_neg h9] at hw
  cases hw
theorem has_op {l : Nat} {x : ByteArray} (h : hasL (lvlL.getD l []) x = true) : opB x = true := by
  obtain ⟨w, hw, hx⟩ := List.any_eq_true.1 h
  have hx := of_decide_eq_true hx
  subst hx
  refine opB_of ?_
  match l, hw with
  | 0, hw => simp [lvlL, opsL] at hw ⊢; rcases hw with h | h <;> simp [h]
  | 1, hw => simp [lvlL, opsL] at hw ⊢; simp [hw]
  | 2, hw => simp [lvlL, opsL] at hw ⊢; rcases hw with h | h <;> simp [h]
  | 3, hw => simp [lvlL, opsL] at hw ⊢; rcases hw with h | h <;> simp [h]
  | 4, hw => simp [lvlL, opsL] at hw ⊢; rcases hw with h | h | h <;> simp [h]
  | n + 5, hw => simp [lvlL] at hw
theorem has_cmp {x : ByteArray} (h : hasL cmpL x = true) : opB x = true := by
  obtain ⟨w, hw, hx⟩ := List.any_eq_true.1 h
  have hx := of_decide_eq_true hx
  subst hx
  refine opB_of ?_
  simp [cmpL, opsL] at hw ⊢
  rcases hw with h | h | h | h <;> simp [h]
theorem has_sgn {x : ByteArray} (h : hasL sgnL x = true) : sgnB x = true := by
  simp only [hasL, sgnL, List.any_cons, List.any_nil, Bool.or_false] at h
  rw [sgnB, Bool.or_assoc]; exact h
def Loose (s : ByteArray) (ts : List Tok) (l0 : List PN) (st : PSt) (a : Nat) (st' : PSt) : Prop := st'.i < ts.length ∧ st.i ≤ st'.i ∧ st'.l.length + 2 * st.i ≤ st.l.length + 2 * st'.i ∧ Ends s l0 EK a st'
theorem Loose.adv {l0 : List PN} {a b : PSt} {e : Nat} {c : PSt} (x : Adv ts a b) (h : Loose s ts l0 b e c) : Adv ts a c := ⟨h.1, by have := x.go; have := h.2.1; omega, by have := x.l; have := h.2.2.1; omega⟩
theorem Loose.after {l0 : List PN} {a b : PSt} {e : Nat} {c : PSt} (x : Adv ts a b) (h : Loose s ts l0 b e c) : Loose s ts l0 a e c := ⟨h.1, by have := x.go; have := h.2.1; omega, by have := x.l; have := h.2.2.1; omega, h.2.2.2⟩
structure ExpFine (s : ByteArray) (ts : List Tok) (num : Int → ByteArray) (f : Nat) : Prop where
  first : FineF s ts EK 0 f (firstS num ts f)
  backL : ∀ l0 e st, St1 ts st → Ends s l0 EK e st → 12 * (ts.length - st.i) ≤ f → Res (Loose s ts l0 st) (backL num ts f e st)
  back : FineF s ts EK 1 f (backS num ts f)
  sign : FineF s ts EK 2 f (signS num ts f)
  chainL : ∀ level l0 e st, St1 ts st → Ends s l0 EK e st → 12 * (ts.length - st.i) ≤ f → Res (Loose s ts l0 st) (chainL num ts f level e st)
  chain : ∀ level, level ≤ 5 → FineF s ts EK (8 - level) f (chainS num ts f level)
  expr : FineF s ts EK 9 f (exprS num ts f)
theorem first_fine (H : TsOk s ts) (hnum : ∀ n : Int, 0 ≤ n → n ≤ 9223372036854775807 → digB (num n) = true ∧ (num n).size < 4611686018427387904) {f : Nat} (ih : ExpFine s ts num f) : FineF s ts EK 0 (f + 1) (firstS num ts (f + 1)) := by
  intro st hs hf
  have hi := hs.i
  obtain ⟨t, ht, htk⟩ := H.get hi
  rw [firstS, ht]
  simp only
  by_cases k4 : t.kind = 4
  · rw [if_pos k4]
    have hn := htk.num
    have hd := hnum _ hn.1 hn.2
    have h1 := H.go ht (by omega)
    exact leaf_res (K := EK) (kind := 15) (text := num t.num) H hs h1 (ng H htk.pos (by decide) hd.1 rfl (.inl ⟨rfl, hd.2⟩)) (by decide) rfl ⟨Nat.lt_succ_self _, h1⟩
  rw [if_neg k4]
  by_cases k1 : t.kind = 1
  · rw [if_pos k1]
    have h1 := H.go ht (by omega)
    rcases take_res H ⟨#[40]⟩ (st := { st with i := st.i + 1 }) h1 with e | ⟨e, e2⟩
    · rw [e]
      exact leaf_res (K := EK) (kind := 17) (text := t.text) H hs h1 (ng H htk.pos (by decide) (textB_name rfl (htk.name k1)) rfl (.inr htk.at')) (by decide) rfl ⟨Nat.lt_succ_self _, h1⟩
    · rw [e]
      simp only at e2
      have a1 : Adv ts st { st with i := st.i + 1 + 1 } := ⟨e2, by simp only; omega, by simp only; omega⟩
      refine (list_res H (a1.st hs) (K := EK) (fun st' hs' hi' => ih.expr st' hs' (by simp only at hi'; omega)) (by simp only; omega)).and ?_
      rintro kids st' ⟨a2, hk, seg, kn, e1, f1, hkn⟩
      have hfew := (a2.st (a1.st hs)).few H
      have hshape : shapeB 22 kn = true := by
        show exprsB kn kn.length = true
        rw [exprsB, Bool.and_eq_true]
        exact ⟨List.all_eq_true.2 hkn, by simp⟩
      refine (mk_res (kind := 22) (text := t.text) (pos := ((t.frm : Nat) : Int)) (st := st') (l0 := st.l) (seg := seg) (kn := kn) e1 f1 (ng H htk.pos (by decide) (textB_name rfl (htk.name k1)) hshape (.inr htk.at')) (by decide) (by omega)).mono ?_
      rintro a st2 ⟨e2, e3, e4⟩
      have a3 := a1.trans a2
      have := a3.l; have := a3.go; have := a3.i; have := a2.go; have := a2.l
      simp only at *
      exact ⟨⟨by omega, by omega, by omega⟩, e4.mono fun k hk => by subst hk; rfl⟩
  rw [if_neg k1]
  cases hw : (if t.kind = 2 then wordS ts (exprS num ts f) t.text else none) with
  | some g =>
    by_cases k2 : t.kind = 2
    · rw [if_pos k2] at hw
      have h1 := H.go ht (by omega)
      exact word_res H ih.expr hs h1 (by omega) htk.pos hw
    · rw [if_neg k2] at hw; cases hw
  | none =>
    simp only
    refine (want_res H _ hi).and ?_
    rintro _ _ ⟨rfl, h1⟩
    have a1 : Adv ts st { st with i := st.i + 1 } := .one h1
    refine (ih.expr _ (a1.st hs) (by simp only; omega)).and ?_
    rintro e st2 ⟨a2, he⟩
    refine (want_res H _ a2.i).and ?_
    rintro _ _ ⟨rfl, h3⟩
    exact ⟨(a1.trans a2).trans (.one h3), he⟩
theorem backL_fine (H : TsOk s ts) {f : Nat} (ih : ExpFine s ts num f) (l0 : List PN) (e : Nat) (st : PSt) (hs : St1 ts st) (he : Ends s l0 EK e st) (hf : 12 * (ts.length - st.i) ≤ f + 1) : Res (Loose s ts l0 st) (backL num ts (f + 1) e st) := by
  have hi := hs.i
  obtain ⟨t, ht, htk⟩ := H.get hi
  rw [backL, ht]
  simp only
  rcases take_res H ⟨#[46]⟩ hi with e1 | ⟨e1, e2⟩
  · rw [e1]
    simp only
    rcases take_res H ⟨#[91]⟩ hi with e3 | ⟨e3, e4⟩
    · rw [e3]; exact ⟨hi, Nat.le_refl _, Nat.le_refl _, he⟩
    · rw [e3]
      simp only
      have a1 : Adv ts st { st with i := st.i + 1 } := .one e4
      refine (ih.expr _ (a1.st hs) (by simp only; omega)).and ?_
      rintro i st2 ⟨a2, hi2⟩
      refine (want_res H _ a2.i).and ?_
      rintro _ _ ⟨rfl, h3⟩
      have a3 := (a1.trans a2).trans (.one h3)
      obtain ⟨seg, k, j, q1, q2, q3, q4⟩ := Ends.two he hi2
      have hfew := (a3.st hs).few H
      refine (mk_res (kind := 21) (text := ⟨#[]⟩) (pos := ((t.frm : Nat) : Int)) (st := { st2 with i := st2.i + 1 }) (l0 := l0) (seg := seg) (kn := [k, j]) q1 q2 (ng H htk.pos (by decide) rfl (exprs2 q3 q4) (.inl ⟨rfl, by decide⟩)) (by decide) (by omega)).and ?_
      rintro e' st' ⟨w1, w2, w3⟩
      have := (a1.trans a2).l; have := (a1.trans a2).go; have g2 := a2.go
      simp only at w1 w2 g2
      have a4 : Adv ts st st' := ⟨by omega, by omega, by omega⟩
      exact (ih.backL l0 e' st' (a4.st hs) (w3.mono fun k hk => by subst hk; rfl) (by omega)).mono fun a c h => h.after a4
  · rw [e1]
    simp only
    have a1 : Adv ts st { st with i := st.i + 1 } := .one e2
    refine (name_res H (show st.i + 1 < ts.length from e2)).and ?_
    rintro n _ ⟨⟨rfl, h2⟩, hnk, hnm⟩
    simp only at h2
    obtain ⟨seg, k, q1, q2, q3⟩ := he
    have hfew := hs.few H
    refine (mk_res (kind := 20) (text := n.text) (pos := ((t.frm : Nat) : Int)) (st := { st with i := st.i + 1 + 1 }) (l0 := l0) (seg := seg) (kn := [k]) q1 q2 (ng H htk.pos (by decide) (textB_name rfl hnm) (shape1 20 q3 rfl) (.inl ⟨rfl, by have := hnk.at'.1; have := H.size; omega⟩)) (by decide) (by simp only; omega)).and ?_
    rintro e' st' ⟨w1, w2, w3⟩
    simp only at w1 w2
    have a4 : Adv ts st st' := ⟨by omega, by omega, by omega⟩
    exact (ih.backL l0 e' st' (a4.st hs) (w3.mono fun k hk => by subst hk; rfl) (by omega)).mono fun a c h => h.after a4
theorem chainL_fine (H : TsOk s ts) {f : Nat} (ih : ExpFine s ts num f) (level : Nat) (l0 : List PN) (e : Nat) (st : PSt) (hs : St1 ts st) (he : Ends s l0 EK e st) (hf : 12 * (ts.length - st.i) ≤ f + 1) : Res (Loose s ts l0 st) (chainL num ts (f + 1) level e st) := by
  have hi := hs.i
  obtain ⟨t, ht, htk⟩ := H.get hi
  rw [chainL, ht]
  simp only
  cases hb : isB t (lvlL.getD level []) with
  | false => exact ⟨hi, Nat.le_refl _, Nat.le_refl _, he⟩
  | true =>
    obtain ⟨b1, b2⟩ := isB_kind hb
    have h1 := H.go ht b1
    have hop := has_op b2
    have hlv : level < 5 := by
      rcases Nat.lt_or_ge level 5 with h | h
      · exact h
      · have : lvlL.getD level [] = [] := by rw [List.getD_eq_getElem?_getD, List.getElem?_eq_none (by simpa [lvlL] using h)]; rfl
        rw [this] at b2; cases b2
    simp only [if_true]
    have a1 : Adv ts st { st with i := st.i + 1 } := .one h1
    refine (ih.chain (level + 1) (by omega) _ (a1.st hs) (by simp only; omega)).and ?_
    rintro g st2 ⟨a2, hg⟩
    obtain ⟨seg, k, j, q1, q2, q3, q4⟩ := Ends.two he hg
    have hfew := (a2.st (a1.st hs)).few H
    refine (mk_res (kind := 19) (text := t.text) (pos := ((t.frm : Nat) : Int)) (st := st2) (l0 := l0) (seg := seg) (kn := [k, j]) q1 q2 (ng H htk.pos (by decide) hop (exprs2 q3 q4) (.inr htk.at')) (by decide) (by omega)).and ?_
    rintro e' st' ⟨w1, w2, w3⟩
    have := (a1.trans a2).l; have := (a1.trans a2).go; have g2 := a2.go; have := a2.i; have l2 := a2.l
    simp only at g2 l2
    have a4 : Adv ts st st' := ⟨by omega, by omega, by omega⟩
    exact (ih.chainL level l0 e' st' (a4.st hs) (w3.mono fun k hk => by subst hk; rfl) (by omega)).mono fun a c h => h.after a4
theorem exp_fine (H : TsOk s ts) (hnum : ∀ n : Int, 0 ≤ n → n ≤ 9223372036854775807 → digB (num n) = true ∧ (num n).size < 4611686018427387904) : ∀ f, ExpFine s ts num f
  | 0 => by
    have z : ∀ st, St1 ts st → ∀ c, ¬ 12 * (ts.length - st.i) + c ≤ 0 := fun st hs c h => by have := hs.i; omega
    exact ⟨fun st hs h => (z st hs _ h).elim, fun _ _ st hs _ h => (z st hs 0 h).elim, fun st hs h => (z st hs _ h).elim, fun st hs h => (z st hs _ h).elim, fun _ _ _ st hs _ h => (z st hs 0 h).elim, fun _ _ st hs h => (z st hs _ h).elim, fun st hs h => (z st hs _ h).elim⟩
  | f + 1 => by
    have ih := exp_fine H hnum f
    refine ⟨first_fine H hnum ih, backL_fine H ih, ?_, ?_, chainL_fine H ih, ?_, ?_⟩
    · intro st hs hf
      rw [backS]
      refine (ih.first st hs (by omega)).and ?_
      rintro e st1 ⟨a1, he⟩
      have := a1.go
      exact (ih.backL st.l e st1 (a1.st hs) he (by omega)).mono fun a c h => ⟨h.adv a1, h.2.2.2⟩
    · intro st hs hf
      obtain ⟨t, ht, htk⟩ := H.get hs.i
      rw [signS, ht]
      simp only
      cases hb : isB t sgnL with
      | false => exact ih.back st hs (by omega)
      | true =>
        obtain ⟨b1, b2⟩ := isB_kind hb
        have h1 := H.go ht b1
        simp only [if_true]
        have a1 : Adv ts st { st with i := st.i + 1 } := .one h1
        refine (ih.sign _ (a1.st hs) (by simp only; omega)).and ?_
        rintro g st2 ⟨a2, seg, k, q1, q2, q3⟩
        have hfew := (a2.st (a1.st hs)).few H
        refine (mk_res (kind := 18) (text := t.text) (pos := ((t.frm : Nat) : Int)) (st := st2) (l0 := st.l) (seg := seg) (kn := [k]) q1 q2 (ng H htk.pos (by decide) (has_sgn b2) (shape1 18 q3 rfl) (.inr htk.at')) (by decide) (by omega)).mono ?_
        rintro e' st' ⟨w1, w2, w3⟩
        have := (a1.trans a2).l; have := (a1.trans a2).go; have := a2.i; have g2 := a2.go; have l2 := a2.l
        simp only at g2 l2
        exact ⟨⟨by omega, by omega, by omega⟩, w3.mono fun k hk => by subst hk; rfl⟩
    · intro level hlv st hs hf
      rw [chainS]
      by_cases h5 : level = 5
      · rw [if_pos h5]
        exact ih.sign st hs (by omega)
      · rw [if_neg h5]
        refine (ih.chain (level + 1) (by omega) st hs (by omega)).and ?_
        rintro e st1 ⟨a1, he⟩
        have := a1.go
        exact (ih.chainL level st.l e st1 (a1.st hs) he (by omega)).mono fun a c h => ⟨h.adv a1, h.2.2.2⟩
    · intro st hs hf
      rw [exprS]
      refine (ih.chain 0 (by omega) st hs (by omega)).and ?_
      rintro e st1 ⟨a1, he⟩
      obtain ⟨t, ht, htk⟩ := H.get a1.i
      rw [ht]
      simp only
      cases hb : isB t cmpL with
      | false => exact ⟨a1, he⟩
      | true =>
        obtain ⟨b1, b2⟩ := isB_kind hb
        have h1 := H.go ht b1
        simp only [if_true]
        have g1 := a1.go
        have a2 := a1.trans (.one h1)
        refine (ih.chain 0 (by omega) _ (a2.st hs) (by simp only; omega)).and ?_
        rintro g st2 ⟨a3, hg⟩
        obtain ⟨seg, k, j, q1, q2, q3, q4⟩ := Ends.two he hg
        have hfew := (a3.st (a2.st hs)).few H
        refine (mk_res (kind := 19) (text := t.text) (pos := ((t.frm : Nat) : Int)) (st := st2) (l0 := st.l) (seg := seg) (kn := [k, j]) q1 q2 (ng H htk.pos (by decide) (has_cmp b2) (exprs2 q3 q4) (.inr htk.at')) (by decide) (by omega)).mono ?_
        rintro e' st' ⟨w1, w2, w3⟩
        have := (a2.trans a3).l; have := (a2.trans a3).go; have := a3.i; have g3 := a3.go; have l3 := a3.l; have l1 := a1.l
        simp only at g3 l3
        exact ⟨⟨by omega, by omega, by omega⟩, w3.mono fun k hk => by subst hk; rfl⟩
end Go.Idl
end

section
namespace Go.Idl
variable {s : ByteArray} {ts : List Tok} {num : Int → ByteArray}
def StK (k : Int) : Prop := stmtB k = true
theorem Ends.at {l0 : List PN} {K : Int → Prop} {a : Nat} {st : PSt} (h : Ends s l0 K a st) : ∃ x, st.l[a]? = some x ∧ K x.kind ∧ 0 ≤ x.pos ∧ x.pos ≤ s.size := by
  obtain ⟨seg, k, e1, f1, hk⟩ := h
  obtain ⟨j, ej, hj⟩ := f1.range (a : Int) (by simp)
  have ej : a = l0.length + j := by omega
  have hL : ∀ j x, seg[j]? = some x → st.l[l0.length + j]? = some x := fun j x hx => by
    rw [e1, List.getElem?_append_right (by omega), Nat.add_sub_cancel_left]; exact hx
  obtain ⟨x, hx⟩ : ∃ x, seg[j]? = some x := ⟨_, List.getElem?_eq_getElem hj⟩
  have hat := hL j x hx
  rw [← ej] at hat
  have hn := (f1.nodes hL j x hx).1.pos
  have hkk := f1.kinds hL
  simp only [List.map_cons, List.map_nil, List.cons.injEq, and_true, kindP, Int.toNat_natCast, hat, Option.map_some, Option.getD_some] at hkk
  exact ⟨x, hat, by rw [hkk]; exact hk, hn.1, hn.2⟩
theorem Ends.three {l0 : List PN} {K J I : Int → Prop} {a b c : Nat} {st st' st2 : PSt} (h : Ends s l0 K a st) (h' : Ends s st.l J b st') (h2 : Ends s st'.l I c st2) : ∃ seg k j i, st2.l = l0 ++ seg ∧ Forest s l0.length seg [(a : Int), (b : Int), (c : Int)] [k, j, i] ∧ K k ∧ J j ∧ I i := by
  obtain ⟨seg, k, j, e1, f1, hk, hj⟩ := Ends.two h h'
  obtain ⟨seg2, i, e2, f2, hi⟩ := h2
  exact ⟨seg ++ seg2, k, j, i, by rw [e2, e1, List.append_assoc], f1.append f2 (by rw [e1, List.length_append]), hk, hj, hi⟩
theorem named_res (H : TsOk s ts) {st : PSt} (hs : St1 ts st) : Fine s ts (fun k => k = 17) st (namedS ts st) := by
  refine (name_res H hs.i).and ?_
  rintro t _ ⟨⟨rfl, h2⟩, htk, hnm⟩
  exact leaf_res (K := fun k => k = 17) (i := st.i + 1) (kind := 17) (text := t.text) H hs h2 (ng H htk.pos (by decide) (textB_name rfl hnm) rfl (.inr htk.at')) (by decide) rfl ⟨by omega, h2⟩
theorem closed_res (H : TsOk s ts) {ex : PSt → Option (PR Nat)} {f : Nat} (hex : FineF s ts EK 9 f ex) {st : PSt} {kind : Int} {pos : Nat} (hs : St1 ts st) (hi : st.i + 1 < ts.length) (hf : 12 * (ts.length - (st.i + 1)) + 9 ≤ f) (hp : pos ≤ s.size) (hk : kind = 9 ∨ kind = 10 ∨ kind = 11) : Fine s ts StK st (closedS ts ex kind pos { st with i := st.i + 1 }) := by
  have a0 : Adv ts st { st with i := st.i + 1 } := .one hi
  refine (hex _ (a0.st hs) hf).and ?_
  rintro e st2 ⟨a2, seg, k, e1, f1, hk1⟩
  refine (want_res H _ a2.i).and ?_
  rintro _ _ ⟨rfl, h3⟩
  have a3 := (a0.trans a2).trans (.one h3)
  have hfew := (a3.st hs).few H
  have g1 : NG s [k] ⟨kind, ⟨#[]⟩, [(e : Int)], (pos : Int)⟩ := by
    rcases hk with rfl | rfl | rfl
    · exact ng H hp (by decide) rfl (shape1 9 hk1 rfl) (.inl ⟨rfl, by decide⟩)
    · exact ng H hp (by decide) rfl (shape1 10 hk1 rfl) (.inl ⟨rfl, by decide⟩)
    · exact ng H hp (by decide) rfl (shape1 11 hk1 rfl) (.inl ⟨rfl, by decide⟩)
  refine (mk_res (kind := kind) (text := ⟨#[]⟩) (pos := (pos : Int)) (st := { st2 with i := st2.i + 1 }) (l0 := st.l) (seg := seg) (kn := [k]) e1 f1 g1 (by omega) (by omega)).mono ?_
  rintro a st' ⟨e2, e3, e4⟩
  have l2 := (a0.trans a2).l
  have g2 := (a0.trans a2).go
  simp only at e2 e3
  exact ⟨⟨by omega, by omega, by omega⟩, e4.mono fun k hk' => by subst hk'; exact decide_eq_true (by omega)⟩
theorem let_res (H : TsOk s ts) {ex : PSt → Option (PR Nat)} {f : Nat} (hex : FineF s ts EK 9 f ex) {st : PSt} (hs : St1 ts st) (hi : st.i + 1 < ts.length) (hf : 12 * (ts.length - (st.i + 1)) + 9 ≤ f) : Fine s ts StK st (letS ts ex { st with i := st.i + 1 }) := by
  refine (name_res H (show st.i + 1 < ts.length from hi)).and ?_
  rintro t _ ⟨⟨rfl, h2⟩, htk, hnm⟩
  refine (want_res H _ h2).and ?_
  rintro _ _ ⟨rfl, h3⟩
  simp only at h2 h3
  have a1 : Adv ts st { st with i := st.i + 1 + 1 + 1 } := ⟨h3, by simp only; omega, by simp only; omega⟩
  refine (hex _ (a1.st hs) (by simp only; omega)).and ?_
  rintro e st2 ⟨a2, seg, k, e1, f1, hk1⟩
  refine (want_res H _ a2.i).and ?_
  rintro _ _ ⟨rfl, h3⟩
  have a3 := (a1.trans a2).trans (.one h3)
  have hfew := (a3.st hs).few H
  refine (mk_res (kind := 5) (text := t.text) (pos := ((t.frm : Nat) : Int)) (st := { st2 with i := st2.i + 1 }) (l0 := st.l) (seg := seg) (kn := [k]) e1 f1 (ng H htk.pos (by decide) (textB_name rfl hnm) (shape1 5 hk1 rfl) (.inr htk.at')) (by omega) (by omega)).mono ?_
  rintro a st' ⟨e2, e3, e4⟩
  have l2 := (a1.trans a2).l
  have g2 := (a1.trans a2).go
  simp only at e2 e3
  exact ⟨⟨by omega, by omega, by omega⟩, e4.mono fun k hk' => by subst hk'; rfl⟩
theorem merge_res (H : TsOk s ts) {f : Nat} {st : PSt} {pos : Nat} (hs : St1 ts st) (hi : st.i + 1 < ts.length) (hf : ts.length - (st.i + 1) ≤ f) (hp : pos ≤ s.size) : Fine s ts StK st (mergeS ts f pos { st with i := st.i + 1 }) := by
  refine (want_res H _ (show st.i + 1 < ts.length from hi)).and ?_
  rintro _ _ ⟨rfl, h2⟩
  simp only at h2
  have a1 : Adv ts st { st with i := st.i + 1 + 1 } := ⟨h2, by simp only; omega, by simp only; omega⟩
  refine (list_res H (a1.st hs) (K := fun k => k = 17) (fun st' hs' hi' => named_res H hs') (by simp only; omega)).and ?_
  rintro kids st2 ⟨a2, hk, seg, kn, e1, f1, hkn⟩
  refine (want_res H _ a2.i).and ?_
  rintro _ _ ⟨rfl, h3⟩
  have a3 := (a1.trans a2).trans (.one h3)
  have hfew := (a3.st hs).few H
  have hsh : shapeB 13 kn = true := List.all_eq_true.2 fun k hk => by rw [hkn k hk]; rfl
  refine (mk_res (kind := 13) (text := ⟨#[]⟩) (pos := (pos : Int)) (st := { st2 with i := st2.i + 1 }) (l0 := st.l) (seg := seg) (kn := kn) e1 f1 (ng H hp (by decide) rfl hsh (.inl ⟨rfl, by decide⟩)) (by omega) (by omega)).mono ?_
  rintro a st' ⟨e2, e3, e4⟩
  have l2 := (a1.trans a2).l
  have g2 := (a1.trans a2).go
  simp only at e2 e3
  exact ⟨⟨by omega, by omega, by omega⟩, e4.mono fun k hk' => by subst hk'; rfl⟩
theorem loop_res (H : TsOk s ts) {ex bl : PSt → Option (PR Nat)} {f : Nat} (hex : FineF s ts EK 9 f ex) (hbl : FineF s ts (fun k => k = 4) 0 f bl) {st : PSt} {pos : Nat} (hs : St1 ts st) (hi : st.i + 1 < ts.length) (hf : 12 * (ts.length - (st.i + 1)) + 9 ≤ f) (hp : pos ≤ s.size) : Fine s ts StK st (loopS ex bl pos { st with i := st.i + 1 }) := by
  have a0 : Adv ts st { st with i := st.i + 1 } := .one hi
  refine (hex _ (a0.st hs) hf).and ?_
  rintro e st2 ⟨a2, he⟩
  have g2 := a2.go
  simp only at g2
  refine (hbl _ ((a0.trans a2).st hs) (by omega)).and ?_
  rintro b st3 ⟨a3, hb⟩
  obtain ⟨seg, k, j, q1, q2, q3, q4⟩ := Ends.two he hb
  subst q4
  have a4 := (a0.trans a2).trans a3
  have hfew := (a4.st hs).few H
  have hsh : shapeB 8 [k, 4] = true := by
    show (decide ([k, 4].length = 2) && exprB k && true) = true
    rw [show exprB k = true from q3]; rfl
  refine (mk_res (kind := 8) (text := ⟨#[]⟩) (pos := (pos : Int)) (st := st3) (l0 := st.l) (seg := seg) (kn := [k, 4]) q1 q2 (ng H hp (by decide) rfl hsh (.inl ⟨rfl, by decide⟩)) (by omega) (by omega)).mono ?_
  rintro a st' ⟨e2, e3, e4⟩
  have l3 := a2.l
  have l4 := a3.l
  have g3 := a3.go
  have i3 := a3.i
  simp only at l3
  exact ⟨⟨by omega, by omega, by omega⟩, e4.mono fun k hk' => by subst hk'; rfl⟩
theorem choice_res (H : TsOk s ts) {ex bl : PSt → Option (PR Nat)} {f : Nat} (hex : FineF s ts EK 9 f ex) (hbl : FineF s ts (fun k => k = 4) 0 f bl) {st : PSt} {pos : Nat} (hs : St1 ts st) (hi : st.i + 1 < ts.length) (hf : 12 * (ts.length - (st.i + 1)) + 9 ≤ f) (hp : pos ≤ s.size) : Fine s ts StK st (choiceS ts ex bl pos { st with i := st.i + 1 }) := by
  have a0 : Adv ts st { st with i := st.i + 1 } := .one hi
  refine (hex _ (a0.st hs) hf).and ?_
  rintro e st2 ⟨a2, he⟩
  have g2 := a2.go
  simp only at g2
  refine (hbl _ ((a0.trans a2).st hs) (by omega)).and ?_
  rintro b st3 ⟨a3, hb⟩
  have g3 := a3.go
  have i3 := a3.i
  have l2 := a2.l
  have l3 := a3.l
  simp only at l2
  have a4 := (a0.trans a2).trans a3
  have fin : ∀ (c : Nat) (st4 : PSt) (i : Int), st4.i < ts.length → st3.i ≤ st4.i → st4.l.length + 2 * st3.i ≤ st3.l.length + 2 * st4.i + 1 → Ends s st3.l (fun k => k = i) c st4 → (i = 4 ∨ i = 14) → Fine s ts StK st (mkS 7 ⟨#[]⟩ pos [(e : Int), (b : Int), (c : Int)] st4) := fun c st4 i h1 h2 h3 hc hi4 => by
    obtain ⟨seg, k, j, i', q1, q2, q3, q4, q5⟩ := Ends.three he hb hc
    subst q4
    subst q5
    have hsh : shapeB 7 [k, 4, i'] = true := by
      show (decide ([k, 4, i'].length = 3) && exprB k && true && (i' == 4 || i' == 14)) = true
      rw [show exprB k = true from q3]
      rcases hi4 with rfl | rfl <;> rfl
    have hfew := (a4.st hs).few H
    have := H.len.2
    have := hs.l
    refine (mk_res (kind := 7) (text := ⟨#[]⟩) (pos := (pos : Int)) (st := st4) (l0 := st.l) (seg := seg) (kn := [k, 4, i']) q1 q2 (ng H hp (by decide) rfl hsh (.inl ⟨rfl, by decide⟩)) (by omega) (by omega)).mono ?_
    rintro a st' ⟨e2, e3, e4⟩
    exact ⟨⟨by omega, by omega, by omega⟩, e4.mono fun k hk' => by subst hk'; rfl⟩
  rcases take_res H ⟨#[101, 108, 115, 101]⟩ a3.i with e1 | ⟨e1, e2⟩
  · rw [e1]
    simp only
    have hfew := (a4.st hs).few H
    refine (mk_res (kind := 14) (text := ⟨#[]⟩) (pos := ((0 : Nat) : Int)) (st := st3) (l0 := st3.l) (seg := []) (kn := []) (by simp) (.nil _) (ng H (Nat.zero_le _) (by decide) rfl rfl (.inl ⟨rfl, by decide⟩)) (by omega) (by omega)).and ?_
    rintro c st4 ⟨w1, w2, w3⟩
    exact fin c st4 14 (by omega) (by omega) (by omega) w3 (.inr rfl)
  · rw [e1]
    simp only
    have a5 : Adv ts st3 { st3 with i := st3.i + 1 } := .one e2
    refine (hbl _ (a5.st (a4.st hs)) (by simp only; omega)).and ?_
    rintro c st4 ⟨a6, hc⟩
    have a7 := a5.trans a6
    have := a7.l
    have := a7.go
    exact fin c st4 4 a7.i (by omega) (by omega) hc (.inl rfl)
theorem sword_res (H : TsOk s ts) {ex bl : PSt → Option (PR Nat)} {f : Nat} (hex : FineF s ts EK 9 f ex) (hbl : FineF s ts (fun k => k = 4) 0 f bl) {st : PSt} {pos : Nat} {w : ByteArray} {g : Int → PSt → Option (PR Nat)} (hs : St1 ts st) (hi : st.i + 1 < ts.length) (hf : 12 * (ts.length - (st.i + 1)) + 9 ≤ f) (hp : pos ≤ s.size) (hw : swordS ts ex bl f w = some g) : Fine s ts StK st (g pos { st with i := st.i + 1 }) := by
  rw [swordS] at hw
  split at hw
  · cases hw; exact let_res H hex hs hi hf
  split at hw
  · cases hw; exact choice_res H hex hbl hs hi hf hp
  split at hw
  · cases hw; exact loop_res H hex hbl hs hi hf hp
  split at hw
  · cases hw; exact closed_res H hex hs hi hf hp (by omega)
  split at hw
  · cases hw; exact closed_res H hex hs hi hf hp (by omega)
  split at hw
  · cases hw; exact closed_res H hex hs hi hf hp (by omega)
  split at hw
  · cases hw; exact merge_res H hs hi (by omega) hp
  · cases hw
structure StmtFine (s : ByteArray) (ts : List Tok) (num : Int → ByteArray) (f : Nat) : Prop where
  stmt : FineF s ts StK 2 f (stmtS num ts f)
  many : ∀ l0 i0 acc st, St1 ts st → i0 < st.i → acc.length + i0 ≤ st.i → EndsL s l0 StK acc st → 12 * (ts.length - st.i) + 3 ≤ f → Res (fun kids st' => st'.i < ts.length ∧ st.i ≤ st'.i ∧ st'.l.length + 2 * st.i ≤ st.l.length + 2 * st'.i ∧ kids.length + i0 ≤ st'.i ∧ EndsL s l0 StK kids st') (manyS num ts f acc st)
  block : FineF s ts (fun k => k = 4) 0 f (blockS num ts f)
theorem stmt_fine (H : TsOk s ts) (hnum : ∀ n : Int, 0 ≤ n → n ≤ 9223372036854775807 → digB (num n) = true ∧ (num n).size < 4611686018427387904) : ∀ f, StmtFine s ts num f
  | 0 => by
    have z : ∀ st, St1 ts st → ∀ c, ¬ 12 * (ts.length - st.i) + c ≤ 0 := fun st hs c h => by have := hs.i; omega
    exact ⟨fun st hs h => (z st hs _ h).elim, fun _ _ _ st hs _ _ _ h => (z st hs _ h).elim, fun st hs h => (z st hs _ h).elim⟩
  | f + 1 => by
    have ih := stmt_fine H hnum f
    have E := exp_fine (num := num) H hnum f
    refine ⟨?_, ?_, ?_⟩
    · intro st hs hf
      obtain ⟨t, ht, htk⟩ := H.get hs.i
      have hi := hs.i
      rw [stmtS, ht]
      simp only
      cases hw : (if t.kind = 2 then swordS ts (exprS num ts f) (blockS num ts f) f t.text else none) with
      | some g =>
        by_cases k2 : t.kind = 2
        · rw [if_pos k2] at hw
          have h1 := H.go ht (by omega)
          exact sword_res H E.expr ih.block hs h1 (by omega) htk.pos hw
        · rw [if_neg k2] at hw; cases hw
      | none =>
        simp only
        refine (E.back st hs (by omega)).and ?_
        rintro e st1 ⟨a1, he⟩
        obtain ⟨x, hx, hxk, hx0, hx1⟩ := he.at
        obtain ⟨t1, ht1, htk1⟩ := H.get a1.i
        rw [ht1, hx]
        simp only
        have g1 := a1.go
        have l1 := a1.l
        obtain ⟨seg, k, q1, q2, q3⟩ := he
        have hkx : x.kind = k := by
          have hL : ∀ j x, seg[j]? = some x → st1.l[st.l.length + j]? = some x := fun j x hx => by
            rw [q1, List.getElem?_append_right (by omega), Nat.add_sub_cancel_left]; exact hx
          have := q2.kinds hL
          simp only [List.map_cons, List.map_nil, List.cons.injEq, and_true, kindP, Int.toNat_natCast, hx, Option.map_some, Option.getD_some] at this
          exact this
        by_cases k22 : x.kind = 22
        · rw [if_pos k22]
          rcases take_res H ⟨#[59]⟩ a1.i with e1 | ⟨e1, e2⟩
          · rw [e1]; exact (by decide : (60 : Int) ≠ 0)
          · rw [e1]
            simp only
            have a2 := a1.trans (.one e2)
            have hfew := (a2.st hs).few H
            have hxp : x.pos = ((x.pos.toNat : Nat) : Int) := by omega
            have hk' : k = 22 := by omega
            subst hk'
            rw [hxp]
            refine (mk_res (kind := 12) (text := ⟨#[]⟩) (pos := ((x.pos.toNat : Nat) : Int)) (st := { st1 with i := st1.i + 1 }) (l0 := st.l) (seg := seg) (kn := [22]) q1 q2 (ng H (by omega) (by decide) rfl rfl (.inl ⟨rfl, by decide⟩)) (by omega) (by omega)).mono ?_
            rintro a st' ⟨e2, e3, e4⟩
            simp only at e2 e3
            exact ⟨⟨by omega, by omega, by omega⟩, e4.mono fun k hk' => by subst hk'; rfl⟩
        · rw [if_neg k22]
          cases hpl : placeK x.kind with
          | false => exact (by decide : (60 : Int) ≠ 0)
          | true =>
            simp only [if_true]
            refine (want_res H _ a1.i).and ?_
            rintro _ _ ⟨rfl, h2⟩
            have a2 := a1.trans (.one h2)
            refine (E.expr _ (a2.st hs) (by simp only; omega)).and ?_
            rintro g st2 ⟨a3, hg⟩
            refine (want_res H _ a3.i).and ?_
            rintro _ _ ⟨rfl, h3⟩
            have a4 := (a2.trans a3).trans (.one h3)
            have hfew := (a4.st hs).few H
            obtain ⟨seg3, k', j, r1, r2, r3, r4⟩ := Ends.two (⟨seg, k, q1, q2, rfl⟩ : Ends s st.l (fun i => i = k) e st1) hg
            have r3 : k' = k := r3
            subst r3
            have hsh : shapeB 6 [k', j] = true := by
              show (exprsB [k', j] 2 && (k' == 17 || k' == 20 || k' == 21 || k' == 30)) = true
              rw [exprs2 q3 r4]
              rw [placeK, hkx] at hpl
              exact hpl
            refine (mk_res (kind := 6) (text := ⟨#[]⟩) (pos := ((t1.frm : Nat) : Int)) (st := { st2 with i := st2.i + 1 }) (l0 := st.l) (seg := seg3) (kn := [k', j]) r1 r2 (ng H htk1.pos (by decide) rfl hsh (.inl ⟨rfl, by decide⟩)) (by omega) (by omega)).mono ?_
            rintro a st' ⟨e2, e3, e4⟩
            have := a3.l; have := a3.go
            simp only at *
            exact ⟨⟨by omega, by omega, by omega⟩, e4.mono fun k hk' => by subst hk'; rfl⟩
    · intro l0 i0 acc st hs hi0 hacc he hf
      have hi := hs.i
      have hlen := H.len.2
      obtain ⟨t, ht, htk⟩ := H.get hi
      rw [manyS, if_neg (by omega), ht]
      simp only
      cases hb : isB t [⟨#[125]⟩] with
      | true => exact ⟨hi, Nat.le_refl _, Nat.le_refl _, hacc, he⟩
      | false =>
        simp only [Bool.false_eq_true, if_false]
        refine (ih.stmt st hs (by omega)).and ?_
        rintro k st2 ⟨a2, seg2, k2, e1, f2, hk2⟩
        obtain ⟨seg, kn, e3, f3, hkn⟩ := he
        have g2 := a2.go
        have l2 := a2.l
        refine (ih.many l0 i0 (acc ++ [(k : Int)]) st2 (a2.st hs) (by omega) (by rw [List.length_append, List.length_singleton]; omega) ⟨seg ++ seg2, kn ++ [k2], by rw [e1, e3, List.append_assoc], f3.append f2 (by rw [e3, List.length_append]), fun k hk => ?_⟩ (by omega)).mono ?_
        · rcases List.mem_append.1 hk with hk | hk
          · exact hkn k hk
          · rw [List.mem_singleton] at hk; subst hk; exact hk2
        · rintro kids st' ⟨q1, q2, q3, q4, q5⟩
          exact ⟨q1, by omega, by omega, q4, q5⟩
    · intro st hs hf
      obtain ⟨t, ht, htk⟩ := H.get hs.i
      rw [blockS, ht]
      simp only
      refine (want_res H _ hs.i).and ?_
      rintro _ _ ⟨rfl, h2⟩
      have a1 : Adv ts st { st with i := st.i + 1 } := .one h2
      refine (ih.many st.l st.i [] _ (a1.st hs) (Nat.lt_succ_self _) (by simp) ⟨[], [], by simp, .nil _, by simp⟩ (by simp only; omega)).and ?_
      rintro kids st2 ⟨q1, q2, q3, q4, seg, kn, e1, f1, hkn⟩
      refine (want_res H _ q1).and ?_
      rintro _ _ ⟨rfl, h3⟩
      simp only at q2 q3
      have a2 : Adv ts st { st2 with i := st2.i + 1 } := ⟨h3, by simp only; omega, by simp only; omega⟩
      have hfew := (a2.st hs).few H
      have hsh : shapeB 4 kn = true := List.all_eq_true.2 fun k hk => hkn k hk
      refine (mk_res (kind := 4) (text := ⟨#[]⟩) (pos := ((t.frm : Nat) : Int)) (st := { st2 with i := st2.i + 1 }) (l0 := st.l) (seg := seg) (kn := kn) e1 f1 (ng H htk.pos (by decide) rfl hsh (.inl ⟨rfl, by decide⟩)) (by omega) (by omega)).mono ?_
      rintro a st' ⟨e2, e3, e4⟩
      simp only at e2 e3
      exact ⟨⟨by omega, by omega, by omega⟩, e4⟩
def DeK (k : Int) : Prop := (k == 2 || k == 3) = true
theorem decl_fine (H : TsOk s ts) {bl : PSt → Option (PR Nat)} {f : Nat} (hbl : FineF s ts (fun k => k = 4) 0 f bl) {st : PSt} (hs : St1 ts st) (hf : 12 * (ts.length - st.i) ≤ f) : Fine s ts DeK st (declS ts bl f st) := by
  have hi := hs.i
  rw [declS]
  rcases take_res H ⟨#[114, 101, 99]⟩ hi with e1 | ⟨e1, e2⟩
  · rw [e1]
    simp only [fnS]
    refine (want_res H _ hi).and ?_
    rintro _ _ ⟨rfl, h1⟩
    refine (name_res H h1).and ?_
    rintro t _ ⟨⟨rfl, h2⟩, htk, hnm⟩
    refine (want_res H _ h2).and ?_
    rintro _ _ ⟨rfl, h3⟩
    simp only at h1 h2 h3
    have a1 : Adv ts st { st with i := st.i + 1 + 1 + 1 } := ⟨h3, by simp only; omega, by simp only; omega⟩
    refine (list_res H (a1.st hs) (K := fun k => k = 17) (fun st' hs' hi' => named_res H hs') (by simp only; omega)).and ?_
    rintro kids st2 ⟨a2, hk, seg, kn, q1, f1, hkn⟩
    have a3 := a1.trans a2
    have i2 := a2.i
    have := H.len.2
    rw [if_neg (by omega)]
    have g2 := a2.go
    simp only at g2
    refine (hbl _ (a3.st hs) (by omega)).and ?_
    rintro b st3 ⟨a4, seg2, j, q2, f2, rfl⟩
    have a5 := a3.trans a4
    have hfew := (a5.st hs).few H
    have hlen := f1.len
    have hsh : shapeB 3 (kn ++ [4]) = true := by
      show (decide (0 < (kn ++ [4]).length) && (((kn ++ [4]).take ((kn ++ [4]).length - 1)).all fun k => k == 17) && ((kn ++ [4]).getD ((kn ++ [4]).length - 1) 0 == 4)) = true
      rw [List.length_append, List.length_singleton, Nat.add_sub_cancel, List.take_left', List.getD_eq_getElem?_getD, List.getElem?_append_right (Nat.le_refl _), Nat.sub_self]
      · rw [decide_eq_true (by omega), show (kn.all fun k => k == 17) = true from List.all_eq_true.2 fun k hk => by rw [hkn k hk]; rfl]; rfl
      · rfl
    refine (mk_res (kind := 3) (text := t.text) (pos := ((t.frm : Nat) : Int)) (kids := kids ++ [(b : Int)]) (st := st3) (l0 := st.l) (seg := seg ++ seg2) (kn := kn ++ [4]) (by rw [q2, q1, List.append_assoc]) (f1.append f2 (by rw [q1, List.length_append])) (ng H htk.pos (by decide) (textB_name rfl hnm) hsh (.inr htk.at')) (by omega) (by omega)).mono ?_
    rintro a st' ⟨e2, e3, e4⟩
    have := a2.l; have := a4.l; have := a4.go; have := a4.i
    simp only at *
    exact ⟨⟨by omega, by omega, by omega⟩, e4.mono fun k hk' => by subst hk'; rfl⟩
  · rw [e1]
    simp only [recS]
    refine (name_res H e2).and ?_
    rintro t _ ⟨⟨rfl, h2⟩, htk, hnm⟩
    refine (want_res H _ h2).and ?_
    rintro _ _ ⟨rfl, h3⟩
    simp only at h2 h3
    have a1 : Adv ts st { st with i := st.i + 1 + 1 + 1 } := ⟨h3, by simp only; omega, by simp only; omega⟩
    refine (list_res H (a1.st hs) (K := fun k => k = 17) (fun st' hs' hi' => named_res H hs') (by simp only; omega)).and ?_
    rintro kids st2 ⟨a2, hk, seg, kn, q1, f1, hkn⟩
    have a3 := a1.trans a2
    have hfew := (a3.st hs).few H
    have hsh : shapeB 2 kn = true := List.all_eq_true.2 fun k hk => by rw [hkn k hk]; rfl
    refine (mk_res (kind := 2) (text := t.text) (pos := ((t.frm : Nat) : Int)) (st := st2) (l0 := st.l) (seg := seg) (kn := kn) q1 f1 (ng H htk.pos (by decide) (textB_name rfl hnm) hsh (.inr htk.at')) (by omega) (by omega)).mono ?_
    rintro a st' ⟨e2, e3, e4⟩
    have := a2.l; have := a2.go; have := a2.i
    simp only at *
    exact ⟨⟨by omega, by omega, by omega⟩, e4.mono fun k hk' => by subst hk'; rfl⟩
end Go.Idl
end

section
namespace Go.Idl
variable {s : ByteArray} {ts : List Tok} {num : Int → ByteArray}
theorem decls_fine (H : TsOk s ts) (hnum : ∀ n : Int, 0 ≤ n → n ≤ 9223372036854775807 → digB (num n) = true ∧ (num n).size < 4611686018427387904) {F : Nat} (hF : 12 * ts.length ≤ F) : ∀ (g : Nat) (acc : List Int) (st : PSt), St1 ts st → acc.length ≤ st.i → EndsL s [] DeK acc st → ts.length - st.i < g →
    Res (fun kids st' => st'.i < ts.length ∧ st'.l.length ≤ 2 * st'.i ∧ EndsL s [] DeK kids st') (declsS num ts F g acc st)
  | 0, acc, st, hs, ha, he, hg => by omega
  | g + 1, acc, st, hs, ha, he, hg => by
    have hi := hs.i
    have hlen := H.len.2
    obtain ⟨t, ht, htk⟩ := H.get hi
    rw [declsS, if_neg (by omega), ht]
    simp only
    by_cases hk : t.kind = 0
    · rw [if_pos hk]; exact ⟨hi, hs.l, he⟩
    · rw [if_neg hk]
      refine (decl_fine H (stmt_fine (num := num) H hnum F).block hs (by omega)).and ?_
      rintro k st2 ⟨a2, seg2, k2, e1, f2, hk2⟩
      obtain ⟨seg, kn, e3, f3, hkn⟩ := he
      have g2 := a2.go
      refine decls_fine H hnum hF g (acc ++ [(k : Int)]) st2 (a2.st hs) (by rw [List.length_append, List.length_singleton]; omega) ⟨seg ++ seg2, kn ++ [k2], by rw [e1, e3, List.append_assoc], f3.append f2 (by rw [e3, List.length_append]), fun k hk => ?_⟩ (by omega)
      rcases List.mem_append.1 hk with hk | hk
      · exact hkn k hk
      · rw [List.mem_singleton] at hk; subst hk; exact hk2
theorem flat_le {l : List PN} {x : PN} (h : x ∈ l) : x.kids.length ≤ (l.flatMap (·.kids)).length := by
  induction l with
  | nil => cases h
  | cons y l ih =>
    rw [List.flatMap_cons, List.length_append]
    rcases List.mem_cons.1 h with rfl | h
    · omega
    · have := ih h; omega
theorem Forest.kids_le {o : Nat} {l : List PN} {ks kn : List Int} (a : Forest s o l ks kn) : (∀ x ∈ l, x.kids.length ≤ l.length) ∧ ks.length ≤ l.length := by
  have := a.perm.length_eq
  rw [List.length_append, List.length_map, List.length_range'] at this
  exact ⟨fun x hx => by have := flat_le hx; omega, by omega⟩
def TreeOf (s : ByteArray) (l : List PN) : Prop := ∃ seg kids kn, l = seg ++ [⟨1, ⟨#[]⟩, kids, 0⟩] ∧ Forest s 0 seg kids kn ∧ (kn.all fun k => k == 2 || k == 3) = true ∧ l.length ≤ 50000 ∧ deepOf (l.map PN.nd) ≤ 200
def RFine (s : ByteArray) : PO → Prop
  | .ok l => TreeOf s l
  | .err _ e => e ≠ 0
theorem tree_fine (H : TsOk s ts) (hnum : ∀ n : Int, 0 ≤ n → n ≤ 9223372036854775807 → digB (num n) = true ∧ (num n).size < 4611686018427387904) {f : Nat} (hf : 12 * ts.length + 20 ≤ f) : ∃ r, treeS num f ts = some r ∧ RFine s r := by
  have hd := decls_fine (num := num) H hnum (F := f) (by omega) f [] ⟨0, []⟩ ⟨H.len.1, Nat.le_refl _⟩ (Nat.le_refl _) ⟨[], [], rfl, .nil _, by simp⟩ (by simp only; omega)
  rw [treeS]
  cases hm : declsS num ts f f [] ⟨0, []⟩ with
  | none => rw [hm] at hd; exact hd.elim
  | some q =>
    rw [hm] at hd
    cases q with
    | err a e => exact ⟨_, rfl, hd⟩
    | ok kids st =>
      obtain ⟨h1, h2, seg, kn, e1, f1, hkn⟩ := hd
      have hlen := H.len.2
      rw [List.nil_append] at e1
      simp only [nodeS]
      rw [if_pos (by omega)]
      simp only
      obtain ⟨hk1, hk2⟩ := f1.kids_le
      by_cases hbig : 50000 < (st.l ++ [(⟨1, ⟨#[]⟩, kids, 0⟩ : PN)]).length
      · rw [if_pos hbig]; exact ⟨_, rfl, (by decide : (2 : Int) ≠ 0)⟩
      · rw [if_neg hbig]
        have hl : (st.l ++ [(⟨1, ⟨#[]⟩, kids, 0⟩ : PN)]).length = seg.length + 1 := by rw [e1, List.length_append, List.length_singleton]
        rw [if_pos]
        · by_cases hdp : 200 < deepOf ((st.l ++ [(⟨1, ⟨#[]⟩, kids, 0⟩ : PN)]).map PN.nd)
          · rw [if_pos hdp]; exact ⟨_, rfl, (by decide : (51 : Int) ≠ 0)⟩
          · rw [if_neg hdp]
            refine ⟨_, rfl, ?_⟩
            exact ⟨seg, kids, kn, by rw [e1], f1, List.all_eq_true.2 hkn, by omega, by omega⟩
        · refine List.all_eq_true.2 fun x hx => decide_eq_true ?_
          rcases List.mem_append.1 hx with hx | hx
          · rw [e1] at hx
            have := hk1 x hx
            omega
          · rw [List.mem_singleton] at hx
            subst hx
            show kids.length ≤ 100000
            omega
end Go.Idl
end

section
namespace Go.Idl
variable {s : ByteArray} {ts : List Tok} {num : Int → ByteArray}
theorem runN_take : ∀ (l : List UInt8), ∀ c ∈ l.take (runN l), (isL c.toNat || isD c.toNat) = true
  | [], c, h => by simp [runN] at h
  | x :: l, c, h => by
    rw [runN] at h
    by_cases hx : (isL x.toNat || isD x.toNat) = true
    · rw [if_pos hx, List.take_succ_cons] at h
      rcases List.mem_cons.1 h with rfl | h
      · exact hx
      · exact runN_take l c h
    · rw [if_neg hx, List.take_zero] at h; cases h
theorem numR_range {l : List UInt8} : 0 ≤ (numR l).1 ∧ (numR l).1 ≤ 9223372036854775807 := by
  have hw : ∀ (base : Int) (l : List UInt8), 0 < base → 0 ≤ (wholeR base l).1 ∧ (wholeR base l).1 ≤ 9223372036854775807 := fun base l hb => by
    unfold wholeR
    cases h : wholeF base l 0 with
    | none => exact ⟨Int.le_refl _, by show (0 : Int) ≤ 9223372036854775807; decide⟩
    | some m => exact wholeF_range hb (by decide) (by decide) h
  unfold numR
  split
  · split
    · have := u8_lt (l.getD 1 0)
      simp only [bt]; omega
    · exact ⟨by decide, by decide⟩
  · split
    · exact hw 16 _ (by decide)
    · exact hw 10 _ (by decide)
theorem bs_mk (l : List UInt8) : bs ⟨l.toArray⟩ = l := rfl
theorem sz_mk (l : List UInt8) : (ByteArray.mk l.toArray).size = l.length := by rw [bs_size, bs_mk]
theorem nextA_ok {a : Nat} (ha : a ≤ s.size) (h0 : (nextA ((bs s).drop a) a).2.1 = 0) : TokOk s (nextA ((bs s).drop a) a).1 ∧ (nextA ((bs s).drop a) a).2.2 ≤ s.size := by
  have hlen : ((bs s).drop a).length = s.size - a := by rw [List.length_drop, bs_size]
  cases hl : (bs s).drop a with
  | nil =>
    refine ⟨⟨⟨by show a + 0 ≤ s.size; omega, rfl⟩, fun h => (by cases h), Int.le_refl _, (by show (0 : Int) ≤ 9223372036854775807; decide)⟩, ha⟩
  | cons c r =>
    rw [hl] at h0 hlen
    simp only [nextA] at h0 ⊢
    split at h0
    · cases h0
    rename_i h41
    rw [if_neg h41]
    split at h0
    · cases h0
    rename_i h40
    rw [if_neg h40]
    have hc : c.toNat < 256 := c.toNat_lt
    have hsz : (ByteArray.mk ((c :: r).take (lenT (c :: r) c)).toArray).size = min (lenT (c :: r) c) (c :: r).length := by rw [sz_mk, List.length_take]
    have hn : lenT (c :: r) c ≤ (c :: r).length := lenT_le (l := c :: r) rfl (fun _ => sign_fits rfl)
    refine ⟨⟨⟨?_, ?_⟩, fun hk => ?_, ?_⟩, by simp only; omega⟩
    · simp only [hsz]; omega
    · simp only [hsz, hl, bs_mk]
      rw [Nat.min_eq_left hn]
    · simp only at hk ⊢
      unfold kindT at hk
      split at hk
      · rename_i h2
        split at hk
        · cases hk
        · rename_i hw
          have hL : isL c.toNat = true := by rw [← cls2 hc]; exact decide_eq_true h2
          have hlT : lenT (c :: r) c = runN (c :: r) := by rw [lenT, if_pos h2]
          have hall := runN_take (c :: r)
          rw [hlT] at hw ⊢
          have hr : runN (c :: r) = runN r + 1 := by rw [runN, hL]; rfl
          rw [hr, List.take_succ_cons] at hw hall ⊢
          rw [nameB, bs_mk, decide_eq_true (by simp), Bool.and_true, Bool.and_eq_true]
          refine ⟨?_, by simpa using hw⟩
          rw [nameC, hL, Bool.true_and]
          exact List.all_eq_true.2 fun x hx => hall x (List.mem_cons_of_mem _ hx)
      · repeat' split at hk
        all_goals cases hk
    · simp only
      split
      · exact numR_range
      · exact ⟨Int.le_refl _, by decide⟩
theorem skip_size {a : Nat} (ha : a ≤ s.size) : a + skipN ((bs s).drop a) false ≤ s.size ∧ ((bs s).drop a).drop (skipN ((bs s).drop a) false) = (bs s).drop (a + skipN ((bs s).drop a) false) := by
  have := skipN_le ((bs s).drop a) false
  rw [List.length_drop, ← bs_size] at this
  exact ⟨by omega, List.drop_drop⟩
theorem scanL_ok : ∀ (f : Nat) (a : Nat) (acc : List Tok), a ≤ s.size → s.size - a < f → (∀ t ∈ acc, TokOk s t) → (scanL f ((bs s).drop a) a acc).2.2 = 0 → ∃ l t, (scanL f ((bs s).drop a) a acc).1 = l ++ [t] ∧ t.kind = 0 ∧ (∀ t ∈ l, TokOk s t) ∧ TokOk s t
  | 0, a, acc, ha, hf, hok, h => by omega
  | f + 1, a, acc, ha, hf, hok, h => by
    obtain ⟨hs1, hs2⟩ := skip_size (s := s) ha
    simp only [scanL] at h ⊢
    by_cases he : (nextL ((bs s).drop a) a).2.1 = 0
    · rw [if_pos he] at h ⊢
      have hna : nextL ((bs s).drop a) a = nextA ((bs s).drop (a + skipN ((bs s).drop a) false)) (a + skipN ((bs s).drop a) false) := by rw [nextL, hs2]
      have hT := nextA_ok hs1 (by rw [← hna]; exact he)
      rw [← hna] at hT
      by_cases hk : (nextL ((bs s).drop a) a).1.kind = 0
      · rw [if_pos hk] at h ⊢
        exact ⟨acc, _, rfl, hk, hok, hT.1⟩
      · rw [if_neg hk] at h ⊢
        obtain ⟨g1, g2⟩ := nextL_go he hk
        rw [List.length_drop, ← bs_size] at g2
        have hdr : ((bs s).drop a).drop ((nextL ((bs s).drop a) a).2.2 - a) = (bs s).drop (nextL ((bs s).drop a) a).2.2 := by rw [List.drop_drop]; congr 1; omega
        rw [hdr] at h ⊢
        exact scanL_ok f _ _ hT.2 (by omega) (fun t ht => by
          rcases List.mem_append.1 ht with ht | ht
          · exact hok t ht
          · rw [List.mem_singleton] at ht; subst ht; exact hT.1) h
    · rw [if_neg he] at h
      exact absurd h he
theorem scan_tok (hsz : s.size < 4611686018427387904) (h : (scanS s).2.2 = 0) : TsOk s (scanS s).1 := by
  have hlen := scanS_len s
  rw [scanS] at h hlen ⊢
  by_cases hl : 200000 < s.size
  · rw [if_pos hl] at h; cases h
  · rw [if_neg hl] at h hlen ⊢
    obtain ⟨l, t, e, hk, h1, h2⟩ := scanL_ok (s := s) (s.size + 1) 0 [] (Nat.zero_le _) (by omega) (fun t ht => by cases ht) h
    rw [List.drop_zero] at e
    rw [e] at hlen ⊢
    refine ⟨⟨by simp, hlen⟩, fun t' ht => ?_, fun t' ht => ?_, hsz⟩
    · rw [List.length_append, List.length_singleton, Nat.add_sub_cancel, List.getElem?_append_right (Nat.le_refl _), Nat.sub_self] at ht
      simp at ht; subst ht; exact hk
    · rcases List.mem_append.1 ht with ht | ht
      · exact h1 t' ht
      · rw [List.mem_singleton] at ht; subst ht; exact h2
theorem scanL_bad : ∀ (f : Nat) (l : List UInt8) (a : Nat) (acc : List Tok), (scanL f l a acc).2.2 ≠ 0 → (scanL f l a acc).1 = []
  | 0, _, _, _, h => rfl
  | f + 1, l, a, acc, h => by
    simp only [scanL] at h ⊢
    split at h
    · rename_i h1
      rw [if_pos h1]
      split at h
      · exact absurd rfl h
      · rename_i h2
        rw [if_neg h2]
        exact scanL_bad f _ _ _ h
    · rename_i h1
      rw [if_neg h1]
theorem scan_bad (h : (scanS s).2.2 ≠ 0) : (scanS s).1 = [] := by
  rw [scanS] at h ⊢
  split at h
  · rename_i h1; rw [if_pos h1]
  · rename_i h1; rw [if_neg h1]; exact scanL_bad _ _ _ _ h
theorem prog_fine (hnum : ∀ n : Int, 0 ≤ n → n ≤ 9223372036854775807 → digB (num n) = true ∧ (num n).size < 4611686018427387904) (hsz : s.size < 4611686018427387904) : ∃ f r, progS num f s = some r ∧ RFine s r := by
  refine ⟨12 * (scanS s).1.length + 20, ?_⟩
  rw [progS]
  by_cases he : (scanS s).2.2 = 0
  · rw [if_pos he]
    cases hn : nestL (scanS s).1 0 with
    | some a => exact ⟨_, rfl, (by decide : (51 : Int) ≠ 0)⟩
    | none => exact tree_fine (scan_tok hsz he) hnum (Nat.le_refl _)
  · rw [if_neg he]; exact ⟨_, rfl, he⟩
end Go.Idl
end

section
namespace Go.Idl
def figsF : Nat → Nat → List UInt8
  | 0, _ => []
  | f + 1, u => if u < 10 then [UInt8.ofNat (48 + u)] else figsF f (u / 10) ++ [UInt8.ofNat (48 + u % 10)]
def numS (n : Int) : ByteArray := ⟨(figsF 20 n.toNat).toArray⟩
theorem figsF_eq : ∀ (f u : Nat), u < 10 ^ f → 0 < f → figsF f u = Go.Lib.decDigits u
  | 0, u, h, h0 => by omega
  | f + 1, u, h, h0 => by
    rw [figsF, Go.Lib.decDigits]
    by_cases hu : u < 10
    · rw [if_pos hu, dif_pos hu]
    · rw [if_neg hu, dif_neg hu]
      have hf : u / 10 < 10 ^ f := by rw [Nat.pow_succ] at h; omega
      rw [figsF_eq f (u / 10) hf (by
        rcases Nat.eq_zero_or_pos f with rfl | h
        · simp at hf; omega
        · exact h)]
theorem numS_itoa {n : Int} (h0 : 0 ≤ n) (h1 : n ≤ 9223372036854775807) : numS n = ⟨(Go.Lib.itoa n).toArray⟩ := by
  rw [numS, Go.Lib.itoa, if_neg (by omega), figsF_eq _ _ (by omega) (by decide)]
theorem fig_nat {d : Nat} (h : d < 10) : (UInt8.ofNat (48 + d)).toNat = 48 + d := by rw [UInt8.toNat_ofNat']; omega
theorem figs_head : ∀ (f u : Nat), u < 10 ^ f → 0 < f → ∃ c r, figsF f u = c :: r ∧ 48 ≤ c.toNat ∧ c.toNat ≤ 57 ∧ (r = [] ∨ c.toNat ≠ 48) ∧ (0 < u → c.toNat ≠ 48)
  | 0, u, h, h0 => by omega
  | f + 1, u, h, h0 => by
    rw [figsF]
    by_cases hu : u < 10
    · rw [if_pos hu]
      have := fig_nat hu
      exact ⟨_, [], rfl, by omega, by omega, .inl rfl, fun _ => by omega⟩
    · rw [if_neg hu]
      have hf : u / 10 < 10 ^ f := by rw [Nat.pow_succ] at h; omega
      obtain ⟨c, r, e, h1, h2, h3, h4⟩ := figs_head f (u / 10) hf (by
        rcases Nat.eq_zero_or_pos f with rfl | h
        · simp at hf; omega
        · exact h)
      have h5 := h4 (by omega)
      exact ⟨c, r ++ [UInt8.ofNat (48 + u % 10)], by rw [e]; rfl, h1, h2, .inr h5, fun _ => h5⟩
theorem figs_whole : ∀ (f u : Nat), u < 10 ^ f → 0 < f → u ≤ 9223372036854775807 → wholeF 10 (figsF f u) 0 = some (u : Int)
  | 0, u, h, h0, h1 => by omega
  | f + 1, u, h, h0, h1 => by
    rw [figsF]
    have one : ∀ (d m : Nat), d < 10 → 10 * m + d ≤ 9223372036854775807 → wholeF 10 [UInt8.ofNat (48 + d)] (m : Int) = some ((m * 10 + d : Nat) : Int) := fun d m hd hm => by
      have hf : figI 255 (((UInt8.ofNat (48 + d)).toNat : Nat) : Int) = (d : Int) := by
        rw [fig_nat hd, figI, if_pos (by omega)]; omega
      rw [wholeF, hf, if_neg (by omega), if_neg (by omega), wholeF]
      congr 1
    by_cases hu : u < 10
    · rw [if_pos hu]
      have := one u 0 hu (by omega)
      simpa using this
    · rw [if_neg hu]
      have hf : u / 10 < 10 ^ f := by rw [Nat.pow_succ] at h; omega
      rw [wholeF_append, figs_whole f (u / 10) hf (by
        rcases Nat.eq_zero_or_pos f with rfl | h
        · simp at hf; omega
        · exact h) (by omega)]
      simp only
      rw [one (u % 10) (u / 10) (by omega) (by omega)]
      congr 2; omega
theorem figs_len : ∀ (f u : Nat), (figsF f u).length ≤ f
  | 0, u => Nat.le_refl _
  | f + 1, u => by
    rw [figsF]
    split
    · simp
    · have := figs_len f (u / 10)
      rw [List.length_append, List.length_singleton]; omega
theorem numS_fine (n : Int) (h0 : 0 ≤ n) (h1 : n ≤ 9223372036854775807) : digB (numS n) = true ∧ (numS n).size < 4611686018427387904 := by
  obtain ⟨c, r, e, q1, q2, q3, _⟩ := figs_head 20 n.toNat (by omega) (by decide)
  have hw := figs_whole 20 n.toNat (by omega) (by decide) (by omega)
  have hl := figs_len 20 n.toNat
  have hb : bs (numS n) = c :: r := by rw [numS, bs_mk, e]
  rw [e] at hw hl
  have b0 : bt (c :: r) 0 = ((c.toNat : Nat) : Int) := rfl
  have hnum : numR (c :: r) = (((n.toNat : Nat) : Int), true) := by
    rw [numR]
    have e1 : (bt (c :: r) 0 == 39) = false := by rw [b0]; exact beq_eq_false_iff_ne.2 (by omega)
    have e2 : (decide (1 < (c :: r).length) && (bt (c :: r) 0 == 48) && (bt (c :: r) 1 == 120)) = false := by
      rcases q3 with rfl | q3
      · rfl
      · have : (bt (c :: r) 0 == 48) = false := by rw [b0]; exact beq_eq_false_iff_ne.2 (by omega)
        rw [this, Bool.and_false, Bool.false_and]
    rw [e1]
    simp only
    rw [e2]
    simp only [wholeR, hw]
    rfl
  refine ⟨?_, by rw [bs_size, hb]; omega⟩
  rw [digB, hb, hnum, b0, decide_eq_true (show (48 : Int) ≤ ((c.toNat : Nat) : Int) by omega), decide_eq_true (show ((c.toNat : Nat) : Int) ≤ 57 by omega)]
  rcases q3 with rfl | q3
  · rw [decide_eq_true (show (numS n).size = 1 by rw [bs_size, hb]; rfl)]; rfl
  · rw [show ((((c.toNat : Nat) : Int)) == 48) = false from beq_eq_false_iff_ne.2 (by omega)]
    simp
def exA : ByteArray := ⟨#[102, 110, 32, 102, 40, 41, 32, 123, 32, 120, 46, 97, 91, 49, 93, 32, 61, 32, 45, 120, 32, 42, 32, 50, 59, 32, 125]⟩
def exB : ByteArray := ⟨#[102, 110, 32, 102, 40, 41, 32, 123, 32, 49, 59, 32, 125]⟩
theorem exA_run : (match progS numS 80 exA with | some (.ok l) => decide (6 < l.length) | _ => false) = true := by kernel_rfl
theorem exB_run : (match progS numS 80 exB with | some (.err a e) => decide (a = 10) && decide (e = 60) | _ => false) = true := by kernel_rfl
end Go.Idl
end

section
namespace Go.Idl
def C3L0 : IC := (.seq (.ops [⟨some 45, .op (.bin .lss (.t 44) (.t 43)), none⟩]) (.seq (.cond (.t 45) .skip (.exit 0)) (.seq (.block 1 (.seq (.ops [⟨some 46, .op (.iaddr (.sl 4) (.t 42) (.t 44)), none⟩, ⟨some 47, .op (.load (some 4) (.t 46)), none⟩, ⟨some 11, .op (.alloc [.int .i64 0, .string ⟨#[]⟩, (.slice none 0 0), .int .i64 0]), none⟩, ⟨none, .op (.store 4 (.t 11) (.t 47)), none⟩]) (.seq (.seq (.ops [⟨some 48, .op (.faddr 3 (.t 11)), none⟩, ⟨some 49, .op (.load none (.t 48)), none⟩, ⟨some 50, .op (.bin .lss (.t 49) (.c (.int .i64 0))), none⟩, ⟨some 51, .op (.mov (.t 50)), none⟩, ⟨some 52, .op (.faddr 3 (.t 11)), (some (51, false))⟩, ⟨some 53, .op (.load none (.t 52)), (some (51, false))⟩, ⟨some 54, .op (.mov (.t 0)), (some (51, false))⟩, ⟨some 55, .op (.len .str (.t 54)), (some (51, false))⟩, ⟨some 56, .op (.bin .gtr (.t 53) (.t 55)), (some (51, false))⟩, ⟨some 57, .op (.pick (.t 51) (.c (.bool true)) (.t 56)), none⟩]) (.cond (.t 57) (.seq (.ops [⟨some 2, .op (.mov (.c (.bool false))), none⟩]) .ret) .skip)) (.seq (.ops [⟨some 58, .op (.faddr 0 (.t 11)), none⟩, ⟨some 59, .op (.load none (.t 58)), none⟩]) (.block 2 (.seq (.seq (.ops [⟨some 61, .op (.bin .eql (.t 59) (.c (.int .i64 2))), none⟩, ⟨some 60, .op (.mov (.t 61)), none⟩]) (.cond (.t 60) .skip (.seq (.ops [⟨some 62, .op (.bin .eql (.t 59) (.c (.int .i64 3))), none⟩, ⟨some 60, .op (.mov (.t 62)), none⟩]) (.cond (.t 60) .skip (.seq (.ops [⟨some 63, .op (.bin .eql (.t 59) (.c (.int .i64 5))), none⟩, ⟨some 60, .op (.mov (.t 63)), none⟩]) (.cond (.t 60) .skip (.seq (.ops [⟨some 64, .op (.bin .eql (.t 59) (.c (.int .i64 17))), none⟩, ⟨some 60, .op (.mov (.t 64)), none⟩]) (.cond (.t 60) .skip (.seq (.ops [⟨some 65, .op (.bin .eql (.t 59) (.c (.int .i64 22))), none⟩, ⟨some 60, .op (.mov (.t 65)), none⟩]) (.cond (.t 60) .skip (.seq (.ops [⟨some 66, .op (.bin .eql (.t 59) (.c (.int .i64 23))), none⟩, ⟨some 60, .op (.mov (.t 66)), none⟩]) (.cond (.t 60) .skip (.seq (.ops [⟨some 67, .op (.bin .eql (.t 59) (.c (.int .i64 18))), none⟩, ⟨some 60, .op (.mov (.t 67)), none⟩]) (.cond (.t 60) .skip (.ops [⟨some 68, .op (.bin .eql (.t 59) (.c (.int .i64 19))), none⟩, ⟨some 60, .op (.mov (.t 68)), none⟩]))))))))))))))) (.cond (.t 60) (.seq (.draw [⟨some 69, .op (.mov (.t 0)), none⟩, ⟨some 70, .op (.len .str (.t 69)), none⟩, ⟨some 71, .op (.faddr 3 (.t 11)), none⟩, ⟨some 72, .op (.load none (.t 71)), none⟩, ⟨some 73, .op (.bin .sub (.t 70) (.t 72)), none⟩, ⟨some 74, .op (.faddr 1 (.t 11)), none⟩, ⟨some 75, .op (.load none (.t 74)), none⟩, ⟨some 76, .op (.len .str (.t 75)), none⟩, ⟨some 77, .op (.bin .lss (.t 73) (.t 76)), none⟩, ⟨some 78, .op (.mov (.t 77)), none⟩, ⟨some 79, .op (.mov (.t 0)), (some (78, false))⟩, ⟨some 80, .op (.faddr 3 (.t 11)), (some (78, false))⟩, ⟨some 81, .op (.load none (.t 80)), (some (78, false))⟩, ⟨some 82, .op (.faddr 3 (.t 11)), (some (78, false))⟩, ⟨some 83, .op (.load none (.t 82)), (some (78, false))⟩, ⟨some 84, .op (.faddr 1 (.t 11)), (some (78, false))⟩, ⟨some 85, .op (.load none (.t 84)), (some (78, false))⟩, ⟨some 86, .op (.len .str (.t 85)), (some (78, false))⟩, ⟨some 87, .op (.bin .add (.t 83) (.t 86)), (some (78, false))⟩, ⟨some 88, .op (.sub .str (.t 79) (some (.t 81)) (some (.t 87)) none), (some (78, false))⟩, ⟨some 89, .op (.faddr 1 (.t 11)), (some (78, false))⟩, ⟨some 90, .op (.load none (.t 89)), (some (78, false))⟩, ⟨some 91, .op (.bin .neq (.t 88) (.t 90)), (some (78, false))⟩, ⟨some 92, .op (.pick (.t 78) (.c (.bool true)) (.t 91)), none⟩] [[], [0], [], [2], [3, 2, 1, 0], [], [5], [6, 5], [7, 6, 5, 4, 3, 2, 1, 0], [8, 7, 6, 5, 4, 3, 2, 1, 0], [9, 8, 7, 6, 5, 4, 3, 2, 1, 0], [9, 8, 7, 6, 5, 4, 3, 2, 1, 0], [9, 8, 7, 6, 5, 4, 3, 2, 1, 0, 11], [9, 8, 7, 6, 5, 4, 3, 2, 1, 0], [9, 8, 7, 6, 5, 4, 3, 2, 1, 0, 13], [9, 8, 7, 6, 5, 4, 3, 2, 1, 0], [9, 8, 7, 6, 5, 4, 3, 2, 1, 0, 15], [9, 8, 7, 6, 5, 4, 3, 2, 1, 0, 16, 15], [9, 8, 7, 6, 5, 4, 3, 2, 1, 0, 17, 16, 15, 14, 13], [9, 8, 7, 6, 5, 4, 3, 2, 1, 0, 18, 17, 16, 15, 14, 13, 12, 11, 10], [9, 8, 7, 6, 5, 4, 3, 2, 1, 0], [9, 8, 7, 6, 5, 4, 3, 2, 1, 0, 20], [9, 8, 7, 6, 5, 4, 3, 2, 1, 0, 21, 20, 19, 18, 17, 16, 15, 14, 13, 12, 11, 10], [22, 9, 8, 7, 6, 5, 4, 3, 2, 1, 0, 21, 20, 19, 18, 17, 16, 15, 14, 13, 12, 11, 10]]) (.cond (.t 92) (.seq (.ops [⟨some 2, .op (.mov (.c (.bool false))), none⟩]) .ret) .skip)) .skip))))))) (.ops [⟨some 93, .op (.bin .add (.t 44) (.c (.int .i64 1))), none⟩, ⟨some 44, .op (.mov (.t 93)), none⟩])))) def C3 : IFn := ⟨94, (.seq (.ops [⟨some 2, .op (.mov (.c (.bool false))), none⟩]) (.seq (.seq (.ops [⟨some 12, .call 4 [], none⟩, ⟨some 13, .op (.un .not (.t 12)), none⟩]) (.cond (.t 13) (.seq (.ops [⟨some 2, .op (.mov (.c (.bool false))), none⟩]) .ret) .skip)) (.seq (.seq (.ops [⟨some 14, .op (.mov (.t 0)), none⟩, ⟨some 15, .op (.len .str (.t 14)), none⟩, ⟨some 16, .op (.bin .gtr (.t 15) (.c (.int .i64 2500))), none⟩]) (.cond (.t 16) (.seq (.ops [⟨some 2, .op (.mov (.c (.bool true))), none⟩]) .ret) .skip)) (.seq (.ops [⟨some 18, .op (.mov (.t 0)), none⟩, ⟨some 19, .call 5 [.t 18], none⟩, ⟨some 17, .op (.mov (.t 19)), none⟩, ⟨some 20, .op (.extract (.t 17) 0), none⟩, ⟨some 21, .op (.extract (.t 17) 1), none⟩, ⟨some 22, .op (.extract (.t 17) 2), none⟩, ⟨some 3, .op (.mov (.t 20)), none⟩, ⟨some 4, .op (.mov (.t 21)), none⟩, ⟨some 5, .op (.mov (.t 22)), none⟩]) (.seq (.seq (.ops [⟨some 23, .op (.mov (.t 5)), none⟩, ⟨some 24, .op (.bin .neq (.t 23) (.c (.int .i64 0))), none⟩]) (.cond (.t 24) (.seq (.ops [⟨some 25, .op (.mov (.t 3)), none⟩, ⟨some 26, .op (.len .sl (.t 25)), none⟩, ⟨some 27, .op (.bin .eql (.t 26) (.c (.int .i64 0))), none⟩, ⟨some 2, .op (.mov (.t 27)), none⟩]) .ret) .skip)) (.seq (.seq (.ops [⟨some 29, .op (.mov (.t 3)), none⟩, ⟨some 30, .call 6 [.t 29], none⟩, ⟨some 28, .op (.mov (.t 30)), none⟩, ⟨some 31, .op (.extract (.t 28) 0), none⟩, ⟨some 32, .op (.extract (.t 28) 1), none⟩, ⟨some 6, .op (.mov (.t 31)), none⟩, ⟨some 7, .op (.mov (.t 32)), none⟩]) (.seq (.ops [⟨some 33, .op (.mov (.t 7)), none⟩, ⟨some 34, .op (.bin .neq (.t 33) (.c (.int .i64 0))), none⟩]) (.cond (.t 34) (.seq (.ops [⟨some 2, .op (.mov (.c (.bool false))), none⟩]) .ret) .skip))) (.seq (.seq (.ops [⟨some 36, .op (.mov (.t 3)), none⟩, ⟨some 37, .call 7 [.t 36], none⟩, ⟨some 35, .op (.mov (.t 37)), none⟩, ⟨some 38, .op (.extract (.t 35) 0), none⟩, ⟨some 39, .op (.extract (.t 35) 1), none⟩, ⟨some 8, .op (.mov (.t 38)), none⟩, ⟨some 9, .op (.mov (.t 39)), none⟩]) (.seq (.ops [⟨some 40, .op (.mov (.t 9)), none⟩, ⟨some 41, .op (.bin .neq (.t 40) (.c (.int .i64 0))), none⟩]) (.cond (.t 41) (.seq (.ops [⟨some 2, .op (.mov (.c (.bool false))), none⟩]) .ret) .skip))) (.seq (.seq (.ops [⟨some 42, .op (.mov (.t 3)), none⟩, ⟨some 43, .op (.len .sl (.t 42)), none⟩, ⟨some 44, .op (.mov (.c (.int .i64 0))), none⟩]) (.block 0 (.loop C3L0))) (.seq (.ops [⟨some 2, .op (.mov (.c (.bool true))), none⟩]) .ret))))))))), [.tmp 2]⟩
def C4 : IFn := ⟨32, (.seq (.ops [⟨some 0, .op (.mov (.c (.bool false))), none⟩]) (.seq (.ops [⟨some 8, .call 5 [.c (.string ⟨#[102, 110, 32, 102, 40, 41, 32, 123, 32, 120, 46, 97, 91, 49, 93, 32, 61, 32, 45, 120, 32, 42, 32, 50, 59, 32, 125]⟩)], none⟩, ⟨some 7, .op (.mov (.t 8)), none⟩, ⟨some 9, .op (.extract (.t 7) 0), none⟩, ⟨some 10, .op (.extract (.t 7) 1), none⟩, ⟨some 11, .op (.extract (.t 7) 2), none⟩, ⟨some 1, .op (.mov (.t 9)), none⟩, ⟨some 2, .op (.mov (.t 10)), none⟩, ⟨some 3, .op (.mov (.t 11)), none⟩]) (.seq (.ops [⟨some 13, .call 5 [.c (.string ⟨#[102, 110, 32, 102, 40, 41, 32, 123, 32, 49, 59, 32, 125]⟩)], none⟩, ⟨some 12, .op (.mov (.t 13)), none⟩, ⟨some 14, .op (.extract (.t 12) 0), none⟩, ⟨some 15, .op (.extract (.t 12) 1), none⟩, ⟨some 16, .op (.extract (.t 12) 2), none⟩, ⟨some 4, .op (.mov (.t 14)), none⟩, ⟨some 5, .op (.mov (.t 15)), none⟩, ⟨some 6, .op (.mov (.t 16)), none⟩]) (.seq (.ops [⟨some 17, .op (.mov (.t 3)), none⟩, ⟨some 18, .op (.bin .eql (.t 17) (.c (.int .i64 0))), none⟩, ⟨some 19, .op (.mov (.t 18)), none⟩, ⟨some 20, .op (.mov (.t 1)), (some (19, true))⟩, ⟨some 21, .op (.len .sl (.t 20)), (some (19, true))⟩, ⟨some 22, .op (.bin .gtr (.t 21) (.c (.int .i64 6))), (some (19, true))⟩, ⟨some 23, .op (.pick (.t 19) (.t 22) (.c (.bool false))), none⟩, ⟨some 24, .op (.mov (.t 23)), none⟩, ⟨some 25, .op (.mov (.t 5)), (some (24, true))⟩, ⟨some 26, .op (.bin .eql (.t 25) (.c (.int .i64 10))), (some (24, true))⟩, ⟨some 27, .op (.pick (.t 24) (.t 26) (.c (.bool false))), none⟩, ⟨some 28, .op (.mov (.t 27)), none⟩, ⟨some 29, .op (.mov (.t 6)), (some (28, true))⟩, ⟨some 30, .op (.bin .eql (.t 29) (.c (.int .i64 60))), (some (28, true))⟩, ⟨some 31, .op (.pick (.t 28) (.t 30) (.c (.bool false))), none⟩, ⟨some 0, .op (.mov (.t 31)), none⟩]) .ret)))), [.tmp 0]⟩ end Go.Idl
end

section
namespace Go.Idl
variable {T : Tbl}
structure ReadFns (T : Tbl) : Prop where
  prog : ProgFns T
  Program : T.fn 5 = some C5
  Program1 : T.fn 8 = some C8
  num : ∀ n : Int, 0 ≤ n → n ≤ 9223372036854775807 → ∀ (h : Heap) (K : Out → Heap → Prop), K (.ret (.string (numS n))) h → Wk T (.fn 82) [.int .i64 n, .int .i64 10] h K
structure GoodFns (T : Tbl) : Prop where
  read : ReadFns T
  ref : RefFns T
  chk : ChkFns T
  law : T.fn 3 = some C3
  awake : T.fn 4 = some C4
theorem read_at (F : ReadFns T) {f : Nat} {s : ByteArray} {h : Heap} {r : PO} (hsz : s.size < 4611686018427387904) (hs : progS numS f s = some r) : Wk T (.fn 5) [.string s] h (ProgPost h r) := by
  refine Program_ok F.prog F.Program F.Program1 (fun t ht h K k => ?_) hsz hs
  by_cases he : (scanS s).2.2 = 0
  · have hk := ((scan_tok hsz he).tok t ht).num
    exact F.num _ hk.1 hk.2 h K k
  · have : (scanS s).1 = [] := scan_bad he
    rw [this] at ht; cases ht
theorem awake_ok (F : GoodFns T) {h : Heap} : Wk T (.fn 4) [] h (fun o h' => Kept h h' ∧ o = .ret (.bool true)) := by
  have eA := exA_run
  have eB := exB_run
  split at eA
  case h_2 => cases eA
  rename_i la hA
  split at eB
  case h_2 => cases eB
  rename_i pb eb hB
  simp only [Bool.and_eq_true, decide_eq_true_eq] at eA eB
  obtain ⟨rfl, rfl⟩ := eB
  refine Wk_fn F.awake (by simp [C4]) ?_
  simp only [C4]
  refine Wc_seq (Wc_ops (Wo_run (fun call => by simp only [go_sem, seval]; rfl) ?_))
  show Wc T _ _ _
  refine Wc_seq (Wc_ops (Wo_call ((read_at F.read (s := exA) (by decide) hA).mono ?_)))
  rintro o h1 ⟨k1, v, nds, rfl, hown, hkd, hmap⟩
  obtain ⟨va, vc, hvl⟩ := hown.len
  have hlen : 6 < nds.length := by rw [← hmap, List.length_map] at eA; exact eA
  have h6 : (6 : Int) < ((nds.length : Nat) : Int) := by omega
  show Wo T _ _ _
  refine (Wo_run (fun call => by simp only [go_sem, seval]; rfl) ?_)
  show Wc T _ _ _
  refine Wc_seq (Wc_ops (Wo_call ((read_at F.read (s := exB) (by decide) hB).mono ?_)))
  rintro o h2 ⟨k2, rfl⟩
  show Wo T _ _ _
  refine (Wo_run (fun call => by simp only [go_sem, seval]; rfl) ?_)
  show Wc T _ _ _
  refine Wc_seq (Wc_ops (Wo_run (fun call => by simp only [go_sem, seval, hvl, h6]; rfl) ?_))
  show Wc T _ _ _
  exact Wc_ret ⟨.inr rfl, rfl, [.bool true], by simp only [resAll, resV, ev, upd, dstUpd, reduceIte, Nat.reduceEqDiff], k1.trans k2, rfl⟩
theorem stands_ext {s t : ByteArray} {a : Nat} (h : stands s a t) : s.extract a (a + t.size) = t := by
  rw [ext_eq (l := (bs s).drop a) rfl, h.2]
  exact bs_inj rfl
theorem law_ok (F : GoodFns T) {s : ByteArray} {h : Heap} : Wk T (.fn 3) [.string s] h (fun o h' => o = .ret (.bool true)) := by
  refine Wk_fn F.law (by simp [C3]) ?_
  simp only [C3]
  have fin : ∀ (e : Env) (h2 : Heap) (x : Ex), (x = .normal ∨ x = .ret) → e 2 = .bool true → (x = .normal ∨ x = .ret) ∧ some ([] : List Dfr) = some [] ∧ ∃ vs, resAll e h2 [.tmp 2] = some vs ∧ Out.ret (tup vs) = .ret (.bool true) := fun e h2 x hx he => ⟨hx, rfl, [.bool true], by simp only [resAll, resV, he], rfl⟩
  refine Wc_seq (Wc_ops (Wo_run (fun call => by simp only [go_sem, seval]; rfl) ?_))
  show Wc T _ _ _
  refine Wc_seq (Wc_seq (Wc_ops (Wo_call (Wk_kept (awake_ok F) fun h1 k1 => ?_))))
  refine (Wo_run (fun call => by simp only [go_sem, seval]; rfl) ?_)
  show Wc T _ _ _
  refine Wc_cond false (by first | rfl | assumption) (fun e => by cases e) (fun _ => Wc_skip ?_)
  show Wc T _ _ _
  by_cases hlong : 2500 < s.size
  · have hl : (2500 : Int) < ((s.size : Nat) : Int) := by omega
    refine Wc_seq (Wc_seq (Wc_ops (Wo_run (fun call => by simp only [go_sem, seval, hl]; rfl) ?_)))
    show Wc T _ _ _
    refine Wc_cond true (by first | rfl | assumption) (fun _ => ?_) (fun e => by cases e)
    refine Wc_seq (Wc_ops (Wo_run (fun call => by simp only [go_sem, seval]; rfl) ?_))
    show Wc T _ _ _
    exact Wc_ret (fin _ _ _ (.inr rfl) (by first | rfl | assumption))
  have hl : ¬ (2500 : Int) < ((s.size : Nat) : Int) := by omega
  refine Wc_seq (Wc_seq (Wc_ops (Wo_run (fun call => by simp only [go_sem, seval, hl]; rfl) ?_)))
  show Wc T _ _ _
  refine Wc_cond false (by first | rfl | assumption) (fun e => by cases e) (fun _ => Wc_skip ?_)
  show Wc T _ _ _
  obtain ⟨f, r, hs, hr⟩ := prog_fine (num := numS) (s := s) numS_fine (by omega)
  refine Wc_seq (Wc_ops (Wo_pre 1 (fun call => by simp only [go_sem, seval]; rfl) ?_))
  refine Wo_call ((read_at F.read (by omega) hs).mono ?_)
  cases r with
  | err a er =>
    rintro o h2 ⟨k2, rfl⟩
    have hr0 : er ≠ 0 := hr
    have kb : (er != 0) = true := by simpa using hr0
    show Wo T _ _ _
    refine (Wo_run (fun call => by simp only [go_sem, seval]; rfl) ?_)
    show Wc T _ _ _
    refine Wc_seq (Wc_seq (Wc_ops (Wo_run (fun call => by simp only [go_sem, seval, kb]; rfl) ?_)))
    show Wc T _ _ _
    refine Wc_cond true (by first | rfl | assumption) (fun _ => ?_) (fun e => by cases e)
    refine Wc_seq (Wc_ops (Wo_run (fun call => by simp only [go_sem, seval]; rfl) ?_))
    show Wc T _ _ _
    exact Wc_ret (fin _ _ _ (.inr rfl) (by first | rfl | assumption))
  | ok l =>
    rintro o h2 ⟨k2, v, nds, rfl, hown, hkd, hmap⟩
    have hn := nodes_of_own hown hkd
    obtain ⟨seg, kids, kn, hl1, hfor, hkn, hlen, hdeep⟩ := hr
    have hlen' : nds.length ≤ 50000 := by rw [← hmap, List.length_map] at hlen; exact hlen
    have hdeep' : deepOf nds ≤ 200 := by rw [← hmap, deepOf_pn] at hdeep; exact hdeep
    obtain ⟨g, hx⟩ := good_of_forest hfor hkn (by rw [hmap, hl1]) hlen' hdeep'
    have hK : ∀ x ∈ nds, x.kids.length ≤ 100000 := fun x hx => by
      obtain ⟨q1, q2⟩ := hfor.kids_le
      have hll : seg.length + 1 = nds.length := by rw [← List.length_map (f := Nd.pn), hmap, hl1]; simp
      have hm : x.pn ∈ l := by rw [← hmap]; exact List.mem_map_of_mem hx
      rw [hl1] at hm
      rcases List.mem_append.1 hm with hm | hm
      · have := q1 _ hm
        have e : x.pn.kids = x.kids := rfl
        rw [e] at this; omega
      · rw [List.mem_singleton] at hm
        have e : x.kids = kids := congrArg PN.kids hm
        rw [e]; omega
    have hS : ∀ x ∈ nds, x.text.size < 4611686018427387904 := fun x hm => (hx x hm).2.2
    obtain ⟨va, vc, hvl⟩ := hn.len
    show Wo T _ _ _
    refine (Wo_run (fun call => by simp only [go_sem, seval]; rfl) ?_)
    show Wc T _ _ _
    refine Wc_seq (Wc_seq (Wc_ops (Wo_run (fun call => by simp only [go_sem, seval]; rfl) ?_)))
    show Wc T _ _ _
    refine Wc_cond false (by first | rfl | assumption) (fun e => by cases e) (fun _ => Wc_skip ?_)
    show Wc T _ _ _
    refine Wc_seq (Wc_seq (Wc_ops (Wo_pre 1 (fun call => by simp only [go_sem, seval]; rfl) ?_)))
    refine Wo_call (Wk_kept (check_ok F.chk hn hlen' hK hS g) fun h3 k3 => ?_)
    refine (Wo_run (fun call => by simp only [go_sem, seval]; rfl) ?_)
    show Wc T _ _ _
    refine Wc_seq (Wc_ops (Wo_run (fun call => by simp only [go_sem, seval]; rfl) ?_))
    show Wc T _ _ _
    refine Wc_cond false (by first | rfl | assumption) (fun e => by cases e) (fun _ => Wc_skip ?_)
    show Wc T _ _ _
    refine Wc_seq (Wc_seq (Wc_ops (Wo_pre 1 (fun call => by simp only [go_sem, seval]; rfl) ?_)))
    refine Wo_call ((checkR_ok F.ref (hn.keep k3) hlen' hK hS).mono ?_)
    rintro o h4 ⟨k4, a, b, rfl, hb⟩
    have hb0 : b = 0 := hb.2 g
    subst hb0
    show Wo T _ _ _
    refine (Wo_run (fun call => by simp only [go_sem, seval]; rfl) ?_)
    show Wc T _ _ _
    refine Wc_seq (Wc_ops (Wo_run (fun call => by simp only [go_sem, seval]; rfl) ?_))
    show Wc T _ _ _
    refine Wc_cond false (by first | rfl | assumption) (fun e => by cases e) (fun _ => Wc_skip ?_)
    show Wc T _ _ _
    have hn4 := (hn.keep k3).keep k4
    refine Wc_seq (Wc_seq (Wc_ops (Wo_run (fun call => by simp only [go_sem, seval, hvl]; rfl) ?_)))
    show Wc T _ _ _
    refine Wc_range nds.length (fun j e h' d => d = some [] ∧ Kept h4 h') (by decide) (by first | rfl | assumption) (by first | rfl | assumption) (by omega) (by decide) ⟨rfl, .refl _⟩ ?_ ?_
    · rintro j e h' d hj ⟨rfl, hk⟩ hfr h44 h43
      obtain ⟨x, hxj⟩ : ∃ x, nds[j]? = some x := ⟨_, List.getElem?_eq_getElem hj⟩
      obtain ⟨b, c, o, z, hvb, hb, hgb, hcell⟩ := (hn4.keep hk).load4 hxj
      obtain ⟨⟨p0, p1⟩, hst, _⟩ := hx x (List.mem_of_getElem? hxj)
      have e42 : e 42 = v := by rw [hvl]; exact ((hfr 42 (by decide)).trans (by first | rfl | assumption | (symm; assumption)))
      have e0 : e 0 = .string s := ((hfr 0 (by decide)).trans (by first | rfl | assumption | (symm; assumption)))
      refine Wc_seq (Wc_ops (Wo_pre 3 (fun call => by simp only [go_sem, seval, h44, e42, hvb, idx_ok hj, hcell]; rfl) ?_))
      refine Wo_store_new (cs := x.cells) (h := h') (by first | rfl | assumption) (by first | rfl | assumption) rfl rfl fun h5 n5 => Wo_nil ?_
      show Wc T _ _ _
      have k5 := hk.trans n5.kept
      have hg5 := n5.get
      have c1 : ¬ x.pos < 0 := by omega
      have c2 : ¬ ((s.size : Nat) : Int) < x.pos := by omega
      refine Wc_seq (Wc_seq (Wc_ops (Wo_run (fun call => by simp only [go_sem, seval, hg5, Nd.cells, e0, c1, c2]; rfl) ?_)))
      show Wc T _ _ _
      refine Wc_cond false (by first | rfl | assumption) (fun e => by cases e) (fun _ => Wc_skip ?_)
      show Wc T _ _ _
      refine Wc_seq (Wc_ops (Wo_run (fun call => by simp only [go_sem, seval, hg5, Nd.cells]; rfl) ?_))
      show Wc T _ _ _
      refine Wc_block ?_
      refine Wc_mid (fun s' => s'.d = some [] ∧ s'.h = h5 ∧ s'.e 0 = .string s ∧ s'.e 11 = ptr h'.next 0 ∧ s'.e 60 = .bool (namedB x.kind)) ?_ ?_
      · refine Wc_case (k := x.kind) (by first | rfl | assumption) (fun hk => Wc_skip ⟨rfl, rfl, (by simp only [go_sem, seval, e0] <;> first | rfl | assumption | (symm; assumption)), (by first | rfl | assumption), by simp only [upd, dstUpd, reduceIte, Nat.reduceEqDiff]; rw [hk]; rfl⟩) (fun n1 => ?_)
        refine Wc_case (k := x.kind) (by first | rfl | assumption) (fun hk => Wc_skip ⟨rfl, rfl, (by simp only [go_sem, seval, e0] <;> first | rfl | assumption | (symm; assumption)), (by first | rfl | assumption), by simp only [upd, dstUpd, reduceIte, Nat.reduceEqDiff]; rw [hk]; rfl⟩) (fun n2 => ?_)
        refine Wc_case (k := x.kind) (by first | rfl | assumption) (fun hk => Wc_skip ⟨rfl, rfl, (by simp only [go_sem, seval, e0] <;> first | rfl | assumption | (symm; assumption)), (by first | rfl | assumption), by simp only [upd, dstUpd, reduceIte, Nat.reduceEqDiff]; rw [hk]; rfl⟩) (fun n3 => ?_)
        refine Wc_case (k := x.kind) (by first | rfl | assumption) (fun hk => Wc_skip ⟨rfl, rfl, (by simp only [go_sem, seval, e0] <;> first | rfl | assumption | (symm; assumption)), (by first | rfl | assumption), by simp only [upd, dstUpd, reduceIte, Nat.reduceEqDiff]; rw [hk]; rfl⟩) (fun n4 => ?_)
        refine Wc_case (k := x.kind) (by first | rfl | assumption) (fun hk => Wc_skip ⟨rfl, rfl, (by simp only [go_sem, seval, e0] <;> first | rfl | assumption | (symm; assumption)), (by first | rfl | assumption), by simp only [upd, dstUpd, reduceIte, Nat.reduceEqDiff]; rw [hk]; rfl⟩) (fun n5 => ?_)
        refine Wc_case (k := x.kind) (by first | rfl | assumption) (fun hk => Wc_skip ⟨rfl, rfl, (by simp only [go_sem, seval, e0] <;> first | rfl | assumption | (symm; assumption)), (by first | rfl | assumption), by simp only [upd, dstUpd, reduceIte, Nat.reduceEqDiff]; rw [hk]; rfl⟩) (fun n6 => ?_)
        refine Wc_case (k := x.kind) (by first | rfl | assumption) (fun hk => Wc_skip ⟨rfl, rfl, (by simp only [go_sem, seval, e0] <;> first | rfl | assumption | (symm; assumption)), (by first | rfl | assumption), by simp only [upd, dstUpd, reduceIte, Nat.reduceEqDiff]; rw [hk]; rfl⟩) (fun n7 => ?_)
        have hb : (x.kind == 19) = namedB x.kind := by
          rw [namedB, Bool.beq_eq_decide_eq, decide_eq_decide]
          omega
        refine Wc_ops (Wo_run (fun call => by simp only [go_sem, seval, hb]; rfl) ?_)
        exact ⟨rfl, rfl, (by simp only [go_sem, seval, e0] <;> first | rfl | assumption | (symm; assumption)), (by first | rfl | assumption), by simp only [upd, dstUpd, reduceIte, Nat.reduceEqDiff]⟩
      rintro ⟨e', h6, d⟩ ⟨hd, hh, g0, g11, g60⟩
      simp only at hd hh g0 g11 g60
      rw [hd, hh]
      refine Wc_cond _ g60 (fun yes => ?_) (fun no => Wc_skip ?_)
      · have hst := hst yes
        have hp : x.pos = ((x.pos.toNat : Nat) : Int) := by omega
        generalize x.pos.toNat = a at hst hp
        obtain ⟨s1, s2⟩ := hst
        have hext := stands_ext (⟨s1, s2⟩ : stands s a x.text)
        have w1 : IntKind.i64.wrap (((s.size : Nat) : Int) - ((a : Nat) : Int)) = ((s.size : Nat) : Int) - ((a : Nat) : Int) := wrap64 (by omega) (by omega)
        have w2 : IntKind.i64.wrap (((a : Nat) : Int) + ((x.text.size : Nat) : Int)) = ((a + x.text.size : Nat) : Int) := by rw [wrap64] <;> omega
        have c3 : ¬ ((s.size : Nat) : Int) - ((a : Nat) : Int) < ((x.text.size : Nat) : Int) := by omega
        refine Wc_seq (Wc_draw_still (by decide) ?_)
        refine (Wo_pre 19 (fun call => by simp only [go_sem, seval, g0, g11, hg5, Nd.cells, hp, w1, w2, c3]; rfl) ?_)
        refine Wo_take (by simp only [upd, dstUpd, reduceIte, Nat.reduceEqDiff, gval_bool]; rfl) (Wo_op (v := .string x.text) (h' := h5) ?_ ?_)
        · simp only [iop, ev, upd, dstUpd, reduceIte, Nat.reduceEqDiff, bndO]
          rw [bnd_ok (Nat.zero_le _) s1]
          simp only
          rw [bnd_ok (Nat.zero_le _) (Nat.le_add_right _ _)]
          simp only [hext]
        refine (Wo_run (fun call => by simp only [go_sem, seval, g11, hg5, Nd.cells]; rfl) ?_)
        refine ⟨rfl, ?_⟩
        show Wc T _ _ _
        refine Wc_cond false (by simp only [go_sem, seval, ev] <;> first | rfl | assumption | (symm; assumption)) (fun e => by cases e) (fun _ => Wc_skip ?_)
        exact ⟨rfl, k5⟩
      · exact ⟨rfl, k5⟩
    · rintro e h' d ⟨rfl, hk⟩ hfr h44
      show Wc T _ _ _
      refine Wc_seq (Wc_ops (Wo_run (fun call => by simp only [go_sem, seval]; rfl) ?_))
      show Wc T _ _ _
      exact Wc_ret (fin _ _ _ (.inr rfl) (by first | rfl | assumption))
end Go.Idl
end

section
namespace Go.Proofs
open Go.Shelf
def Tryz.laysM144_ren : Go.Shelf.Ren := ⟨fun | 144 => 24 | 143 => 47 | 219 => 59 | 217 => 65 | 225 => 66 | 224 => 67 | 267 => 68 | 266 => 79 | 314 => 80 | n => n, fun | 9 => 9 | 4 => 4 | 3 => 3 | 5 => 5 | 46 => 95 | 146 => 98 | 51 => 97 | n => n, fun | 1 => 0 | n => n⟩
theorem Tryz.laysM144 : Go.Proofs.LaysM.n144 Tryz.prog Tryz.laysM144_ren := {
  mixed := by kernel_rfl
  f143 := Tryz.func47.trans (congrArg some (by kernel_rfl))
  f144 := Tryz.func24.trans (congrArg some (by kernel_rfl))
  f217 := Tryz.func65.trans (congrArg some (by kernel_rfl))
  f219 := Tryz.func59.trans (congrArg some (by kernel_rfl))
  f224 := Tryz.func67.trans (congrArg some (by kernel_rfl))
  f225 := Tryz.func66.trans (congrArg some (by kernel_rfl))
  f266 := Tryz.func79.trans (congrArg some (by kernel_rfl))
  f267 := Tryz.func68.trans (congrArg some (by kernel_rfl))
  f314 := Tryz.func80.trans (congrArg some (by kernel_rfl))
  t3 := Tryz.underlying3
  a3 := Tryz.isAgg3
  z3 := Tryz.sizeOf3
  v3 := Tryz.zeroValue3
  t4 := Tryz.underlying4
  a4 := Tryz.isAgg4
  z4 := Tryz.sizeOf4
  v4 := Tryz.zeroValue4
  t5 := Tryz.underlying5
  a5 := Tryz.isAgg5
  z5 := Tryz.sizeOf5
  v5 := Tryz.zeroValue5
  t9 := Tryz.underlying9
  a9 := Tryz.isAgg9
  z9 := Tryz.sizeOf9
  v9 := Tryz.zeroValue9
  t46 := Tryz.underlying95
  a46 := Tryz.isAgg95
  z46 := Tryz.sizeOf95
  v46 := Tryz.zeroValue95
  t51 := Tryz.underlying97
  a51 := Tryz.isAgg97
  z51 := Tryz.sizeOf97
  v51 := Tryz.zeroValue97
  t146 := Tryz.underlying98
  a146 := Tryz.isAgg98
  z146 := Tryz.sizeOf98
  v146 := Tryz.zeroValue98
  g1 := by kernel_rfl
  i3 := by kernel_rfl
  i4 := by kernel_rfl
  i5 := by kernel_rfl
  i9 := by kernel_rfl
  i46 := by kernel_rfl
  i51 := by kernel_rfl
  i146 := by kernel_rfl
  m1 := by kernel_rfl
  s1_3 := fun w h => Go.Proofs.cell_of_shapedOpen_int (zero := #[.int .i64 0]) (t := 3) h (of_decide_eq_true (by kernel_rfl)) (by kernel_rfl) rfl (by kernel_rfl) (by kernel_rfl) Tryz.underlying3 }
open Go.RowKit Go.Lib in
theorem Tryz.strings_Contains_shaped (s sub : ByteArray) (w : World) (h : w.ShapedOpen Tryz.prog) (hs : s.size < 4294967281) :
    Calls Tryz.prog 24 #[.string s, .string sub] w fun e w' => e = .returned (.bool (Lib.contains s.data.toList sub.data.toList)) ∧ w' = w := Any.strings_Contains_shaped Tryz.laysM144 s sub w h hs
def Tryz.laysM173_ren : Go.Shelf.Ren := ⟨fun | 173 => 82 | 246 => 86 | 283 => 96 | 284 => 97 | 285 => 98 | 286 => 99 | 129 => 103 | 317 => 102 | 318 => 104 | 319 => 105 | 320 => 106 | 337 => 107 | 338 => 108 | n => n, fun | 2 => 2 | 3 => 3 | 9 => 9 | 4 => 4 | 171 => 104 | 0 => 0 | 53 => 78 | 37 => 107 | 5 => 5 | 173 => 108 | 212 => 111 | 51 => 97 | 20 => 20 | 213 => 112 | 46 => 95 | 232 => 115 | 233 => 116 | n => n, fun | 17 => 1 | 18 => 2 | 19 => 3 | n => n⟩
theorem Tryz.laysM173 : Go.Proofs.LaysM.n173 Tryz.prog Tryz.laysM173_ren := {
  mixed := by kernel_rfl
  f129 := Tryz.func103.trans (congrArg some (by kernel_rfl))
  f173 := Tryz.func82.trans (congrArg some (by kernel_rfl))
  f246 := Tryz.func86.trans (congrArg some (by kernel_rfl))
  f283 := Tryz.func96.trans (congrArg some (by kernel_rfl))
  f284 := Tryz.func97.trans (congrArg some (by kernel_rfl))
  f285 := Tryz.func98.trans (congrArg some (by kernel_rfl))
  f286 := Tryz.func99.trans (congrArg some (by kernel_rfl))
  f317 := Tryz.func102.trans (congrArg some (by kernel_rfl))
  f318 := Tryz.func104.trans (congrArg some (by kernel_rfl))
  f319 := Tryz.func105.trans (congrArg some (by kernel_rfl))
  f320 := Tryz.func106.trans (congrArg some (by kernel_rfl))
  f337 := Tryz.func107.trans (congrArg some (by kernel_rfl))
  f338 := Tryz.func108.trans (congrArg some (by kernel_rfl))
  t0 := Tryz.underlying0
  a0 := Tryz.isAgg0
  z0 := Tryz.sizeOf0
  v0 := Tryz.zeroValue0
  t2 := Tryz.underlying2
  a2 := Tryz.isAgg2
  z2 := Tryz.sizeOf2
  v2 := Tryz.zeroValue2
  t3 := Tryz.underlying3
  a3 := Tryz.isAgg3
  z3 := Tryz.sizeOf3
  v3 := Tryz.zeroValue3
  t4 := Tryz.underlying4
  a4 := Tryz.isAgg4
  z4 := Tryz.sizeOf4
  v4 := Tryz.zeroValue4
  t5 := Tryz.underlying5
  a5 := Tryz.isAgg5
  z5 := Tryz.sizeOf5
  v5 := Tryz.zeroValue5
  t9 := Tryz.underlying9
  a9 := Tryz.isAgg9
  z9 := Tryz.sizeOf9
  v9 := Tryz.zeroValue9
  t20 := Tryz.underlying20
  a20 := Tryz.isAgg20
  z20 := Tryz.sizeOf20
  v20 := Tryz.zeroValue20
  t37 := Tryz.underlying107
  a37 := Tryz.isAgg107
  z37 := Tryz.sizeOf107
  v37 := Tryz.zeroValue107
  t46 := Tryz.underlying95
  a46 := Tryz.isAgg95
  z46 := Tryz.sizeOf95
  v46 := Tryz.zeroValue95
  t51 := Tryz.underlying97
  a51 := Tryz.isAgg97
  z51 := Tryz.sizeOf97
  v51 := Tryz.zeroValue97
  t53 := Tryz.underlying78
  a53 := Tryz.isAgg78
  z53 := Tryz.sizeOf78
  v53 := Tryz.zeroValue78
  t171 := Tryz.underlying104
  a171 := Tryz.isAgg104
  z171 := Tryz.sizeOf104
  v171 := Tryz.zeroValue104
  t173 := Tryz.underlying108
  a173 := Tryz.isAgg108
  z173 := Tryz.sizeOf108
  v173 := Tryz.zeroValue108
  t212 := Tryz.underlying111
  a212 := Tryz.isAgg111
  z212 := Tryz.sizeOf111
  v212 := Tryz.zeroValue111
  t213 := Tryz.underlying112
  a213 := Tryz.isAgg112
  z213 := Tryz.sizeOf112
  t232 := Tryz.underlying115
  a232 := Tryz.isAgg115
  z232 := Tryz.sizeOf115
  v232 := Tryz.zeroValue115
  t233 := Tryz.underlying116
  a233 := Tryz.isAgg116
  z233 := Tryz.sizeOf116
  v233 := Tryz.zeroValue116
  g17 := by kernel_rfl
  g18 := by kernel_rfl
  g19 := by kernel_rfl
  i0 := by kernel_rfl
  i2 := by kernel_rfl
  i3 := by kernel_rfl
  i4 := by kernel_rfl
  i5 := by kernel_rfl
  i9 := by kernel_rfl
  i20 := by kernel_rfl
  i37 := by kernel_rfl
  i46 := by kernel_rfl
  i51 := by kernel_rfl
  i53 := by kernel_rfl
  i171 := by kernel_rfl
  i173 := by kernel_rfl
  i212 := by kernel_rfl
  i232 := by kernel_rfl
  i233 := by kernel_rfl
  m17 := by kernel_rfl
  m18 := by kernel_rfl
  m19 := by kernel_rfl }
open Go.RowKit Go.Sort Go.Lib in
theorem Tryz.strconv_FormatInt_10 (n : Int) (h0 : -9223372036854775808 ≤ n) (h1 : n ≤ 9223372036854775807) (w : World) (htab : Lib.TabIs Tryz.prog w "internal/strconv.uint64pow10" .u64 Lib.pow10Tab) :
    Calls Tryz.prog 82 #[.int .i64 n, .int .i64 10] w fun e w' => e = .returned (.string ⟨(Lib.itoa n).toArray⟩) ∧ ∃ k os, w' = grow (w.drewN k) os := Any.strconv_FormatInt_10 Tryz.laysM173 n h0 h1 w htab
end Go.Proofs
end

section
namespace Go.Idl
open Go.Proofs
def GoodG (P : Program) (w : World) : Prop := w.ShapedOpen P ∧ Lib.TabIs P w "internal/strconv.uint64pow10" .u64 Lib.pow10Tab
theorem goodG_good (P : Program) : GoodW (GoodG P) := fun w w' hw hs hk => by
  refine ⟨shaped_good P w w' hw.1 hs hk, ?_⟩
  have h := hw.2
  unfold Lib.TabIs World.var? at *
  cases hg : P.globalNamed "internal/strconv.uint64pow10" with
  | none => simp [hg] at h
  | some g =>
    simp only [hg, Option.bind_some] at h ⊢
    have hlt : g < w.heap.size := by
      rcases Nat.lt_or_ge g w.heap.size with h' | h'
      · exact h'
      · rw [Array.getElem?_eq_none h'] at h; simp at h
    rw [hk g hlt]
    exact h
noncomputable def Tb0 : Tbl := { fn := fun f => (Tryz.prog.funcs[f]?).bind (cfn Tryz.prog), prim := fun _ => none }
theorem Tb0ok {G : World → Prop} : TblOkG Tryz.prog G Tb0 := ⟨fun f fn h => by
  obtain ⟨F, h1, h2⟩ := Option.bind_eq_some_iff.1 h
  exact ⟨F, h1, h2⟩, fun f p h => by cases h⟩
def conV : List Value → Option Value
  | [.string s, .string t] => if conP s t = true then some (.bool true) else none
  | _ => none
theorem con_all : (opsL.all fun w => Lib.contains opsS.data.toList (⟨#[32]⟩ ++ w ++ ⟨#[32]⟩ : ByteArray).data.toList) = true := by kernel_rfl
theorem con_sgn : ([⟨#[45]⟩, ⟨#[33]⟩, ⟨#[126]⟩] : List ByteArray).all (fun w => Lib.contains sgnS.data.toList w.data.toList) = true := by kernel_rfl
theorem con_ok {s t : ByteArray} (h : conP s t = true) : s.size < 4294967281 ∧ Lib.contains s.data.toList t.data.toList = true := by
  simp only [conP, Bool.or_eq_true, Bool.and_eq_true, decide_eq_true_eq] at h
  rcases h with ⟨rfl, h⟩ | ⟨rfl, h⟩
  · refine ⟨by decide, ?_⟩
    simp only [sgnB, Bool.or_eq_true, decide_eq_true_eq] at h
    refine List.all_eq_true.1 con_sgn t ?_
    rcases h with (h | h) | h <;> subst h <;> simp
  · refine ⟨by decide, ?_⟩
    obtain ⟨w, hw, h⟩ := List.any_eq_true.1 h
    rw [of_decide_eq_true h]
    exact List.all_eq_true.1 con_all w hw
theorem conV_ok : PrimOkG Tryz.prog (GoodG Tryz.prog) 24 conV := by
  refine ⟨calleeOk_mk Tryz.func24 (by kernel_rfl) (by kernel_rfl), fun args v h => ?_⟩
  unfold conV at h
  split at h
  case h_2 => cases h
  split at h
  case isFalse => cases h
  rename_i s t hs
  cases h
  obtain ⟨h1, h2⟩ := con_ok hs
  exact ⟨fun ι rargs hr => args_eq hr rfl, fun ι => .bool _, fun w hw => ((Tryz.strings_Contains_shaped _ _ w hw.1 h1).mono fun e w' ⟨h3, h4⟩ => by subst h4; rw [h2] at h3; exact ⟨h3, ⟨Nat.le_refl _, fun _ _ => rfl⟩, rfl, rfl, rfl⟩)⟩
def isV (v : Value) (o : Option (Out × Heap)) : Bool := match o with | some (.ret w, _) => veq2 w v | _ => false
theorem isV_of {v : Value} {o : Option (Out × Heap)} (h : isV v o = true) : ∃ h', o = some (.ret v, h') := by
  unfold isV at h
  split at h
  · exact ⟨_, by rw [veq2_eq h]⟩
  · cases h
theorem cls_run : isV clsV (ccall Tb0 60 (.fn 35) [] ⟨fun _ => none, 0⟩) = true := by kernel_rfl
def clsP : List Value → Option Value
  | [] => some clsV
  | _ => none
theorem clsV_pure : pure1 clsV = true := by kernel_rfl
theorem clsP_ok : PrimOkG Tryz.prog (GoodG Tryz.prog) 35 clsP := by
  refine primOk_pureG (goodG_good _) Tb0ok (calleeOk_mk Tryz.func35 (by kernel_rfl) (by kernel_rfl)) fun args v h => ?_
  cases args with
  | cons a r => cases h
  | nil =>
    simp only [clsP, Option.some.injEq] at h
    subst h
    obtain ⟨h', hc⟩ := isV_of cls_run
    exact ⟨rfl, clsV_pure, 60, h', ccall_ideal Tb0 60 _ _ _ _ hc⟩
def numP : List Value → Option Value
  | [.int .i64 n, .int .i64 b] => if 0 ≤ n ∧ n ≤ 9223372036854775807 ∧ b = 10 then some (.string (numS n)) else none
  | _ => none
theorem numP_ok : PrimOkG Tryz.prog (GoodG Tryz.prog) 82 numP := by
  refine ⟨calleeOk_mk Tryz.func82 (by kernel_rfl) (by kernel_rfl), fun args v h => ?_⟩
  unfold numP at h
  split at h
  case h_2 => cases h
  split at h
  case isFalse => cases h
  rename_i n b hs
  cases h
  obtain ⟨h0, h1, rfl⟩ := hs
  refine ⟨fun ι rargs hr => args_eq hr rfl, fun ι => .string _, fun w hw => ((Tryz.strconv_FormatInt_10 n (by omega) h1 w hw.2).mono fun e w' ⟨h3, k, os, h4⟩ => ?_)⟩
  subst h4
  rw [← numS_itoa h0 h1] at h3
  exact ⟨h3, ⟨by simp [Go.Sort.grow, World.drewN], fun b hb => Go.Sort.heap_grow_old (w.drewN k) os hb⟩, rfl, rfl, rfl⟩
noncomputable def T1 : Tbl := setPrim (setPrim (setPrim Tb0 24 conV) 35 clsP) 82 numP
theorem T1ok : TblOkG Tryz.prog (GoodG Tryz.prog) T1 := setPrim_ok (setPrim_ok (setPrim_ok Tb0ok conV_ok) clsP_ok) numP_ok
theorem T1_at {f : FuncId} {F : Func} {C : IFn} (h1 : Tryz.prog.funcs[f]? = some F) (h2 : cfn Tryz.prog F = some C) (n1 : f ≠ 24) (n2 : f ≠ 35) (n3 : f ≠ 82) : T1.fn f = some C := by
  simp only [T1, setPrim, Tb0, if_neg n1, if_neg n2, if_neg n3, h1, Option.bind_some, h2]
theorem T1_7 : T1.fn 7 = some C7 := T1_at Tryz.func7 (by kernel_rfl) (by decide) (by decide) (by decide)
theorem T1_16 : T1.fn 16 = some C16 := T1_at Tryz.func16 (by kernel_rfl) (by decide) (by decide) (by decide)
theorem T1_14 : T1.fn 14 = some C14 := T1_at Tryz.func14 (by kernel_rfl) (by decide) (by decide) (by decide)
theorem T1_15 : T1.fn 15 = some C15 := T1_at Tryz.func15 (by kernel_rfl) (by decide) (by decide) (by decide)
theorem T1_31 : T1.fn 31 = some C31 := T1_at Tryz.func31 (by kernel_rfl) (by decide) (by decide) (by decide)
theorem T1_33 : T1.fn 33 = some C33 := T1_at Tryz.func33 (by kernel_rfl) (by decide) (by decide) (by decide)
theorem T1_34 : T1.fn 34 = some C34 := T1_at Tryz.func34 (by kernel_rfl) (by decide) (by decide) (by decide)
theorem T1_32 : T1.fn 32 = some C32 := T1_at Tryz.func32 (by kernel_rfl) (by decide) (by decide) (by decide)
theorem T1_30 : T1.fn 30 = some C30 := T1_at Tryz.func30 (by kernel_rfl) (by decide) (by decide) (by decide)
theorem T1_28 : T1.fn 28 = some C28 := T1_at Tryz.func28 (by kernel_rfl) (by decide) (by decide) (by decide)
theorem T1_48 : T1.fn 48 = some C48 := T1_at Tryz.func48 (by kernel_rfl) (by decide) (by decide) (by decide)
theorem T1_49 : T1.fn 49 = some C49 := T1_at Tryz.func49 (by kernel_rfl) (by decide) (by decide) (by decide)
theorem T1_50 : T1.fn 50 = some C50 := T1_at Tryz.func50 (by kernel_rfl) (by decide) (by decide) (by decide)
theorem T1_29 : T1.fn 29 = some C29 := T1_at Tryz.func29 (by kernel_rfl) (by decide) (by decide) (by decide)
theorem T1_51 : T1.fn 51 = some C51 := T1_at Tryz.func51 (by kernel_rfl) (by decide) (by decide) (by decide)
theorem T1_60 : T1.fn 60 = some C60 := T1_at Tryz.func60 (by kernel_rfl) (by decide) (by decide) (by decide)
theorem T1_19 : T1.fn 19 = some C19 := T1_at Tryz.func19 (by kernel_rfl) (by decide) (by decide) (by decide)
theorem T1_56 : T1.fn 56 = some C56 := T1_at Tryz.func56 (by kernel_rfl) (by decide) (by decide) (by decide)
theorem T1_55 : T1.fn 55 = some C55 := T1_at Tryz.func55 (by kernel_rfl) (by decide) (by decide) (by decide)
theorem T1_37 : T1.fn 37 = some C37 := T1_at Tryz.func37 (by kernel_rfl) (by decide) (by decide) (by decide)
theorem T1_39 : T1.fn 39 = some C39 := T1_at Tryz.func39 (by kernel_rfl) (by decide) (by decide) (by decide)
theorem T1_38 : T1.fn 38 = some C38 := T1_at Tryz.func38 (by kernel_rfl) (by decide) (by decide) (by decide)
theorem T1_21 : T1.fn 21 = some C21 := T1_at Tryz.func21 (by kernel_rfl) (by decide) (by decide) (by decide)
theorem T1_61 : T1.fn 61 = some C61 := T1_at Tryz.func61 (by kernel_rfl) (by decide) (by decide) (by decide)
theorem T1_69 : T1.fn 69 = some C69 := T1_at Tryz.func69 (by kernel_rfl) (by decide) (by decide) (by decide)
theorem T1_87 : T1.fn 87 = some C87 := T1_at Tryz.func87 (by kernel_rfl) (by decide) (by decide) (by decide)
theorem T1_88 : T1.fn 88 = some C88 := T1_at Tryz.func88 (by kernel_rfl) (by decide) (by decide) (by decide)
theorem T1_89 : T1.fn 89 = some C89 := T1_at Tryz.func89 (by kernel_rfl) (by decide) (by decide) (by decide)
theorem T1_90 : T1.fn 90 = some C90 := T1_at Tryz.func90 (by kernel_rfl) (by decide) (by decide) (by decide)
theorem T1_91 : T1.fn 91 = some C91 := T1_at Tryz.func91 (by kernel_rfl) (by decide) (by decide) (by decide)
theorem T1_92 : T1.fn 92 = some C92 := T1_at Tryz.func92 (by kernel_rfl) (by decide) (by decide) (by decide)
theorem T1_93 : T1.fn 93 = some C93 := T1_at Tryz.func93 (by kernel_rfl) (by decide) (by decide) (by decide)
theorem T1_94 : T1.fn 94 = some C94 := T1_at Tryz.func94 (by kernel_rfl) (by decide) (by decide) (by decide)
theorem T1_95 : T1.fn 95 = some C95 := T1_at Tryz.func95 (by kernel_rfl) (by decide) (by decide) (by decide)
theorem T1_101 : T1.fn 101 = some C101 := T1_at Tryz.func101 (by kernel_rfl) (by decide) (by decide) (by decide)
theorem T1_100 : T1.fn 100 = some C100 := T1_at Tryz.func100 (by kernel_rfl) (by decide) (by decide) (by decide)
theorem T1_83 : T1.fn 83 = some C83 := T1_at Tryz.func83 (by kernel_rfl) (by decide) (by decide) (by decide)
theorem T1_40 : T1.fn 40 = some C40 := T1_at Tryz.func40 (by kernel_rfl) (by decide) (by decide) (by decide)
theorem T1_77 : T1.fn 77 = some C77 := T1_at Tryz.func77 (by kernel_rfl) (by decide) (by decide) (by decide)
theorem T1_63 : T1.fn 63 = some C63 := T1_at Tryz.func63 (by kernel_rfl) (by decide) (by decide) (by decide)
theorem T1_85 : T1.fn 85 = some C85 := T1_at Tryz.func85 (by kernel_rfl) (by decide) (by decide) (by decide)
theorem T1_78 : T1.fn 78 = some C78 := T1_at Tryz.func78 (by kernel_rfl) (by decide) (by decide) (by decide)
theorem T1_84 : T1.fn 84 = some C84 := T1_at Tryz.func84 (by kernel_rfl) (by decide) (by decide) (by decide)
theorem T1_64 : T1.fn 64 = some C64 := T1_at Tryz.func64 (by kernel_rfl) (by decide) (by decide) (by decide)
theorem T1_70 : T1.fn 70 = some C70 := T1_at Tryz.func70 (by kernel_rfl) (by decide) (by decide) (by decide)
theorem T1_71 : T1.fn 71 = some C71 := T1_at Tryz.func71 (by kernel_rfl) (by decide) (by decide) (by decide)
theorem T1_72 : T1.fn 72 = some C72 := T1_at Tryz.func72 (by kernel_rfl) (by decide) (by decide) (by decide)
theorem T1_73 : T1.fn 73 = some C73 := T1_at Tryz.func73 (by kernel_rfl) (by decide) (by decide) (by decide)
theorem T1_74 : T1.fn 74 = some C74 := T1_at Tryz.func74 (by kernel_rfl) (by decide) (by decide) (by decide)
theorem T1_75 : T1.fn 75 = some C75 := T1_at Tryz.func75 (by kernel_rfl) (by decide) (by decide) (by decide)
theorem T1_76 : T1.fn 76 = some C76 := T1_at Tryz.func76 (by kernel_rfl) (by decide) (by decide) (by decide)
theorem T1_81 : T1.fn 81 = some C81 := T1_at Tryz.func81 (by kernel_rfl) (by decide) (by decide) (by decide)
theorem T1_41 : T1.fn 41 = some C41 := T1_at Tryz.func41 (by kernel_rfl) (by decide) (by decide) (by decide)
theorem T1_62 : T1.fn 62 = some C62 := T1_at Tryz.func62 (by kernel_rfl) (by decide) (by decide) (by decide)
theorem T1_36 : T1.fn 36 = some C36 := T1_at Tryz.func36 (by kernel_rfl) (by decide) (by decide) (by decide)
theorem T1_53 : T1.fn 53 = some C53 := T1_at Tryz.func53 (by kernel_rfl) (by decide) (by decide) (by decide)
theorem T1_43 : T1.fn 43 = some C43 := T1_at Tryz.func43 (by kernel_rfl) (by decide) (by decide) (by decide)
theorem T1_44 : T1.fn 44 = some C44 := T1_at Tryz.func44 (by kernel_rfl) (by decide) (by decide) (by decide)
theorem T1_54 : T1.fn 54 = some C54 := T1_at Tryz.func54 (by kernel_rfl) (by decide) (by decide) (by decide)
theorem T1_45 : T1.fn 45 = some C45 := T1_at Tryz.func45 (by kernel_rfl) (by decide) (by decide) (by decide)
theorem T1_58 : T1.fn 58 = some C58 := T1_at Tryz.func58 (by kernel_rfl) (by decide) (by decide) (by decide)
theorem T1_23 : T1.fn 23 = some C23 := T1_at Tryz.func23 (by kernel_rfl) (by decide) (by decide) (by decide)
theorem T1_46 : T1.fn 46 = some C46 := T1_at Tryz.func46 (by kernel_rfl) (by decide) (by decide) (by decide)
theorem T1_12 : T1.fn 12 = some C12 := T1_at Tryz.func12 (by kernel_rfl) (by decide) (by decide) (by decide)
theorem T1_27 : T1.fn 27 = some C27 := T1_at Tryz.func27 (by kernel_rfl) (by decide) (by decide) (by decide)
theorem T1_26 : T1.fn 26 = some C26 := T1_at Tryz.func26 (by kernel_rfl) (by decide) (by decide) (by decide)
theorem T1_25 : T1.fn 25 = some C25 := T1_at Tryz.func25 (by kernel_rfl) (by decide) (by decide) (by decide)
theorem T1_57 : T1.fn 57 = some C57 := T1_at Tryz.func57 (by kernel_rfl) (by decide) (by decide) (by decide)
theorem T1_42 : T1.fn 42 = some C42 := T1_at Tryz.func42 (by kernel_rfl) (by decide) (by decide) (by decide)
theorem T1_20 : T1.fn 20 = some C20 := T1_at Tryz.func20 (by kernel_rfl) (by decide) (by decide) (by decide)
theorem T1_18 : T1.fn 18 = some C18 := T1_at Tryz.func18 (by kernel_rfl) (by decide) (by decide) (by decide)
theorem T1_9 : T1.fn 9 = some C9 := T1_at Tryz.func9 (by kernel_rfl) (by decide) (by decide) (by decide)
theorem T1_17 : T1.fn 17 = some C17 := T1_at Tryz.func17 (by kernel_rfl) (by decide) (by decide) (by decide)
theorem T1_13 : T1.fn 13 = some C13 := T1_at Tryz.func13 (by kernel_rfl) (by decide) (by decide) (by decide)
theorem T1_5 : T1.fn 5 = some C5 := T1_at Tryz.func5 (by kernel_rfl) (by decide) (by decide) (by decide)
theorem T1_8 : T1.fn 8 = some C8 := T1_at Tryz.func8 (by kernel_rfl) (by decide) (by decide) (by decide)
theorem T1_6 : T1.fn 6 = some C6 := T1_at Tryz.func6 (by kernel_rfl) (by decide) (by decide) (by decide)
theorem T1_10 : T1.fn 10 = some C10 := T1_at Tryz.func10 (by kernel_rfl) (by decide) (by decide) (by decide)
theorem T1_11 : T1.fn 11 = some C11 := T1_at Tryz.func11 (by kernel_rfl) (by decide) (by decide) (by decide)
theorem T1_22 : T1.fn 22 = some C22 := T1_at Tryz.func22 (by kernel_rfl) (by decide) (by decide) (by decide)
theorem T1_3 : T1.fn 3 = some C3 := T1_at Tryz.func3 (by kernel_rfl) (by decide) (by decide) (by decide)
theorem T1_4 : T1.fn 4 = some C4 := T1_at Tryz.func4 (by kernel_rfl) (by decide) (by decide) (by decide)
theorem clsT (h : Heap) (K : Out → Heap → Prop) (k : K (.ret clsV) h) : Wk T1 (.fn 35) [] h K := Wk_prim (p := clsP) (v := clsV) rfl rfl rfl k
theorem refF : RefFns T1 := ⟨T1_7, T1_16, T1_14, T1_15, T1_31, T1_33, T1_34, T1_32, T1_30, T1_28, T1_48, T1_49, T1_50, T1_29, T1_51, T1_60⟩
theorem saysF : SaysFns T1 := ⟨T1_11, T1_22, clsT, T1_43, T1_44, T1_45, T1_58, T1_23, T1_46, fun s t h K hc k => Wk_prim (p := conV) (v := .bool true) rfl rfl (by simp only [conV, hc, if_true]) k⟩
theorem chkF : ChkFns T1 := ⟨T1_6, T1_10, T1_13, saysF, ⟨T1_12, T1_27, T1_26, T1_25⟩⟩
theorem stF : StFns T1 := ⟨⟨⟨T1_19, T1_56, T1_55, T1_37, T1_39, T1_38, T1_21, T1_61, T1_69⟩, ⟨T1_87, T1_88, T1_89, T1_90, T1_91, T1_92, T1_93, T1_94, T1_95, T1_101, T1_100, T1_83⟩, T1_40, T1_77, T1_63, T1_85, T1_78, T1_84, T1_64⟩, ⟨T1_70, T1_71, T1_72, T1_73, T1_74, T1_75, T1_76, T1_81, T1_40, T1_41, T1_62⟩, T1_57, T1_42⟩
theorem readF : ReadFns T1 := ⟨⟨stF, T1_20, T1_18, T1_9, ⟨T1_36, T1_53, T1_43, T1_44, T1_54, T1_45, T1_58, T1_23, T1_46⟩, T1_17, clsT, T1_13⟩, T1_5, T1_8, fun n h0 h1 h K k => Wk_prim (p := numP) (v := .string (numS n)) rfl rfl (if_pos ⟨h0, h1, rfl⟩) k⟩
theorem goodF : GoodFns T1 := ⟨readF, refF, chkF, T1_3, T1_4⟩
end Go.Idl
end

section
namespace Go.Proofs.YtmnhbineiecfoaaGreatDoor.parseGood
open Go.ChangeShapes Go.WideShapes Go.ChangeAt Go.RowKit Go.Idl
theorem own : ownKnob Tryz.prog.godebug = none := by kernel_rfl
theorem gTab : Tryz.prog.globalNamed "internal/strconv.uint64pow10" = some 1 := by kernel_rfl
theorem gTabType : (Tryz.prog.globals[1]?).map (·.type) = some 111 := by kernel_rfl
theorem cells111 : Tryz.prog.cellsOf 111 = 20 := by kernel_rfl
theorem cells78 : Tryz.prog.cellsOf 78 = 1 := by kernel_rfl
theorem tabEq : (Rows.laid_internal_strconv_uint64pow10 : DataW Unit) = Lib.tabData .u64 Lib.pow10Tab := by kernel_rfl
theorem table {W : World} (h : laidMetH Tryz.prog Rows.parseGoodRow.laid W) : Lib.TabIs Tryz.prog W "internal/strconv.uint64pow10" .u64 Lib.pow10Tab := by
  have h1 : laidMet Tryz.prog [("math/bits.deBruijn32tab", Rows.laid_math_bits_deBruijn32tab), ("math/bits.deBruijn64tab", Rows.laid_math_bits_deBruijn64tab), ("internal/strconv.uint64pow10", Rows.laid_internal_strconv_uint64pow10)] W := h
  have h2 := laidMet.tail (laidMet.tail h1)
  rw [tabEq] at h2
  exact Lib.tabIs_of_head (rest := []) gTab gTabType Tryz.underlying111 Tryz.underlying78 cells78 cells111 h2
theorem kids : Kids Tryz.prog (· < Tryz.prog.types.size) := kids_rows (by kernel_rfl) (by kernel_rfl)
theorem full : ∀ t e, t < Tryz.prog.types.size → Tryz.prog.underlying t = some (.slice e) → 0 < Tryz.prog.cellsOf e := slices_full_of Tryz.prog (by kernel_rfl)
theorem rowed : (9 : Nat) < Tryz.prog.types.size := of_decide_eq_true (by kernel_rfl)
theorem contract (H : Type) (enc : TypeId × Value → H) (W : World) (base : Nat) (args : Array Value) (ds gs : List (DataW H)) (before : List MemPlace)
    (hval : ∀ (j : Nat) t v, Tryz.f3.params[j]? = some t → args[j]? = some v → Value.okWide Tryz.prog W .any base t v)
    (hW : DataW.Whole enc Tryz.prog Tryz.f3.params.toList Rows.parseGoodSpec.vars false W args.toList ds gs before) (hL : laidMetH Tryz.prog Rows.parseGoodRow.laid W) (hsh : W.ShapedOpen Tryz.prog) :
    Calls Tryz.prog 3 args W fun e W' => ∃ v, e = .returned v ∧ Rows.parseGoodSpec.post enc Tryz.prog Tryz.f3 false true false false W args v W' := by
  have hW' := hW
  obtain ⟨p, q, hA, hV, rfl, hfz, hnd⟩ := hW
  have hpar : Tryz.f3.params.toList = [9] := by rw [Tryz.params3]
  rw [hpar] at hA
  have hagg : ∀ (j : Nat) t v, [9][j]? = some t → args.toList[j]? = some v → ((∃ fs, Tryz.prog.underlying t = some (.struct fs)) ↔ ∃ cs, v = .agg cs) := by
    intro j t v ht hv
    cases j with
    | succ j => simp at ht
    | zero =>
      simp at ht
      subst ht
      refine ⟨fun ⟨fs, h⟩ => (by rw [Tryz.underlying9] at h; cases h), fun ⟨cs, h⟩ => ?_⟩
      subst h
      exfalso
      have := hval 0 9 (.agg cs) (by rw [Tryz.params3]; rfl) (by simpa using hv)
      simp [Value.okWide, Cell.okWide, Cell.ok, Tryz.underlying9] at this
  obtain ⟨ι, h, iargs, hok, hro, hla, hrep⟩ := layArgs0 [.str] ⟨9, [], rfl, Tryz.underlying9, rfl⟩ hA hagg
  simp only [LaysArgs] at hla
  obtain ⟨d, r, v, vr, rfl, rfl, ⟨cs, hl, hcs⟩, rfl, rfl⟩ := hla
  simp only [Lays] at hl
  obtain ⟨t, htw, rfl, rfl⟩ := hl
  have hvv : v = .string t := by
    have : [Value.string t] = [v] := hcs
    cases this; rfl
  subst hvv
  obtain ⟨n, out, h', hi, rfl⟩ := law_ok goodF (s := t) (h := h)
  have hc := calls_oldG (goodG_good _) T1ok hi ⟨hsh, table hL⟩ hok hrep
  rw [show args.toList.toArray = args by simp] at hc
  refine hc.mono fun e W' ⟨⟨w, he, ι', hr⟩, h1, h2, h3, h4, h5⟩ => ?_
  have hw : w = .bool true := rep_ofbool hr
  subst hw
  exact ⟨_, he, post_old (tb := 4) hW' rfl (by kernel_rfl) Tryz.underlying4 rfl kids full (fun t ht => by rw [hpar] at ht; simp at ht; subst ht; exact rowed) h1 h2 h3 h5⟩
def setC (cs : Array Value) : Obj → Obj
  | .cells _ t frozen => .cells cs t frozen
  | o => o
noncomputable def laidWorld (os : Os) : World :=
  { World.holding Tryz.prog os ⟨#[], #[], []⟩ with heap := (((World.holding Tryz.prog os ⟨#[], #[], []⟩).heap.modify 1 (setC (#[1, 10, 100, 1000, 10000, 100000, 1000000, 10000000, 100000000, 1000000000, 10000000000, 100000000000, 1000000000000, 10000000000000, 100000000000000, 1000000000000000, 10000000000000000, 100000000000000000, 1000000000000000000, 10000000000000000000].map fun n : Int => Value.int .u64 n))).modify 2 (setC (#[0, 1, 28, 2, 29, 14, 24, 3, 30, 22, 20, 15, 25, 17, 4, 8, 31, 27, 13, 23, 21, 19, 16, 7, 26, 12, 18, 6, 11, 5, 10, 9].map fun n : Int => Value.int .u8 n))).modify 3 (setC (#[0, 1, 56, 2, 57, 49, 28, 3, 61, 58, 42, 50, 38, 29, 17, 4, 62, 47, 59, 36, 45, 43, 51, 22, 53, 39, 33, 30, 24, 18, 12, 5, 63, 55, 48, 27, 60, 41, 37, 16, 46, 35, 44, 21, 52, 32, 23, 11, 54, 26, 40, 15, 34, 20, 31, 10, 25, 14, 19, 9, 13, 8, 7, 6].map fun n : Int => Value.int .u8 n)) }
theorem laid_met (os : Os) : laidMet Tryz.prog Rows.parseGoodRow.laid ((laidWorld os).forCall (fun _ _ => 0) ⟨#[], #[.string ⟨#[]⟩], []⟩).memory :=
  laidMet_of_run' 8 (by kernel_rfl) (by kernel_rfl)
theorem reads (os : Os) {H : Type} (enc : TypeId × Value → H) : ∃ places, DataW.whole enc Tryz.prog ((laidWorld os).forCall (fun _ _ => 0) ⟨#[], #[.string ⟨#[]⟩], []⟩).memory Tryz.f3.params.toList Rows.parseGoodSpec.vars false #[Value.string ⟨#[]⟩].toList 8 = some ([.lit (.string [])], [], places) :=
  ⟨[], by kernel_rfl⟩
theorem lifted (os : Os) (started : os.Started) (H : Type) (enc : TypeId × Value → H) (F : Stop.Interp) :
    ReturnsInHanded {} Tryz.checked os 3 .any ((OpenSpec.ofChange Rows.parseGoodSpec).preRow enc Tryz.prog Tryz.f3 Rows.parseGoodRow.domain false Rows.parseGoodRow.laid) (((OpenSpec.ofChange Rows.parseGoodSpec).at F).post enc Tryz.prog Tryz.f3 false true false false) := by
  obtain ⟨places, hx⟩ := reads os enc
  refine returnsInHanded_of_row (C := Tryz.checked) (s := OpenSpec.ofChange Rows.parseGoodSpec) own started (by kernel_rfl) Tryz.func3
    (witness_row_at (enc := enc) (C := Tryz.checked) false (laidWorld os) #[.string ⟨#[]⟩] rfl (by kernel_rfl) (by kernel_rfl) (by kernel_rfl)
      (OpenSpec.preRow_of_cond 8 hx (by kernel_rfl) (fun k hk => by cases hk) (by kernel_rfl) (laid_met os))) ?_
  intro W base args ds gs before hval hW _ _ _ hL hsh _
  exact contract H enc W base args ds gs before hval hW hL hsh
theorem said : Rows.ParseGoodSaid :=
  OpenClaim.holds_of_cond 3 Tryz.f3 rfl rfl rfl rfl rfl rfl rfl ⟨rfl, rfl, rfl, rfl, rfl⟩ rfl rfl rfl rfl rfl (by kernel_rfl) Tryz.func3 (by kernel_rfl)
    (of_decide_eq_true (by kernel_rfl)) (by unfold Func.isWrapper; first | (rw [if_pos (by decide +kernel)]; kernel_rfl) | (rw [if_neg (by decide +kernel)]; exact ⟨rfl, rfl⟩))
    (fun os started H enc _ F => by rw [OpenClaim.pre_eq_preRow]; exact lifted os started H enc F)
theorem plain (f : FuncId) (fn : Func) (hf : Tryz.pinned.checked.prog.funcNamed "swath/swathlaw06.ParseGood" = some f) (hfn : Tryz.pinned.checked.prog.funcs[f]? = some fn) :
    true = Tryz.pinned.checked.prog.looks [] ∧ ∀ (j : Nat) t, fn.params[j]? = some t → Tryz.pinned.checked.prog.wantsStandIn t = false := by
  obtain rfl : f = 3 := Option.some.inj ((show Tryz.prog.funcNamed "swath/swathlaw06.ParseGood" = some 3 by kernel_rfl).symm.trans hf) |>.symm
  obtain rfl : fn = Tryz.f3 := (Option.some.inj (Tryz.func3.symm.trans hfn)).symm
  refine ⟨by kernel_rfl, fun j t ht => ?_⟩
  rw [Tryz.params3] at ht
  obtain rfl : t = 9 := by simpa using Array.mem_of_getElem? ht
  exact (show Tryz.prog.wantsStandIn 9 = false by kernel_rfl)
theorem proved : Rows.ParseGoodCardSaid :=
  Claim7.holds_tied_plain_at .later [] _ _ _ _ said (fun _ h => by cases h) (by kernel_rfl) (fun _ h => by cases h) parseGood_row_tie rfl ⟨rfl, rfl⟩ (by kernel_rfl) rfl plain (by kernel_rfl)
end Go.Proofs.YtmnhbineiecfoaaGreatDoor.parseGood
end
