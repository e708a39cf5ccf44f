/- Texts of the proof. -/
import Derived.Test.YtbngfhkhdilfdaaGreatDoorG2
import Derived.Test.YtbngfhkhdilfdaaGreatDoorFparse
import Derived.Test.YtbngfhkhdilfdaaGreatDoorI29
set_option linter.unusedVariables false
set_option linter.unusedSimpArgs false
set_option maxRecDepth 100000
section
namespace Go.Idl
variable {T : Tbl}
def parN (J : JSt) (k : Nat) : Nat := (J.fns[k]?.map (·.params)).getD 0
def kindE (J : JSt) (sc : List ByteArray) (x : Nd) : Option CE :=
  if x.kind = 17 then (if hasN sc x.text then none else some (x.pos, 80))
  else if x.kind = 20 then (if 0 < numOf J.fl x.text then none else some (x.pos, 80))
  else if x.kind = 23 then (if 0 < numOf J.sn x.text then none else some (x.pos, 80))
  else if x.kind = 22 then (if 0 < numOf J.fn x.text then (if parN J (numOf J.fn x.text - 1) = x.kids.length then none else some (x.pos, 81)) else some (x.pos, 80))
  else none
def exprE (l : List Nd) (J : JSt) (sc : List ByteArray) : Nat → Nat → Option CE
  | 0, _ => none
  | f + 1, n => match l[n]? with
    | none => none
    | some x => match kindE J sc x with
      | some e => some e
      | none => x.kids.findSome? fun k => exprE l J sc f k.toNat
structure JFns (T : Tbl) : Prop where
  must : T.fn 25 = some C25
  lay : T.fn 44 = some C44
  has : T.fn 46 = some C46
  expr : T.fn 61 = some C61
theorem posAt_at {l : List Nd} {n : Nat} {x : Nd} (hx : l[n]? = some x) : posAt l ((n : Nat) : Int) = x.pos := by rw [posAt, if_neg (by omega), Int.toNat_natCast, hx]; rfl
theorem Wo_must (F : JFns T) {jb : Nat} {l : List Nd} {J : JSt} {e : Env} {h : Heap} {d : Option (List Dfr)} {dst : Option Nat} {rest : List Step} {Q : Option Value → St → Prop} {a b c z : Opd} {ok : Bool} {n : Nat} {er : Int} {x : Nd} (p : Jud jb l J h) (hx : l[n]? = some x)
    (ha : ev e a = ptr jb 0) (hb : ev e b = .bool ok) (hc : ev e c = .int .i64 n) (hz : ev e z = .int .i64 er)
    (k1 : ok = true → Wo T rest ⟨dstUpd e dst (tup []), h, d⟩ Q) (k2 : ok = false → Q (some (wrongC (x.pos, er))) ⟨e, h, d⟩) : Wo T (⟨dst, .call 25 [a, b, c, z], none⟩ :: rest) ⟨e, h, d⟩ Q := by
  have hn := (List.getElem?_eq_some_iff.1 hx).1
  refine Wo_call ?_
  simp only [List.map_cons, List.map_nil, ha, hb, hc, hz]
  refine (must_ok F.must (ok := ok) (e := er) p (by omega)).mono ?_
  rintro o h' ⟨rfl, rfl⟩
  cases ok with
  | true => exact k1 rfl
  | false =>
    have := k2 rfl
    rw [← posAt_at hx] at this
    exact this
theorem ownL.cell {α : Type} {f : α → List Value} {w n0 : Nat} (hf : ∀ a, (f a).length = w) {h : Heap} {v : Value} {l : List α} (o : ownL f w n0 h v l) {i : Nat} {x : α} (hi : l[i]? = some x) : ∃ b c, v = .slice (some ⟨b, 0, none⟩) l.length c ∧ b < h.next ∧ h.get b = some (.cells (l.flatMap f) true w) ∧ ∀ j, j < w → (l.flatMap f)[i * w + j]? = (f x)[j]? := by
  obtain ⟨b, c, e1, _, e2, e3, _⟩ := o.load hf hi
  exact ⟨b, c, e1, e2, e3, fun j hj => by rw [← row_at hf hi, List.getElem?_take, if_pos hj, List.getElem?_drop]⟩
theorem expr_ok (F : JFns T) {jb : Nat} {l : List Nd} {J : JSt} {sc : List ByteArray} (g : GoodT l) (hfl : J.fns.length = J.fn.length) (hlen : l.length < 1000000) (hkl : ∀ x ∈ l, x.kids.length < 1000000) (hfn : J.fn.length < 1000000) : ∀ (f n : Nat), n < f → ∀ {h : Heap} {v : Value}, Jud jb l J h → scopeAt h v sc → n < l.length →
    Wk T (.fn 61) [ptr jb 0, .int .i64 n, v] h (fun o h' => Kept h h' ∧ o = outC (exprE l J sc f n)) := by
  intro f
  induction f with
  | zero => intro n hn; omega
  | succ f ih =>
    intro n hnf h v hj hsc hn
    obtain ⟨x, hx⟩ : ∃ x, l[n]? = some x := ⟨_, List.getElem?_eq_getElem hn⟩
    have hxm := List.mem_of_getElem? hx
    have hok := g.ok n x hx
    have hE : exprE l J sc (f + 1) n = match kindE J sc x with
      | some e => some e
      | none => x.kids.findSome? fun k => exprE l J sc f k.toNat := by rw [exprE, hx]
    obtain ⟨lv, sv, fv, mv, a, b, c, p⟩ := id hj
    have hg := p.get
    obtain ⟨q, cp, o, z, hvb, hb, hgb, hcell⟩ := p.nodes.load4 hx
    refine Wk_fn2 F.expr (by simp [C61]) ?_
    simp only [C61]
    refine Wc_seq (Wc_ops (Wo_pre 8 (fun call => by simp only [go_sem, seval, hg, hvb, idx_ok hn, hcell]; rfl) ?_))
    refine Wo_store_new (cs := x.cells) (h := h) (by first | rfl | assumption) (by first | rfl | assumption) rfl rfl fun h2 n2 => Wo_nil ?_
    show Wc T _ _ _
    have k2 := n2.kept
    have hg6 := n2.get
    have hj2 := hj.keep k2
    have p2 := p.keep k2
    have sc2 := hsc.keep k2
    have bad : ∀ (r : CE) (s' : St), kindE J sc x = some r → s'.d = some [] → s'.h = h2 → Fin2 C61 (fun o h' => Kept h h' ∧ o = outC (exprE l J sc (f + 1) n)) (.pan (wrongC r)) s' := fun r s' h1 hd hh => ⟨hd, by rw [hh]; exact k2, by rw [hE, h1]; rfl⟩
    refine Wc_seq (Wc_seq (Wc_ops (Wo_run (fun call => by simp only [go_sem, seval, hg6, Nd.cells]; rfl) ?_)))
    show Wc T _ _ _
    refine Wc_block ?_
    refine Wc.mono (Q := fun ex s' => match ex with
      | .normal => kindE J sc x = none ∧ s'.d = some [] ∧ s'.h = h2 ∧ s'.e 0 = ptr jb 0 ∧ s'.e 2 = v ∧ s'.e 6 = ptr h.next 0
      | .pan u => ∃ r, u = wrongC r ∧ kindE J sc x = some r ∧ s'.d = some [] ∧ s'.h = h2
      | _ => False) ?_ ?_
    · have hh := has_ok F.has (s := x.text) sc2
      refine Wc_case (k := x.kind) (by first | rfl | assumption) (fun k17 => ?_) (fun k17 => ?_)
      · refine Wc_ops (Wo_pre 4 (fun call => by simp only [go_sem, seval, hg6, Nd.cells]; rfl) ?_)
        refine Wo_call (Wk_pure hh ?_)
        refine (Wo_pre 1 (fun call => by simp only [go_sem, seval]; rfl) ?_)
        refine Wo_must F hj2 hx (by first | rfl | assumption) (by first | rfl | assumption) (by first | rfl | assumption) rfl (fun hy => Wo_nil ?_) (fun hy => ?_)
        · exact ⟨by rw [kindE, if_pos k17, if_pos hy], rfl, rfl, (by first | rfl | assumption), (by first | rfl | assumption), (by first | rfl | assumption)⟩
        · exact ⟨_, rfl, by rw [kindE, if_pos k17, hy]; rfl, rfl, rfl⟩
      refine Wc_case (k := x.kind) (by first | rfl | assumption) (fun k20 => ?_) (fun k20 => ?_)
      · refine Wc_draw_end 10 rfl (by decide) ?_
        refine (Wo_pre 7 (fun call => by simp only [go_sem, seval, p2.get, hg6, Nd.cells]; rfl) ?_)
        refine Wo_op (iop_name (by first | rfl | assumption) p2.gb (by first | rfl | assumption)) ?_
        refine (Wo_run (fun call => by simp only [go_sem, seval]; rfl) ?_)
        refine ⟨rfl, ?_⟩
        refine Wo_must F hj2 hx (by first | rfl | assumption) (ok := decide (0 < numOf J.fl x.text)) (by simp [ev, upd]) (by first | rfl | assumption) rfl (fun hy => Wo_nil ?_) (fun hy e => ?_)
        · have hy := of_decide_eq_true hy
          exact ⟨by rw [kindE, if_neg k17, if_pos k20, if_pos hy], rfl, rfl, (by first | rfl | assumption), (by first | rfl | assumption), (by first | rfl | assumption)⟩
        · have hy := of_decide_eq_false hy
          exact ⟨_, rfl, by rw [kindE, if_neg k17, if_pos k20, if_neg hy], rfl, rfl⟩
      refine Wc_case (k := x.kind) (by first | rfl | assumption) (fun k23 => ?_) (fun k23 => ?_)
      · refine Wc_draw_end 10 rfl (by decide) ?_
        refine (Wo_pre 7 (fun call => by simp only [go_sem, seval, p2.get, hg6, Nd.cells]; rfl) ?_)
        refine Wo_op (iop_name (by first | rfl | assumption) p2.ga (by first | rfl | assumption)) ?_
        refine (Wo_run (fun call => by simp only [go_sem, seval]; rfl) ?_)
        refine ⟨rfl, ?_⟩
        refine Wo_must F hj2 hx (by first | rfl | assumption) (ok := decide (0 < numOf J.sn x.text)) (by simp [ev, upd]) (by first | rfl | assumption) rfl (fun hy => Wo_nil ?_) (fun hy e => ?_)
        · have hy := of_decide_eq_true hy
          exact ⟨by rw [kindE, if_neg k17, if_neg k20, if_pos k23, if_pos hy], rfl, rfl, (by first | rfl | assumption), (by first | rfl | assumption), (by first | rfl | assumption)⟩
        · have hy := of_decide_eq_false hy
          exact ⟨_, rfl, by rw [kindE, if_neg k17, if_neg k20, if_pos k23, if_neg hy], rfl, rfl⟩
      refine Wc_case (k := x.kind) (by first | rfl | assumption) (fun k22 => ?_) (fun k22 => Wc_skip ?_)
      · refine Wc_seq (Wc_draw_still (by decide) ?_)
        refine (Wo_pre 6 (fun call => by simp only [go_sem, seval, p2.get, hg6, Nd.cells]; rfl) ?_)
        refine Wo_op (iop_name (by first | rfl | assumption) p2.gc (by first | rfl | assumption)) ?_
        refine (Wo_run (fun call => by simp only [go_sem, seval]; rfl) ?_)
        refine ⟨rfl, ?_⟩
        show Wc T _ _ _
        refine Wc_seq (Wc_ops (Wo_pre 4 (fun call => by simp only [go_sem, seval]; rfl) ?_))
        refine Wo_must F hj2 hx (by first | rfl | assumption) (ok := decide (0 < numOf J.fn x.text)) (by simp [ev, upd]) (by first | rfl | assumption) rfl (fun hy => Wo_nil ?_) (fun hy => ?_)
        · have hy := of_decide_eq_true hy
          show Wc T _ _ _
          have hle := numOf_le J.fn x.text
          obtain ⟨r, hr⟩ : ∃ r, J.fns[numOf J.fn x.text - 1]? = some r := ⟨_, List.getElem?_eq_getElem (by omega)⟩
          obtain ⟨rb, rc, hfv, _, hrg, hrc⟩ := p2.fns.cell fnr_len hr
          have hr1 := hrc 1 (by omega)
          have hpar : parN J (numOf J.fn x.text - 1) = r.params := by rw [parN, hr]; rfl
          have hlt := (List.getElem?_eq_some_iff.1 hr).1
          have hw : IntKind.i64.wrap (((numOf J.fn x.text : Nat) : Int) - 1) = ((numOf J.fn x.text - 1 : Nat) : Int) := by rw [wrap64] <;> omega
          obtain ⟨ka, kc, hkv⟩ := (p.nodes.2 x hxm).len
          refine Wc_draw_end 16 rfl (by decide) ?_
          refine (Wo_run (fun call => by simp only [go_sem, seval, p2.get, hg6, Nd.cells, hfv, hw, idx_ok hlt, hrg, hr1, Fnr.cells, hkv]; rfl) ?_)
          refine ⟨rfl, ?_⟩
          refine Wo_must F hj2 hx (by first | rfl | assumption) (ok := decide (r.params = x.kids.length)) (by simp only [ev, upd, dstUpd, reduceIte, Nat.reduceEqDiff]; rw [len_eq]) (by first | rfl | assumption) rfl (fun hy2 => Wo_nil ?_) (fun hy2 e => ?_)
          · have hy2 := of_decide_eq_true hy2
            exact ⟨by rw [kindE, if_neg k17, if_neg k20, if_neg k23, if_pos k22, if_pos hy, hpar, if_pos hy2], rfl, rfl, (by first | rfl | assumption), (by first | rfl | assumption), (by first | rfl | assumption)⟩
          · have hy2 := of_decide_eq_false hy2
            exact ⟨_, rfl, by rw [kindE, if_neg k17, if_neg k20, if_neg k23, if_pos k22, if_pos hy, hpar, if_neg hy2], rfl, rfl⟩
        · have hy := of_decide_eq_false hy
          exact ⟨_, rfl, by rw [kindE, if_neg k17, if_neg k20, if_neg k23, if_pos k22, if_neg hy], rfl, rfl⟩
      · exact ⟨by rw [kindE, if_neg k17, if_neg k20, if_neg k23, if_neg k22], rfl, rfl, (by first | rfl | assumption), (by first | rfl | assumption), (by first | rfl | assumption)⟩
    · intro ex s' hs
      cases ex with
      | brk i => exact hs.elim
      | ret => exact hs.elim
      | pan u => obtain ⟨r, rfl, h1, h2', h3⟩ := hs; exact bad r s' h1 h2' h3
      | normal =>
        obtain ⟨e', h3, d'⟩ := s'
        obtain ⟨hk, hd, hh, e0, e2, e6⟩ := hs
        simp only at hd hh e0 e2 e6
        subst hh
        subst hd
        show Wc T _ _ _
        obtain ⟨ka, kc, hkv⟩ := (p.nodes.2 x hxm).len
        have hki := (p2.nodes.2 x hxm)
        have hkn := hkl x hxm
        refine Wc_seq (Wc_ops (Wo_run (fun call => by simp only [go_sem, seval, e6, hg6, Nd.cells, hkv]; rfl) ?_))
        show Wc T _ _ _
        refine Wc_range x.kids.length (fun j e h' d => d = some [] ∧ Kept h3 h' ∧ ((x.kids.drop j).findSome? fun k => exprE l J sc f k.toNat) = (x.kids.findSome? fun k => exprE l J sc f k.toNat)) (by decide) (by first | rfl | assumption) (by first | rfl | assumption) (by omega) (by decide) ⟨rfl, .refl _, by rw [List.drop_zero]⟩ ?_ ?_
        · rintro j e h' d hj' ⟨rfl, hk', hfs⟩ hfr hi hn'
          obtain ⟨k, hkj⟩ : ∃ k, x.kids[j]? = some k := ⟨_, List.getElem?_eq_getElem hj'⟩
          obtain ⟨kb, kcp, hkvb, _, ⟨ko, kz, hkg⟩, hkc⟩ := (hki.keep hk').load hkj
          rw [Nat.zero_add] at hkc
          have hkr := hok.kids k (List.mem_of_getElem? hkj)
          obtain ⟨m, rfl⟩ : ∃ m : Nat, k = m := ⟨k.toNat, by omega⟩
          have hdr : x.kids.drop j = ((m : Nat) : Int) :: x.kids.drop (j + 1) := by
            obtain ⟨hl, ht⟩ := List.getElem?_eq_some_iff.1 hkj
            rw [List.drop_eq_getElem_cons hl, ht]
          rw [hdr, List.findSome?_cons] at hfs
          have e86 : e 86 = x.kv := by rw [hkv]; exact ((hfr 86 (by decide)).trans (by first | rfl | assumption | (symm; assumption)))
          have e0' : e 0 = ptr jb 0 := (by rw [hfr 0 (by decide)]; try simp only [go_sem, seval, e0] <;> first | rfl | assumption | (symm; assumption))
          have e2' : e 2 = v := (by rw [hfr 2 (by decide)]; try simp only [go_sem, seval, e2] <;> first | rfl | assumption | (symm; assumption))
          refine Wc_seq (Wc_ops (Wo_run (fun call => by simp only [go_sem, seval, hi, e86, hkvb, idx_ok hj', hkg, hkc]; rfl) ?_))
          show Wc T _ _ _
          refine Wc_ops (Wo_pre 3 (fun call => by simp only [go_sem, seval, e0', e2']; rfl) ?_)
          refine Wo_call ((ih m (by omega) (hj2.keep hk') (sc2.keep hk') (by omega)).mono ?_)
          rintro o h'' ⟨k'', rfl⟩
          simp only [Int.toNat_natCast] at hfs
          cases hex : exprE l J sc f m with
          | none =>
            rw [hex] at hfs
            show Wo T _ _ _
            refine Wo_nil ?_
            exact ⟨rfl, hk'.trans k'', hfs⟩
          | some r =>
            rw [hex] at hfs
            have hres : exprE l J sc (f + 1) n = some r := by rw [hE, hk]; exact hfs.symm
            exact ⟨rfl, (k2.trans hk').trans k'', by rw [hres]; rfl⟩
        · rintro e h' d ⟨rfl, hk', hfs⟩ hfr hi
          rw [List.drop_length] at hfs
          refine ⟨rfl, [], rfl, k2.trans hk', ?_⟩
          have hres : exprE l J sc (f + 1) n = none := by rw [hE, hk]; exact hfs.symm
          rw [hres]; rfl
end Go.Idl
end

section
namespace Go.Idl
variable {T : Tbl}
def textAt (l : List Nd) (k : Int) : ByteArray := (l[k.toNat]?.map (·.text)).getD ⟨#[]⟩
def greensE (l : List Nd) (sc : List ByteArray) : List Int → List ByteArray → Option CE
  | [], _ => none
  | k :: ks, seen => if hasN sc (textAt l k) && decide (numOf seen (textAt l k) = 0) then greensE l sc ks (seen ++ [textAt l k]) else some (posAt l k, 80)
def mergeE (l : List Nd) (sc : List ByteArray) (first : Bool) (x : Nd) : Option CE :=
  if first && decide (x.kids.length ≤ 4) then greensE l sc x.kids [] else some (x.pos, 82)
theorem JRep.node {jb : Nat} {l : List Nd} {J : JSt} {h : Heap} {v sv fv mv : Value} {a b c : Nat} (p : JRep jb l J h v sv fv mv a b c) {n : Nat} {x : Nd} (hx : l[n]? = some x) : ∃ q cp o z, v = .slice (some ⟨q, 0, none⟩) l.length cp ∧ h.get q = some (.cells (flatN l) o z) ∧ h.cells q (n * 4) 4 = some x.cells := by
  obtain ⟨q, cp, o, z, h1, _, h2, h3⟩ := p.nodes.load4 hx
  exact ⟨q, cp, o, z, h1, h2, h3⟩
theorem kid_at {h : Heap} {kv : Value} {kids : List Int} (hk : intsAt h kv kids) {j : Nat} {k : Int} (hj : kids[j]? = some k) : ∃ b c o z, kv = .slice (some ⟨b, 0, none⟩) kids.length c ∧ h.get b = some (.cells (ints64 kids) o z) ∧ (ints64 kids)[j * 1]? = some (.int .i64 k) := by
  obtain ⟨b, c, h1, _, ⟨o, z, h2⟩, h3⟩ := hk.load hj
  rw [Nat.zero_add] at h3
  exact ⟨b, c, o, z, h1, h2, h3⟩
theorem textAt_at {l : List Nd} {m : Nat} {y : Nd} (hy : l[m]? = some y) : textAt l ((m : Nat) : Int) = y.text := by rw [textAt, Int.toNat_natCast, hy]; rfl
structure BFns (T : Tbl) : Prop where
  j : JFns T
  merge : T.fn 60 = some C60
  block : T.fn 47 = some C47
theorem merge_ok' (F : BFns T) {jb : Nat} {l : List Nd} {J : JSt} {sc : List ByteArray} (g : GoodT l) (hkl : ∀ x ∈ l, x.kids.length < 1000000) {n : Nat} {x : Nd} {first : Bool} {h : Heap} {v : Value} (hj : Jud jb l J h) (hsc : scopeAt h v sc) (hx : l[n]? = some x) :
    Wk T (.fn 60) [ptr jb 0, .int .i64 n, v, .bool first] h (fun o h' => Kept h h' ∧ o = outC (mergeE l sc first x)) := by
  have hn := (List.getElem?_eq_some_iff.1 hx).1
  have hxm := List.mem_of_getElem? hx
  have hok := g.ok n x hx
  obtain ⟨lv, sv, fv, mv, a, b, c, p⟩ := id hj
  obtain ⟨q, cp, o, z, hvb, hgb, hcell⟩ := p.node hx
  obtain ⟨f0, f1, f2, f3⟩ := flatN_at hx
  obtain ⟨ka, kc, hkv⟩ := (p.nodes.2 x hxm).len
  have hkn := hkl x hxm
  refine Wk_fn2 F.merge (by simp [C60]) ?_
  simp only [C60]
  refine Wc_seq (Wc_ops (Wo_run (fun call => by simp only [go_sem, seval, p.get, hvb, idx_ok hn, hgb, f2]; rfl) ?_))
  show Wc T _ _ _
  have rest : ∀ (e' : Env), first = true → x.kids.length ≤ 4 → e' 0 = ptr jb 0 → e' 2 = v → e' 8 = x.kv → Wc T (.seq (.ops [⟨(some 29), .op (.mkmap (.one .str)), none⟩, ⟨(some 9), .op (.mov (.t 29)), none⟩])
      (.seq (.ops [⟨(some 30), .op (.mov (.t 8)), none⟩, ⟨(some 31), .op (.len .sl (.t 30)), none⟩, ⟨(some 32), .op (.mov (.c (.int .i64 0))), none⟩]) (.block 0 (.loop C60L0)))) ⟨e', h, some []⟩ (Fin2 C60 fun o h' => Kept h h' ∧ o = outC (mergeE l sc first x)) := by
    intro e' hf hle e0 e2 e8
    have hM : mergeE l sc first x = greensE l sc x.kids [] := by rw [mergeE, hf, decide_eq_true hle]; rfl
    refine Wc_seq (Wc_ops (Wo_new (v := .map (some h.next)) (B := nmap []) rfl fun h1 n1 => ?_))
    refine (Wo_run (fun call => by simp only [go_sem, seval]; rfl) ?_)
    show Wc T _ _ _
    refine Wc_seq (Wc_ops (Wo_run (fun call => by simp only [go_sem, seval, e8, hkv]; rfl) ?_))
    show Wc T _ _ _
    refine Wc_range x.kids.length (fun j e h' d => d = some [] ∧ Kept h h' ∧ h.next < h'.next ∧ ∃ seen, seen.length ≤ j ∧ h'.get h.next = some (nmap seen) ∧ greensE l sc (x.kids.drop j) seen = greensE l sc x.kids []) (by decide) (by first | rfl | assumption) (by first | rfl | assumption) (by omega) (by decide) ⟨rfl, n1.kept, by rw [n1.next]; exact Nat.lt_succ_self _, [], Nat.le_refl _, n1.get, by rw [List.drop_zero]⟩ ?_ ?_
    · rintro j e h' d hj' ⟨rfl, hk', hlt, seen, hsl, hsg, hgr⟩ hfr hi hn'
      obtain ⟨k, hkj⟩ : ∃ k, x.kids[j]? = some k := ⟨_, List.getElem?_eq_getElem hj'⟩
      have p' := p.keep hk'
      have hj2 := hj.keep hk'
      obtain ⟨kb, kcp, ko, kz, hkvb, hkg, hkc⟩ := kid_at (p'.nodes.2 x hxm) hkj
      have hkr := hok.kids k (List.mem_of_getElem? hkj)
      obtain ⟨m, rfl⟩ : ∃ m : Nat, k = m := ⟨k.toNat, by omega⟩
      have hml : m < l.length := by omega
      obtain ⟨y, hy⟩ : ∃ y, l[m]? = some y := ⟨_, List.getElem?_eq_getElem hml⟩
      obtain ⟨q', cp', o', z', hvb', hgb', hcell'⟩ := p'.node hy
      obtain ⟨y0, y1, y2, y3⟩ := flatN_at hy
      have hdr : x.kids.drop j = ((m : Nat) : Int) :: x.kids.drop (j + 1) := by
        obtain ⟨hl, ht⟩ := List.getElem?_eq_some_iff.1 hkj
        rw [List.drop_eq_getElem_cons hl, ht]
      rw [hdr, greensE, textAt_at hy, posAt_at hy] at hgr
      have e30 : e 30 = x.kv := by rw [hkv]; exact ((hfr 30 (by decide)).trans (by first | rfl | assumption | (symm; assumption)))
      have e0' : e 0 = ptr jb 0 := (by rw [hfr 0 (by decide)]; try simp only [go_sem, seval, e0] <;> first | rfl | assumption | (symm; assumption))
      have e2' : e 2 = v := (by rw [hfr 2 (by decide)]; try simp only [go_sem, seval, e2] <;> first | rfl | assumption | (symm; assumption))
      have e9' : e 9 = .map (some h.next) := ((hfr 9 (by decide)).trans (by first | rfl | assumption | (symm; assumption)))
      have sc' := hsc.keep hk'
      refine Wc_seq (Wc_ops (Wo_run (fun call => by simp only [go_sem, seval, hi, e30, hkvb, idx_ok hj', hkg, hkc]; rfl) ?_))
      show Wc T _ _ _
      refine Wc_ops (Wo_pre 10 (fun call => by simp only [go_sem, seval, e0', e2', p'.get, hvb', idx_ok hml, hgb', y1]; rfl) ?_)
      refine Wo_call (Wk_pure (has_ok F.j.has (s := y.text) sc') ?_)
      cases hh : hasN sc y.text with
      | false =>
        refine (Wo_pre 12 (fun call => by simp only [go_sem, seval]; rfl) ?_)
        rw [hh] at hgr
        refine Wo_must F.j hj2 hy (by first | rfl | assumption) (ok := false) (by first | rfl | assumption) (by first | rfl | assumption) rfl (fun hy2 => by cases hy2) (fun _ => ?_)
        exact ⟨rfl, hk', by rw [hM, ← hgr]; rfl⟩
      | true =>
        rw [hh, Bool.true_and] at hgr
        refine (Wo_pre 10 (fun call => by simp only [go_sem, seval, e9', e0', p'.get, hvb', idx_ok hml, hgb', y1]; rfl) ?_)
        refine Wo_take (by simp only [upd, dstUpd, reduceIte, Nat.reduceEqDiff, gval_bool]; rfl) (Wo_call ((lay_ok F.j.lay (b := h.next) (l := seen) (s := y.text) hsg (by omega)).mono ?_))
        rintro o h2 ⟨rfl, rfl⟩
        by_cases hz : numOf seen y.text = 0
        · rw [decide_eq_true hz, if_pos rfl] at hgr
          rw [if_pos hz, decide_eq_true hz]
          have hk2 : Kept h (h'.set h.next (nmap (seen ++ [y.text]))) := hk'.set (Nat.le_refl _) _
          refine (Wo_pre 2 (fun call => by simp only [go_sem, seval]; rfl) ?_)
          refine Wo_must F.j (hj.keep hk2) hy (by first | rfl | assumption) (ok := true) (by first | rfl | assumption) (by first | rfl | assumption) rfl (fun _ => Wo_nil ?_) (fun hy2 => by cases hy2)
          exact ⟨rfl, hk2, hlt, _, by rw [List.length_append, List.length_singleton]; omega, set_get' _ _ _, hgr⟩
        · rw [decide_eq_false hz] at hgr
          rw [if_neg hz, decide_eq_false hz]
          refine (Wo_pre 2 (fun call => by simp only [go_sem, seval]; rfl) ?_)
          refine Wo_must F.j hj2 hy (by first | rfl | assumption) (ok := false) (by first | rfl | assumption) (by first | rfl | assumption) rfl (fun hy2 => by cases hy2) (fun _ => ?_)
          exact ⟨rfl, hk', by rw [hM, ← hgr]; rfl⟩
    · rintro e h' d ⟨rfl, hk', hlt, seen, hsl, hsg, hgr⟩ hfr hi
      rw [List.drop_length, greensE] at hgr
      exact ⟨rfl, [], rfl, hk', by rw [hM, ← hgr]; rfl⟩
  have hb4 : (decide (((x.kids.length : Nat) : Int) ≤ 4)) = decide (x.kids.length ≤ 4) := by rw [decide_eq_decide]; omega
  cases first with
  | false =>
    refine Wc_seq (Wc_ops (Wo_pre 8 (fun call => by simp only [go_sem, seval]; rfl) ?_))
    refine Wo_must F.j hj hx (by first | rfl | assumption) (ok := false) (by first | rfl | assumption) (by first | rfl | assumption) rfl (fun hy => by cases hy) (fun _ => ?_)
    exact ⟨rfl, .refl _, by rw [mergeE]; rfl⟩
  | true =>
    refine Wc_seq (Wc_ops (Wo_pre 8 (fun call => by simp only [go_sem, seval, hkv]; rfl) ?_))
    refine Wo_must F.j hj hx (by first | rfl | assumption) (ok := decide (x.kids.length ≤ 4)) (by simp only [ev, upd, dstUpd, reduceIte, Nat.reduceEqDiff]; rw [hb4]) (by first | rfl | assumption) rfl (fun hy => Wo_nil ?_) (fun hy => ?_)
    · exact rest _ rfl (of_decide_eq_true hy) (by first | rfl | assumption) (by first | rfl | assumption) (by rw [hkv]; exact (by first | rfl | assumption))
    · exact ⟨rfl, .refl _, by rw [mergeE, hy]; rfl⟩
end Go.Idl
end

section
namespace Go.Idl
variable {T : Tbl}
def kidE (l : List Nd) (J : JSt) (bl : Nat → List ByteArray → Bool → Option CE) (sc : List ByteArray) (wh : Bool) (c : Int) : Option CE := if kindAt l c = 4 then bl c.toNat sc wh else exprE l J sc l.length c.toNat
def stmtsE (l : List Nd) (J : JSt) (bl : Nat → List ByteArray → Bool → Option CE) : List Int → List ByteArray → Bool → Option CE
  | [], _, _ => none
  | k :: ks, sc, lf => match l[k.toNat]? with
    | none => none
    | some x =>
      if x.kind = 13 then (match mergeE l sc lf x with
        | some e => some e
        | none => stmtsE l J bl ks sc false)
      else if x.kind = 5 then (if hasN sc x.text then some (x.pos, 80) else match exprE l J sc l.length (x.kids.getD 0 0).toNat with
        | some e => some e
        | none => stmtsE l J bl ks (x.text :: sc) false)
      else match x.kids.findSome? (kidE l J bl sc (x.kind == 8)) with
        | some e => some e
        | none => stmtsE l J bl ks sc false
def blockE (l : List Nd) (J : JSt) : Nat → Nat → List ByteArray → Bool → Option CE
  | 0, _, _, _ => none
  | f + 1, n, sc, lp => match l[n]? with
    | none => none
    | some x => stmtsE l J (blockE l J f) x.kids sc lp
theorem exprs_len {ks : List Int} (h : shapeB 5 ks = true) : ks.length = 1 := (exprs_facts (n := 1) (ks := ks) h).1
theorem scope_ptr {h : Heap} : ∀ {l : List ByteArray} {v : Value}, scopeAt h v l → ∃ a, v = .pointer a
  | [], _, hv => ⟨none, hv⟩
  | _ :: _, _, ⟨b, p, hv, _⟩ => ⟨_, hv⟩
theorem block_ok' (F : BFns T) {jb : Nat} {l : List Nd} {J : JSt} (g : GoodT l) (hfl : J.fns.length = J.fn.length) (hlen : l.length < 1000000) (hkl : ∀ x ∈ l, x.kids.length < 1000000) (hfn : J.fn.length < 1000000) : ∀ (f n : Nat), n < f → ∀ {sc : List ByteArray} {lp : Bool} {h : Heap} {v : Value}, Jud jb l J h → scopeAt h v sc → n < l.length →
    Wk T (.fn 47) [ptr jb 0, .int .i64 n, v, .bool lp] h (fun o h' => Kept h h' ∧ o = outC (blockE l J f n sc lp)) := by
  intro f
  induction f with
  | zero => intro n hn; omega
  | succ f ih =>
    intro n hnf sc lp h v hj hsc hn
    obtain ⟨x, hx⟩ : ∃ x, l[n]? = some x := ⟨_, List.getElem?_eq_getElem hn⟩
    have hxm := List.mem_of_getElem? hx
    have hok := g.ok n x hx
    have hB : blockE l J (f + 1) n sc lp = stmtsE l J (blockE l J f) x.kids sc lp := by rw [blockE, hx]
    obtain ⟨lv, sv, fv, mv, a, b, c, p⟩ := id hj
    obtain ⟨q, cp, o, z, hvb, hgb, hcell⟩ := p.node hx
    obtain ⟨f0, f1, f2, f3⟩ := flatN_at hx
    obtain ⟨ka, kc, hkv⟩ := (p.nodes.2 x hxm).len
    have hkn := hkl x hxm
    refine Wk_fn2 F.block (by simp [C47]) ?_
    simp only [C47]
    refine Wc_seq (Wc_ops (Wo_run (fun call => by simp only [go_sem, seval, p.get, hvb, idx_ok hn, hgb, f2, hkv]; rfl) ?_))
    show Wc T _ _ _
    refine Wc_range x.kids.length (fun j e h' d => d = some [] ∧ Kept h h' ∧ ∃ sc' v', e 2 = v' ∧ scopeAt h' v' sc' ∧ stmtsE l J (blockE l J f) (x.kids.drop j) sc' (lp && decide (j = 0)) = stmtsE l J (blockE l J f) x.kids sc lp) (by decide) (by first | rfl | assumption) (by first | rfl | assumption) (by omega) (by decide) ⟨rfl, .refl _, sc, v, (by first | rfl | assumption), hsc, by rw [List.drop_zero, decide_eq_true rfl, Bool.and_true]⟩ ?_ ?_
    · rintro j e h' d hj' ⟨rfl, hk', sc', v', e2, hsc', hst⟩ hfr hi hn'
      obtain ⟨k, hkj⟩ : ∃ k, x.kids[j]? = some k := ⟨_, List.getElem?_eq_getElem hj'⟩
      have p' := p.keep hk'
      obtain ⟨kb, kcp, ko, kz, hkvb, hkg, hkc⟩ := kid_at (p'.nodes.2 x hxm) hkj
      have hkr := hok.kids k (List.mem_of_getElem? hkj)
      obtain ⟨m, rfl⟩ : ∃ m : Nat, k = m := ⟨k.toNat, by omega⟩
      have hml : m < l.length := by omega
      obtain ⟨y, hy⟩ : ∃ y, l[m]? = some y := ⟨_, List.getElem?_eq_getElem hml⟩
      have hym := List.mem_of_getElem? hy
      have hoky := g.ok m y hy
      obtain ⟨q', cp', o', z', hvb', hgb', hcell'⟩ := p'.node hy
      have hdr : x.kids.drop j = ((m : Nat) : Int) :: x.kids.drop (j + 1) := by
        obtain ⟨hl, ht⟩ := List.getElem?_eq_some_iff.1 hkj
        rw [List.drop_eq_getElem_cons hl, ht]
      rw [hdr, stmtsE, Int.toNat_natCast, hy] at hst
      simp only at hst
      have hjs : (lp && decide (j + 1 = 0)) = false := by simp
      have e20 : e 20 = x.kv := by rw [hkv]; exact ((hfr 20 (by decide)).trans (by first | rfl | assumption | (symm; assumption)))
      have e0 : e 0 = ptr jb 0 := ((hfr 0 (by decide)).trans (by first | rfl | assumption | (symm; assumption)))
      have e3 : e 3 = .bool lp := ((hfr 3 (by decide)).trans (by first | rfl | assumption | (symm; assumption)))
      refine Wc_seq (Wc_ops (Wo_run (fun call => by simp only [go_sem, seval, hi, e20, hkvb, idx_ok hj', hkg, hkc]; rfl) ?_))
      show Wc T _ _ _
      refine Wc_seq (Wc_ops (Wo_pre 8 (fun call => by simp only [go_sem, seval, e0, p'.get, hvb', idx_ok hml, hcell']; rfl) ?_))
      refine Wo_store_new (cs := y.cells) (h := h') (by first | rfl | assumption) (by first | rfl | assumption) rfl rfl fun h2 n2 => Wo_nil ?_
      show Wc T _ _ _
      have k2 := hk'.trans n2.kept
      have hg10 := n2.get
      have hj2 := hj.keep k2
      have p2 := p.keep k2
      have sc2 := hsc'.keep n2.kept
      obtain ⟨ya, yc, hyv⟩ := (p.nodes.2 y hym).len
      refine Wc_seq (Wc_ops (Wo_run (fun call => by simp only [go_sem, seval, hg10, Nd.cells]; rfl) ?_))
      show Wc T _ _ _
      refine Wc_block ?_
      refine Wc_case (k := y.kind) (by first | rfl | assumption) (fun k13 => ?_) (fun k13 => ?_)
      · rw [if_pos k13] at hst
        have fin : ∀ {e' : Env} {b1 : Bool}, b1 = (lp && decide (j = 0)) → e' 66 = ptr jb 0 → e' 67 = .int .i64 m → e' 68 = v' → e' 2 = v' → e' 73 = .bool b1 → Wo T [⟨(some 74), .call 60 [(.t 66), (.t 67), (.t 68), (.t 73)], none⟩] ⟨e', h2, some []⟩ (To (Tb 2 (Rnd 1 0 22 97 (.int .i64 ((j + 1 : Nat) : Int)) (fun e h' d => d = some [] ∧ Kept h h' ∧ ∃ sc' v', e 2 = v' ∧ scopeAt h' v' sc' ∧ stmtsE l J (blockE l J f) (x.kids.drop (j + 1)) sc' (lp && decide (j + 1 = 0)) = stmtsE l J (blockE l J f) x.kids sc lp) (Fin2 C47 fun o h' => Kept h h' ∧ o = outC (blockE l J (f + 1) n sc lp))))) := by
          intro e' b1 hb1 g66 g67 g68 g2 g73
          refine Wo_call ?_
          simp only [List.map_cons, List.map_nil, ev, g66, g67, g68, g73]
          refine (merge_ok' F g hkl (first := b1) hj2 sc2 hy).mono ?_
          rintro o h3 ⟨k3, rfl⟩
          rw [hb1]
          cases hm : mergeE l sc' (lp && decide (j = 0)) y with
          | none =>
            rw [hm] at hst
            exact Wo_nil ⟨rfl, k2.trans k3, sc', v', by simp only [dstUpd, upd, reduceIte, Nat.reduceEqDiff]; exact g2, sc2.keep k3, by rw [hjs]; exact hst⟩
          | some r =>
            rw [hm] at hst
            have hres : blockE l J (f + 1) n sc lp = some r := by rw [hB]; exact hst.symm
            exact ⟨rfl, k2.trans k3, by rw [hres]; rfl⟩
        cases lp with
        | false =>
          refine Wc_ops (Wo_pre 8 (fun call => by simp only [go_sem, seval, e0, e2, e3]; rfl) ?_)
          exact fin (b1 := false) (by simp) (by first | rfl | assumption) (by first | rfl | assumption) (by first | rfl | assumption) (by simp only [go_sem, seval, e2] <;> first | rfl | assumption | (symm; assumption)) (by first | rfl | assumption)
        | true =>
          refine Wc_ops (Wo_pre 8 (fun call => by simp only [go_sem, seval, e0, e2, e3]; rfl) ?_)
          refine fin (b1 := decide (j = 0)) (by simp) (by first | rfl | assumption) (by first | rfl | assumption) (by first | rfl | assumption) (by simp only [go_sem, seval, e2] <;> first | rfl | assumption | (symm; assumption)) ?_
          simp only [upd, reduceIte, Nat.reduceEqDiff, ev]
          have : (((j : Nat) : Int) == 0) = decide (j = 0) := by rw [Bool.beq_eq_decide_eq, decide_eq_decide]; omega
          rw [this]
      rw [if_neg k13] at hst
      refine Wc_case (k := y.kind) (by first | rfl | assumption) (fun k5 => ?_) (fun k5 => ?_)
      · rw [if_pos k5] at hst
        have hsh := hoky.shape
        rw [k5] at hsh
        have hlen1 : (y.kids.map (kindAt l)).length = 1 := (exprs_len hsh)
        rw [List.length_map] at hlen1
        obtain ⟨k0, hk0⟩ : ∃ k0, y.kids[0]? = some k0 := ⟨_, List.getElem?_eq_getElem (by omega)⟩
        have hk0r := hoky.kids k0 (List.mem_of_getElem? hk0)
        obtain ⟨m0, rfl⟩ : ∃ m0 : Nat, k0 = m0 := ⟨k0.toNat, by omega⟩
        have hgd : y.kids.getD 0 0 = ((m0 : Nat) : Int) := by rw [List.getD_eq_getElem?_getD, hk0]; rfl
        rw [hgd, Int.toNat_natCast] at hst
        refine Wc_seq (Wc_ops (Wo_pre 4 (fun call => by simp only [go_sem, seval, e0, e2, hg10, Nd.cells]; rfl) ?_))
        refine Wo_call (Wk_pure (has_ok F.j.has (s := y.text) sc2) ?_)
        refine (Wo_pre 2 (fun call => by simp only [go_sem, seval]; rfl) ?_)
        refine Wo_must F.j hj2 hy (by simp only [go_sem, seval, e0] <;> first | rfl | assumption | (symm; assumption)) (ok := !hasN sc' y.text) (by first | rfl | assumption) (by first | rfl | assumption) rfl (fun hy2 => Wo_nil ?_) (fun hy2 => ?_)
        · have hh : hasN sc' y.text = false := by simpa using hy2
          rw [hh] at hst
          simp only [Bool.false_eq_true, if_false] at hst
          show Wc T _ _ _
          obtain ⟨yb, ycp, yo, yz, hyvb, hyg, hyc⟩ := kid_at (p2.nodes.2 y hym) hk0
          have hyc0 : (ints64 y.kids)[0]? = some (.int .i64 ((m0 : Nat) : Int)) := hyc
          refine Wc_seq (Wc_ops (Wo_pre 6 (fun call => by simp only [go_sem, seval, e0, e2, hg10, Nd.cells, hyvb, idx0 (k := .i64) (show 0 < y.kids.length by omega), hyg, hyc0]; rfl) ?_))
          refine Wo_call ((expr_ok F.j g hfl hlen hkl hfn l.length m0 (by omega) hj2 sc2 (by omega)).mono ?_)
          rintro o h3 ⟨k3, rfl⟩
          cases hex : exprE l J sc' l.length m0 with
          | some r =>
            rw [hex] at hst
            have hres : blockE l J (f + 1) n sc lp = some r := by rw [hB]; exact hst.symm
            exact ⟨rfl, k2.trans k3, by rw [hres]; rfl⟩
          | none =>
            rw [hex] at hst
            show Wo T _ _ _
            refine Wo_nil ?_
            show Wc T _ _ _
            have sc3 := sc2.keep k3
            have hg10' : h3.get h'.next = some (.cells y.cells true 0) := by rw [k3.get _ (by rw [n2.next]; omega)]; exact hg10
            obtain ⟨va, rfl⟩ := scope_ptr sc3
            refine Wc_ops (Wo_pre 3 (fun call => by simp only [go_sem, seval, e2, hg10', Nd.cells]; rfl) ?_)
            refine Wo_op (v := .agg #[.pointer va, .string y.text]) (h' := h3) (by rfl) ?_
            refine Wo_box (cs := [.pointer va, .string y.text]) (by simp only [go_sem, seval, cellsOf] <;> first | rfl | assumption | (symm; assumption)) fun h4 n4 => ?_
            refine (Wo_run (fun call => by simp only [go_sem, seval]; rfl) ?_)
            exact ⟨rfl, (k2.trans k3).trans n4.kept, y.text :: sc', ptr h3.next 0, (by first | rfl | assumption), ⟨h3.next, .pointer va, rfl, by rw [n4.next]; exact Nat.lt_succ_self _, n4.get, sc3.keep n4.kept⟩, by rw [hjs]; exact hst⟩
        · have hh : hasN sc' y.text = true := by simpa using hy2
          rw [hh, if_pos rfl] at hst
          have hres : blockE l J (f + 1) n sc lp = some (y.pos, 80) := by rw [hB]; exact hst.symm
          exact ⟨rfl, k2, by rw [hres]; rfl⟩
      rw [if_neg k5] at hst
      refine Wc_seq (Wc_ops (Wo_run (fun call => by simp only [go_sem, seval, hg10, Nd.cells, hyv]; rfl) ?_))
      show Wc T _ _ _
      refine Wc_range y.kids.length (fun i e h3 d => d = some [] ∧ Kept h2 h3 ∧ e 2 = v' ∧ (y.kids.drop i).findSome? (kidE l J (blockE l J f) sc' (y.kind == 8)) = y.kids.findSome? (kidE l J (blockE l J f) sc' (y.kind == 8))) (by decide) (by first | rfl | assumption) (by first | rfl | assumption) (by have := hkl y hym; omega) (by decide) ⟨rfl, .refl _, (by simp only [go_sem, seval, e2] <;> first | rfl | assumption | (symm; assumption)), by rw [List.drop_zero]⟩ ?_ ?_
      · rintro i e3 h3 d hi' ⟨rfl, k3, e32, hfs⟩ hfr3 hii hnn
        obtain ⟨c1, hc1⟩ : ∃ k, y.kids[i]? = some k := ⟨_, List.getElem?_eq_getElem hi'⟩
        have p3 := p2.keep k3
        have hj3 := hj2.keep k3
        have sc3 := sc2.keep k3
        obtain ⟨yb, ycp, yo, yz, hyvb, hyg, hyc⟩ := kid_at (p3.nodes.2 y hym) hc1
        have hcr := hoky.kids c1 (List.mem_of_getElem? hc1)
        obtain ⟨m1, rfl⟩ : ∃ m : Nat, c1 = m := ⟨c1.toNat, by omega⟩
        have hm1 : m1 < l.length := by omega
        obtain ⟨w, hw⟩ : ∃ w, l[m1]? = some w := ⟨_, List.getElem?_eq_getElem hm1⟩
        obtain ⟨q3, cp3, o3, z3, hvb3, hgb3, hcell3⟩ := p3.node hw
        obtain ⟨w0, w1, w2, w3⟩ := flatN_at hw
        have hdr : y.kids.drop i = ((m1 : Nat) : Int) :: y.kids.drop (i + 1) := by
          obtain ⟨hl, ht⟩ := List.getElem?_eq_some_iff.1 hc1
          rw [List.drop_eq_getElem_cons hl, ht]
        have hka : kindAt l ((m1 : Nat) : Int) = w.kind := by rw [kindAt, Int.toNat_natCast, hw]; rfl
        rw [hdr, List.findSome?_cons, kidE, hka, Int.toNat_natCast] at hfs
        have g37 : e3 37 = y.kv := by rw [hyv, hfr3 37 (by decide)]; rfl
        have g0 : e3 0 = ptr jb 0 := by rw [hfr3 0 (by decide)]; exact e0
        have g10 : e3 10 = ptr h'.next 0 := by rw [hfr3 10 (by decide)]; rfl
        have hg103 : h3.get h'.next = some (.cells y.cells true 0) := by rw [k3.get _ (by rw [n2.next]; omega)]; exact hg10
        have bad : ∀ (r : CE) (s' : St), y.kids.findSome? (kidE l J (blockE l J f) sc' (y.kind == 8)) = some r → s'.d = some [] → Kept h s'.h → Fin2 C47 (fun o h' => Kept h h' ∧ o = outC (blockE l J (f + 1) n sc lp)) (.pan (wrongC r)) s' := fun r s' h1 h2 h3 => by
          rw [h1] at hst
          have hres : blockE l J (f + 1) n sc lp = some r := by rw [hB]; exact hst.symm
          exact ⟨h2, h3, by rw [hres]; rfl⟩
        refine Wc_seq (Wc_ops (Wo_run (fun call => by simp only [go_sem, seval, hii, g37, hyvb, idx_ok hi', hyg, hyc]; rfl) ?_))
        show Wc T _ _ _
        refine Wc_seq (Wc_ops (Wo_run (fun call => by simp only [go_sem, seval, g0, p3.get, hvb3, idx_ok hm1, hgb3, w0]; rfl) ?_))
        show Wc T _ _ _
        by_cases hk4 : w.kind = 4
        · rw [if_pos hk4] at hfs
          refine Wc_cond true (congrArg Value.bool (beq_iff_eq.2 hk4)) (fun _ => ?_) (fun e => by cases e)
          refine Wc_ops (Wo_pre 6 (fun call => by simp only [go_sem, seval, g0, e32, g10, hg103, Nd.cells]; rfl) ?_)
          refine Wo_call ((ih m1 (by omega) (sc := sc') (lp := (y.kind == 8)) hj3 sc3 hm1).mono ?_)
          rintro o h4 ⟨k4, rfl⟩
          cases hbl : blockE l J f m1 sc' (y.kind == 8) with
          | none =>
            rw [hbl] at hfs
            exact Wo_nil ⟨rfl, k3.trans k4, (by simp only [go_sem, seval, e32] <;> first | rfl | assumption | (symm; assumption)), hfs⟩
          | some r =>
            rw [hbl] at hfs
            exact bad r _ hfs.symm rfl ((k2.trans k3).trans k4)
        · rw [if_neg hk4] at hfs
          refine Wc_cond false (congrArg Value.bool (beq_eq_false_iff_ne.2 hk4)) (fun e => by cases e) (fun _ => ?_)
          refine Wc_ops (Wo_pre 3 (fun call => by simp only [go_sem, seval, g0, e32]; rfl) ?_)
          refine Wo_call ((expr_ok F.j g hfl hlen hkl hfn l.length m1 hm1 hj3 sc3 hm1).mono ?_)
          rintro o h4 ⟨k4, rfl⟩
          cases hbl : exprE l J sc' l.length m1 with
          | none =>
            rw [hbl] at hfs
            exact Wo_nil ⟨rfl, k3.trans k4, (by simp only [go_sem, seval, e32] <;> first | rfl | assumption | (symm; assumption)), hfs⟩
          | some r =>
            rw [hbl] at hfs
            exact bad r _ hfs.symm rfl ((k2.trans k3).trans k4)
      · rintro e3 h3 d ⟨rfl, k3, e32, hfs⟩ hfr3 hii
        rw [List.drop_length] at hfs
        have hfs : y.kids.findSome? (kidE l J (blockE l J f) sc' (y.kind == 8)) = none := hfs.symm
        rw [hfs] at hst
        exact ⟨rfl, k2.trans k3, sc', v', (by simp only [go_sem, seval, e32] <;> first | rfl | assumption | (symm; assumption)), sc2.keep k3, by rw [hjs]; exact hst⟩
    · rintro e h' d ⟨rfl, hk', sc', v', e2, hsc', hst⟩ hfr hi
      rw [List.drop_length, stmtsE] at hst
      have hres : blockE l J (f + 1) n sc lp = none := by rw [hB]; exact hst.symm
      exact ⟨rfl, [], rfl, hk', by rw [hres]; rfl⟩
end Go.Idl
end

section
namespace Go.Idl
variable {T : Tbl}
structure KeptC (h h' : Heap) : Prop where
  next : h.next ≤ h'.next
  get : ∀ b cs o z, b < h.next → h.get b = some (.cells cs o z) → h'.get b = some (.cells cs o z)
theorem KeptC.setMap {h : Heap} {m : Nat} {L M : List ByteArray} (hm : h.get m = some (nmap L)) : KeptC h (h.set m (nmap M)) := ⟨Nat.le_refl _, fun b cs o z hb hg => by
  rw [set_get_ne' _ _ (fun e => by subst e; rw [hm] at hg; cases hg)]; exact hg⟩
theorem intsAt.keepC {h h' : Heap} (k : KeptC h h') {v : Value} {l : List Int} (hv : intsAt h v l) : intsAt h' v l := by
  rcases hv with hv | ⟨b, c, h1, h2, h3⟩
  · exact .inl hv
  · exact .inr ⟨b, c, h1, Nat.lt_of_lt_of_le h2 k.next, h3.imp id fun ⟨o, z, hg⟩ => ⟨o, z, k.get _ _ _ _ h2 hg⟩⟩
theorem nodesAt.keepC {h h' : Heap} (k : KeptC h h') {v : Value} {l : List Nd} (hv : nodesAt h v l) : nodesAt h' v l := by
  refine ⟨?_, fun x hx => (hv.2 x hx).keepC k⟩
  rcases hv.1 with hv | ⟨b, c, h1, h2, h3⟩
  · exact .inl hv
  · exact .inr ⟨b, c, h1, Nat.lt_of_lt_of_le h2 k.next, h3.imp id fun ⟨o, z, hg⟩ => ⟨o, z, k.get _ _ _ _ h2 hg⟩⟩
theorem ownL.keepC {α : Type} {f : α → List Value} {w n0 : Nat} {h h' : Heap} {v : Value} {l : List α} (o : ownL f w n0 h v l) (k : KeptC h h') : ownL f w n0 h' v l := by
  rcases o with o | ⟨b, e1, e2, e3, e4⟩
  · exact .inl o
  · exact .inr ⟨b, e1, Nat.lt_of_lt_of_le e2 k.next, e3, k.get _ _ _ _ e2 e4⟩
theorem ownI.keepC {n0 : Nat} {h h' : Heap} {v : Value} {l : List Int} (o : ownI n0 h v l) (k : KeptC h h') : ownI n0 h' v l := by
  rcases o with o | ⟨b, e1, e2, e3, e4⟩
  · exact .inl o
  · exact .inr ⟨b, e1, Nat.lt_of_lt_of_le e2 k.next, e3, k.get _ _ _ _ e2 e4⟩
theorem strsAt.keepC {h h' : Heap} (k : KeptC h h') {v : Value} {l : List ByteArray} (hv : strsAt h v l) : strsAt h' v l := by
  refine ⟨?_, fun x hx => trivial⟩
  rcases hv.1 with hv | ⟨b, c, h1, h2, h3⟩
  · exact .inl hv
  · exact .inr ⟨b, c, h1, Nat.lt_of_lt_of_le h2 k.next, h3.imp id fun ⟨o, z, hg⟩ => ⟨o, z, k.get _ _ _ _ h2 hg⟩⟩
structure JFr (n0 jb : Nat) (h h' : Heap) : Prop where
  next : h.next ≤ h'.next
  old : ∀ b, b < h.next → b < n0 → h'.get b = h.get b
  one : ∀ b cs, b < h.next → h.get b = some (.cells cs true 1) → h'.get b = some (.cells cs true 1)
  zero : ∀ b cs, b < h.next → b ≠ jb → h.get b = some (.cells cs true 0) → h'.get b = some (.cells cs true 0)
theorem JFr.refl (n0 jb : Nat) (h : Heap) : JFr n0 jb h h := ⟨Nat.le_refl _, fun _ _ _ => rfl, fun _ _ _ hg => hg, fun _ _ _ _ hg => hg⟩
theorem JFr.trans {n0 jb : Nat} {a b c : Heap} (x : JFr n0 jb a b) (y : JFr n0 jb b c) : JFr n0 jb a c := ⟨Nat.le_trans x.next y.next, fun k hk hj => (y.old k (Nat.lt_of_lt_of_le hk x.next) hj).trans (x.old k hk hj), fun k cs hk hg => y.one k cs (Nat.lt_of_lt_of_le hk x.next) (x.one k cs hk hg), fun k cs hk hj hg => y.zero k cs (Nat.lt_of_lt_of_le hk x.next) hj (x.zero k cs hk hj hg)⟩
theorem Kept.jfr {a b : Heap} (x : Kept a b) (n0 jb : Nat) : JFr n0 jb a b := ⟨x.next, fun k hk _ => x.get k hk, fun k cs hk hg => by rw [x.get k hk]; exact hg, fun k cs hk _ hg => by rw [x.get k hk]; exact hg⟩
structure FnB (n0 : Nat) (h : Heap) (fb : Nat) (nm : ByteArray) (pr nd : Int) (vars : List ByteArray) : Prop where
  lt : fb < h.next
  lo : n0 ≤ fb
  rep : ∃ vv, h.get fb = some (.cells [.string nm, .int .i64 pr, vv, .int .i64 nd] true 0) ∧ ownL strC 1 n0 h vv vars
theorem FnB.add {h0 h h1 : Heap} {fb : Nat} {nm s : ByteArray} {pr nd : Int} {vars : List ByteArray} {vv : Value} (k : Kept h0 h) (lt : fb < h.next) (lo : h0.next ≤ fb) (hg : h.get fb = some (.cells [.string nm, .int .i64 pr, vv, .int .i64 nd] true 0)) (ho : ownL strC 1 h0.next h vv vars) (n1 : New1 h h1 (.cells [.string s] true 1)) (hl : vars.length < 1000000000) :
    ∃ v' h2, appendV 1 16 vv (.slice (some ⟨h.next, 0, none⟩) 1 1) h1 = some (v', h2) ∧ cellsOf v' = some [v'] ∧ h2.get fb = some (.cells [.string nm, .int .i64 pr, vv, .int .i64 nd] true 0) ∧
      Kept h0 (h2.set fb (.cells [.string nm, .int .i64 pr, v', .int .i64 nd] true 0)) ∧ FnB h0.next (h2.set fb (.cells [.string nm, .int .i64 pr, v', .int .i64 nd] true 0)) fb nm pr nd (vars ++ [s]) := by
  have ho1 := ho.kept n1.kept
  have hel : elemsOf h1 1 (.slice (some ⟨h.next, 0, none⟩) 1 1) = some ([s].length, [s].flatMap strC) := by
    simp only [elemsOf, Nat.one_ne_zero, if_false, Heap.cells, n1.get]; rfl
  have hn1 := n1.next
  have hkn := k.next
  obtain ⟨v', h2, ha, hb, ho2⟩ := ho1.append strC_len (bytes := 16) (by omega) hel (by simp only [List.length_singleton]; omega)
  have hg1 : h1.get fb = some (.cells [.string nm, .int .i64 pr, vv, .int .i64 nd] true 0) := by rw [n1.kept.get _ lt]; exact hg
  have hg2 : h2.get fb = some (.cells [.string nm, .int .i64 pr, vv, .int .i64 nd] true 0) := by rw [ho1.besideOf hb (by omega) hg1 (by decide)]; exact hg1
  have hn2 := hb.next
  refine ⟨v', h2, ha, ?_, hg2, ⟨by show h0.next ≤ h2.next; omega, fun b hb' => ?_⟩, ⟨by show fb < h2.next; omega, lo, v', set_get' _ _ _, ?_⟩⟩
  · obtain ⟨a, c, e⟩ := ho2.len
    rw [e]; rfl
  · rw [set_get_ne' _ _ (by omega), ho1.beside hb hb' (by omega), n1.kept.get _ (by omega), k.get _ hb']
  · rcases ho2 with e | ⟨b, e1, e2, e3, e4⟩
    · exact .inl e
    · refine .inr ⟨b, e1, e2, e3, ?_⟩
      rw [set_get_ne' _ _ (fun e => by subst e; rw [hg2] at e4; simp at e4)]
      exact e4
def letsL (l : List Nd) : Nat → Nat → List ByteArray
  | 0, _ => []
  | f + 1, n => match l[n]? with
    | none => []
    | some x => (if x.kind = 5 then [x.text] else []) ++ x.kids.flatMap fun k => letsL l f k.toNat
theorem lets_ok (hT : T.fn 45 = some C45) {jb : Nat} {l : List Nd} {J : JSt} (g : GoodT l) (hlen : l.length < 1000000) (hkl : ∀ x ∈ l, x.kids.length < 1000000) {h0 : Heap} (hj : Jud jb l J h0) {fb : Nat} {nm : ByteArray} {pr nd : Int} : ∀ (f n : Nat), n < f → ∀ {h : Heap} {vars : List ByteArray}, Kept h0 h → FnB h0.next h fb nm pr nd vars → n < l.length → vars.length + (letsL l f n).length < 100000000 →
    Wk T (.fn 45) [ptr jb 0, .int .i64 n, ptr fb 0] h (fun o h' => Kept h0 h' ∧ o = .ret (tup []) ∧ FnB h0.next h' fb nm pr nd (vars ++ letsL l f n)) := by
  intro f
  induction f with
  | zero => intro n hn; omega
  | succ f ih =>
    intro n hnf h vars k hf hn hfew
    obtain ⟨x, hx⟩ : ∃ x, l[n]? = some x := ⟨_, List.getElem?_eq_getElem hn⟩
    have hxm := List.mem_of_getElem? hx
    have hok := g.ok n x hx
    have hkn := hkl x hxm
    have hL : letsL l (f + 1) n = (if x.kind = 5 then [x.text] else []) ++ x.kids.flatMap fun k => letsL l f k.toNat := by rw [letsL, hx]
    rw [hL] at hfew ⊢
    have hj1 := hj.keep k
    obtain ⟨lv, sv, fv, mv, a, b, c, p⟩ := id hj1
    obtain ⟨q, cp, o, z, hvb, hgb, hcell⟩ := p.node hx
    obtain ⟨f0, f1, f2, f3⟩ := flatN_at hx
    refine Wk_fn2 hT (by simp [C45]) ?_
    simp only [C45]
    refine Wc_seq (Wc.mono (Q := fun ex s' => match ex with
      | .normal => s'.d = some [] ∧ Kept h0 s'.h ∧ FnB h0.next s'.h fb nm pr nd (vars ++ (if x.kind = 5 then [x.text] else [])) ∧ s'.e 0 = ptr jb 0 ∧ s'.e 1 = .int .i64 n ∧ s'.e 2 = ptr fb 0
      | _ => False) ?_ ?_)
    · refine Wc_seq (Wc_ops (Wo_run (fun call => by simp only [go_sem, seval, p.get, hvb, idx_ok hn, hgb, f0]; rfl) ?_))
      show Wc T _ _ _
      by_cases k5 : x.kind = 5
      · rw [if_pos k5]
        refine Wc_cond true (congrArg Value.bool (beq_iff_eq.2 k5)) (fun _ => ?_) (fun e => by cases e)
        obtain ⟨lt, lo, vv, hgf, ho⟩ := hf
        rw [List.length_append] at hfew
        refine Wc_draw_still (by decide) ?_
        refine (Wo_pre 13 (fun call => by simp only [go_sem, seval, hgf, p.get, hvb, idx_ok hn, hgb, f1]; rfl) ?_)
        refine Wo_new (v := .slice (some ⟨h.next, 0, none⟩) 1 1) (B := .cells [.string x.text] true 1) (by rfl) fun h1 n1 => ?_
        obtain ⟨v', h2, ha, hcv, hg2, hk2, hf2⟩ := FnB.add (s := x.text) k lt lo hgf ho n1 (by omega)
        refine Wo_op (v := v') (h' := h2) (by simp only [iop, ev, upd, dstUpd, reduceIte, Nat.reduceEqDiff]; exact ha) ?_
        refine (Wo_pre 2 (fun call => by simp only [go_sem, seval]; rfl) ?_)
        refine Wo_op (iop_store_at (k := 2) (v := v') (by first | rfl | assumption) (by simp only [ev, upd, dstUpd, reduceIte, Nat.reduceEqDiff]; exact hcv) hg2 (by simp)) (Wo_nil ⟨rfl, ?_⟩)
        exact ⟨rfl, hk2, hf2, (by first | rfl | assumption), (by first | rfl | assumption), (by first | rfl | assumption)⟩
      · rw [if_neg k5, List.append_nil]
        refine Wc_cond false (congrArg Value.bool (beq_eq_false_iff_ne.2 k5)) (fun e => by cases e) (fun _ => Wc_skip ?_)
        exact ⟨rfl, k, hf, (by first | rfl | assumption), (by first | rfl | assumption), (by first | rfl | assumption)⟩
    · intro ex s' hs
      cases ex with
      | brk i => exact hs.elim
      | ret => exact hs.elim
      | pan u => exact hs.elim
      | normal =>
        obtain ⟨e', h3, d'⟩ := s'
        obtain ⟨hd, k3, hf3, e0, e1, e2⟩ := hs
        simp only at hd k3 hf3 e0 e1 e2
        subst hd
        show Wc T _ _ _
        have hj3 := hj.keep k3
        obtain ⟨lv3, sv3, fv3, mv3, a3, b3, c3, p3⟩ := id hj3
        obtain ⟨q3, cp3, o3, z3, hvb3, hgb3, hcell3⟩ := p3.node hx
        obtain ⟨ka, kc, hkv⟩ := (p3.nodes.2 x hxm).len
        refine Wc_seq (Wc_ops (Wo_run (fun call => by simp only [go_sem, seval, e0, e1, p3.get, hvb3, idx_ok hn, hgb3, f2, hkv]; rfl) ?_))
        show Wc T _ _ _
        refine Wc_range x.kids.length (fun j e h' d => d = some [] ∧ Kept h0 h' ∧ FnB h0.next h' fb nm pr nd (vars ++ (if x.kind = 5 then [x.text] else []) ++ (x.kids.take j).flatMap fun k => letsL l f k.toNat)) (by decide) (by first | rfl | assumption) (by first | rfl | assumption) (by omega) (by decide) ⟨rfl, k3, by rw [List.take_zero, List.flatMap_nil, List.append_nil]; exact hf3⟩ ?_ ?_
        · rintro j e h' d hj' ⟨rfl, hk', hff⟩ hfr hi hn'
          obtain ⟨kk, hkj⟩ : ∃ k, x.kids[j]? = some k := ⟨_, List.getElem?_eq_getElem hj'⟩
          have p' := hj.keep hk'
          obtain ⟨lv4, sv4, fv4, mv4, a4, b4, c4, p4⟩ := id p'
          obtain ⟨kb, kcp, ko, kz, hkvb, hkg, hkc⟩ := kid_at (p4.nodes.2 x hxm) hkj
          have hkr := hok.kids kk (List.mem_of_getElem? hkj)
          obtain ⟨m, rfl⟩ : ∃ m : Nat, kk = m := ⟨kk.toNat, by omega⟩
          have htk : x.kids.take (j + 1) = x.kids.take j ++ [((m : Nat) : Int)] := by rw [List.take_add_one, hkj]; rfl
          have e41 : e 41 = x.kv := by rw [hkv]; exact ((hfr 41 (by decide)).trans (by first | rfl | assumption | (symm; assumption)))
          have e0' : e 0 = ptr jb 0 := (by rw [hfr 0 (by decide)]; try simp only [go_sem, seval, e0] <;> first | rfl | assumption | (symm; assumption))
          have e2' : e 2 = ptr fb 0 := (by rw [hfr 2 (by decide)]; try simp only [go_sem, seval, e2] <;> first | rfl | assumption | (symm; assumption))
          refine Wc_seq (Wc_ops (Wo_run (fun call => by simp only [go_sem, seval, hi, e41, hkvb, idx_ok hj', hkg, hkc]; rfl) ?_))
          show Wc T _ _ _
          refine Wc_ops (Wo_pre 3 (fun call => by simp only [go_sem, seval, e0', e2']; rfl) ?_)
          have hfm : (x.kids.flatMap fun k => letsL l f k.toNat) = ((x.kids.take j).flatMap fun k => letsL l f k.toNat) ++ (letsL l f m ++ ((x.kids.drop (j + 1)).flatMap fun k => letsL l f k.toNat)) := by
            conv => lhs; rw [← List.take_append_drop (j + 1) x.kids]
            rw [htk, List.flatMap_append, List.flatMap_append, List.flatMap_singleton, Int.toNat_natCast, List.append_assoc]
          rw [hfm] at hfew
          simp only [List.length_append] at hfew
          refine Wo_call ((ih m (by omega) hk' hff (by omega) (by simp only [List.length_append]; omega)).mono ?_)
          rintro o h'' ⟨k'', rfl, hf''⟩
          refine Wo_nil ⟨rfl, k'', ?_⟩
          rw [htk, List.flatMap_append, List.flatMap_singleton, Int.toNat_natCast, ← List.append_assoc]
          exact hf''
        · rintro e h' d ⟨rfl, hk', hff⟩ hfr hi
          rw [List.take_length] at hff
          exact ⟨rfl, [], rfl, hk', rfl, by rw [← List.append_assoc]; exact hff⟩
end Go.Idl
end

section
namespace Go.Idl
variable {T : Tbl}
def parsE (l : List Nd) : List Int → List ByteArray → Option CE × List ByteArray
  | [], sc => (none, sc)
  | k :: ks, sc => if hasN sc (textAt l k) then (some (posAt l k, 80), sc) else parsE l ks (textAt l k :: sc)
def bodyE (l : List Nd) (J : JSt) (vars pr : Nat) (x : Nd) : Option CE :=
  if vars ≤ 100 then match parsE l (x.kids.take pr) [] with
    | (some e, _) => some e
    | (none, sc) => blockE l J l.length (x.kids.getD pr 0).toNat sc false
  else some (x.pos, 2)
theorem body_ok' (F : BFns T) (hT : T.fn 28 = some C28) {jb : Nat} {l : List Nd} {J : JSt} (g : GoodT l) (hfl : J.fns.length = J.fn.length) (hlen : l.length < 1000000) (hkl : ∀ x ∈ l, x.kids.length < 1000000) (hfn : J.fn.length < 1000000) {r : Fnr} {x : Nd} (hx : l[r.node]? = some x) (hpr : r.params + 1 = x.kids.length) {h : Heap} (hj : Jud jb l J h) (hv : strsAt h r.vv r.vars) :
    Wk T (.fn 28) [ptr jb 0, .agg r.cells.toArray] h (fun o h' => Kept h h' ∧ o = outC (bodyE l J r.vars.length r.params x)) := by
  have hn := (List.getElem?_eq_some_iff.1 hx).1
  have hxm := List.mem_of_getElem? hx
  have hok := g.ok _ x hx
  have hkn := hkl x hxm
  obtain ⟨va, vc, hvv⟩ := hv.len
  refine Wk_fn2 hT (by simp [C28]) ?_
  simp only [C28]
  refine Wc_seq (Wc_ops (Wo_box (cs := [.string r.name, .int .i64 r.params, .slice va r.vars.length vc, .int .i64 r.node]) (by simp only [ev, args0, List.getD_cons_succ, List.getD_cons_zero, Fnr.cells, hvv, cellsOf]) fun h1 n1 => Wo_nil ?_))
  show Wc T _ _ _
  have hg3 := n1.get
  have k1 := n1.kept
  have hj1 := hj.keep k1
  have hb4 : (decide (((r.vars.length : Nat) : Int) ≤ 100)) = decide (r.vars.length ≤ 100) := by rw [decide_eq_decide]; omega
  refine Wc_seq (Wc_ops (Wo_pre 7 (fun call => by simp only [go_sem, seval, hg3]; rfl) ?_))
  refine Wo_must F.j hj1 hx (by first | rfl | assumption) (ok := decide (r.vars.length ≤ 100)) (by simp only [ev, upd, dstUpd, reduceIte, Nat.reduceEqDiff]; rw [hb4]) (by first | rfl | assumption) rfl (fun hy => Wo_nil ?_) (fun hy => ?_)
  case refine_2 =>
    have hres : bodyE l J r.vars.length r.params x = some (x.pos, 2) := by rw [bodyE, if_neg (of_decide_eq_false hy)]
    exact ⟨rfl, k1, by rw [hres]; rfl⟩
  have hy := of_decide_eq_true hy
  show Wc T _ _ _
  obtain ⟨lv, sv, fv, mv, a, b, c, p⟩ := id hj1
  obtain ⟨q, cp, o, z, hvb, hgb, hcell⟩ := p.node hx
  obtain ⟨f0, f1, f2, f3⟩ := flatN_at hx
  obtain ⟨k0, hk0⟩ : ∃ k, x.kids[0]? = some k := ⟨_, List.getElem?_eq_getElem (by omega)⟩
  obtain ⟨kb, kcp, ko, kz, hkvb, hkg, _⟩ := kid_at (p.nodes.2 x hxm) hk0
  obtain ⟨kcs, kpo, kzz, hkb, hkg', hkz⟩ := p.kz x hxm ⟨kb, 0, none⟩ _ _ hkvb
  rw [hkg] at hkg'
  simp only [Option.some.injEq, Blk.cells.injEq] at hkg'
  obtain ⟨rfl, rfl, rfl⟩ := hkg'
  refine Wc_seq (Wc_draw_still (by decide) ?_)
  refine (Wo_run (fun call => by simp only [go_sem, seval, hg3, p.get, hvb, idx_ok hn, hgb, f2, hkvb]; rfl) ?_)
  refine ⟨rfl, ?_⟩
  show Wc T _ _ _
  refine Wc_seq (Wc_ops (Wo_run (fun call => by simp only [go_sem, seval]; rfl) ?_))
  show Wc T _ _ _
  have hoks : okSz h1 kb 1 = true := by
    simp only [okSz, hkg]
    rcases hkz with rfl | rfl <;> rfl
  refine Wc_seq (Wc_seq (Wc_ops (Wo_pre 3 (fun call => by simp only [go_sem, seval, hg3]; rfl) ?_)))
  refine Wo_op (v := subSl 1 x.kids.length kcp 0 r.params none (some ⟨kb, 0, none⟩)) (h' := h1) ?_ ?_
  · simp only [iop, ev, upd, dstUpd, reduceIte, Nat.reduceEqDiff, bndO, Option.getD_none]
    rw [bnd_ok (Nat.zero_le _) (by omega)]
    simp only [okSzO, hoks, Option.isSome_none, Bool.false_and, Bool.not_true, Bool.or_self, Bool.false_eq_true, if_false]
  obtain ⟨kc2, hsub⟩ : ∃ c, subSl 1 x.kids.length kcp 0 r.params none (some ⟨kb, 0, none⟩) = .slice (some ⟨kb, 0, none⟩) r.params c := ⟨_, rfl⟩
  rw [hsub]
  refine (Wo_run (fun call => by simp only [go_sem, seval]; rfl) ?_)
  show Wc T _ _ _
  refine Wc.mono (Q := fun ex s' => match ex with
      | .normal => s'.d = some [] ∧ Kept h1 s'.h ∧ s'.e 0 = ptr jb 0 ∧ s'.e 3 = ptr h.next 0 ∧ s'.e 4 = x.kv ∧ ∃ sc, parsE l (x.kids.take r.params) [] = (none, sc) ∧ scopeAt s'.h (s'.e 5) sc
      | .pan u => ∃ e sc, u = wrongC e ∧ parsE l (x.kids.take r.params) [] = (some e, sc) ∧ s'.d = some [] ∧ Kept h1 s'.h
      | _ => False) ?_ ?_
  · refine Wc_range r.params (fun j e h' d => d = some [] ∧ Kept h1 h' ∧ ∃ sc, scopeAt h' (e 5) sc ∧ parsE l ((x.kids.take r.params).drop j) sc = parsE l (x.kids.take r.params) []) (by decide) (by first | rfl | assumption) (by first | rfl | assumption) (by omega) (by decide) ⟨rfl, .refl _, [], by simp only [upd, reduceIte, Nat.reduceEqDiff]; rfl, by rw [List.drop_zero]⟩ ?_ ?_
    · rintro j e h' d hj' ⟨rfl, hk', sc, hsc, hps⟩ hfr hi hn'
      obtain ⟨kk, hkj⟩ : ∃ k, x.kids[j]? = some k := ⟨_, List.getElem?_eq_getElem (by omega)⟩
      have hj2 := hj1.keep hk'
      have p' := p.keep hk'
      obtain ⟨kb', kcp', ko', kz', hkvb', hkg2, hkc⟩ := kid_at (p'.nodes.2 x hxm) hkj
      rw [hkvb] at hkvb'
      obtain ⟨rfl, rfl⟩ : kb = kb' ∧ kcp = kcp' := by simpa using hkvb'
      have hkr := hok.kids kk (List.mem_of_getElem? hkj)
      obtain ⟨m, rfl⟩ : ∃ m : Nat, kk = m := ⟨kk.toNat, by omega⟩
      have hml : m < l.length := by omega
      obtain ⟨y, hy'⟩ : ∃ y, l[m]? = some y := ⟨_, List.getElem?_eq_getElem hml⟩
      obtain ⟨q', cp', o', z', hvb', hgb', hcell'⟩ := p'.node hy'
      obtain ⟨y0, y1, y2, y3⟩ := flatN_at hy'
      have hdr : (x.kids.take r.params).drop j = ((m : Nat) : Int) :: (x.kids.take r.params).drop (j + 1) := by
        have ht : (x.kids.take r.params)[j]? = some ((m : Nat) : Int) := by rw [List.getElem?_take, if_pos hj']; exact hkj
        obtain ⟨hl, ht⟩ := List.getElem?_eq_some_iff.1 ht
        rw [List.drop_eq_getElem_cons hl, ht]
      rw [hdr, parsE, textAt_at hy', posAt_at hy'] at hps
      have e28 : e 28 = .slice (some ⟨kb, 0, none⟩) r.params kc2 := ((hfr 28 (by decide)).trans (by first | rfl | assumption | (symm; assumption)))
      have e0 : e 0 = ptr jb 0 := ((hfr 0 (by decide)).trans (by first | rfl | assumption | (symm; assumption)))
      obtain ⟨sa, hsa⟩ := scope_ptr hsc
      refine Wc_seq (Wc_ops (Wo_run (fun call => by simp only [go_sem, seval, hi, e28, idx_ok hj', hkg2, hkc]; rfl) ?_))
      show Wc T _ _ _
      refine Wc_seq (Wc_ops (Wo_pre 10 (fun call => by simp only [go_sem, seval, e0, p'.get, hvb', idx_ok hml, hgb', y1]; rfl) ?_))
      refine Wo_call (Wk_pure (has_ok F.j.has (s := y.text) hsc) ?_)
      refine (Wo_pre 2 (fun call => by simp only [go_sem, seval]; rfl) ?_)
      refine Wo_must F.j hj2 hy' (by simp only [go_sem, seval, e0] <;> first | rfl | assumption | (symm; assumption)) (ok := !hasN sc y.text) (by first | rfl | assumption) (by first | rfl | assumption) rfl (fun hy2 => Wo_nil ?_) (fun hy2 => ?_)
      · have hh : hasN sc y.text = false := by simpa using hy2
        rw [hh] at hps
        simp only [Bool.false_eq_true, if_false] at hps
        show Wc T _ _ _
        refine Wc_ops (Wo_pre 9 (fun call => by simp only [go_sem, seval, e0, hsa, p'.get, hvb', idx_ok hml, hgb', y1]; rfl) ?_)
        refine Wo_op (v := .agg #[.pointer sa, .string y.text]) (h' := h') (by rfl) ?_
        refine Wo_box (cs := [.pointer sa, .string y.text]) (by simp only [go_sem, seval, cellsOf] <;> first | rfl | assumption | (symm; assumption)) fun h4 n4 => ?_
        refine (Wo_run (fun call => by simp only [go_sem, seval]; rfl) ?_)
        exact ⟨rfl, hk'.trans n4.kept, y.text :: sc, ⟨h'.next, .pointer sa, (by first | rfl | assumption), by rw [n4.next]; exact Nat.lt_succ_self _, n4.get, by rw [← hsa]; exact hsc.keep n4.kept⟩, hps⟩
      · have hh : hasN sc y.text = true := by simpa using hy2
        rw [hh, if_pos rfl] at hps
        exact ⟨_, _, rfl, hps.symm, rfl, hk'⟩
    · rintro e h' d ⟨rfl, hk', sc, hsc, hps⟩ hfr hi
      rw [List.drop_of_length_le (by rw [List.length_take]; omega), parsE] at hps
      refine ⟨rfl, hk', ?_, ?_, ?_, sc, hps.symm, by simp only [upd, reduceIte, Nat.reduceEqDiff]; exact hsc⟩
      · simp only [upd, reduceIte, Nat.reduceEqDiff]; exact ((hfr 0 (by decide)).trans (by first | rfl | assumption | (symm; assumption)))
      · simp only [upd, reduceIte, Nat.reduceEqDiff]; exact ((hfr 3 (by decide)).trans (by first | rfl | assumption | (symm; assumption)))
      · simp only [upd, reduceIte, Nat.reduceEqDiff]; rw [hkvb]; exact ((hfr 4 (by decide)).trans (by first | rfl | assumption | (symm; assumption)))
  · intro ex s' hs
    cases ex with
    | brk i => exact hs.elim
    | ret => exact hs.elim
    | pan u =>
      obtain ⟨e, sc, rfl, hps, hd, hk'⟩ := hs
      have hres : bodyE l J r.vars.length r.params x = some e := by rw [bodyE, if_pos hy, hps]
      exact ⟨hd, k1.trans hk', by rw [hres]; rfl⟩
    | normal =>
      obtain ⟨e', h3, d'⟩ := s'
      obtain ⟨hd, hk', e0, e3, e4, sc, hps, hsc⟩ := hs
      simp only at hd hk' e0 e3 e4 hsc
      subst hd
      have hj3 := hj1.keep hk'
      have p3 := p.keep hk'
      have hg33 : h3.get h.next = some (.cells [.string r.name, .int .i64 r.params, .slice va r.vars.length vc, .int .i64 r.node] true 0) := by rw [hk'.get _ (by rw [n1.next]; omega)]; exact hg3
      obtain ⟨kk, hkj⟩ : ∃ k, x.kids[r.params]? = some k := ⟨_, List.getElem?_eq_getElem (by omega)⟩
      obtain ⟨kb', kcp', ko', kz', hkvb', hkg2, hkc⟩ := kid_at (p3.nodes.2 x hxm) hkj
      have hkr := hok.kids kk (List.mem_of_getElem? hkj)
      obtain ⟨m, rfl⟩ : ∃ m : Nat, kk = m := ⟨kk.toNat, by omega⟩
      have hgd : x.kids.getD r.params 0 = ((m : Nat) : Int) := by rw [List.getD_eq_getElem?_getD, hkj]; rfl
      have hres : bodyE l J r.vars.length r.params x = blockE l J l.length m sc false := by rw [bodyE, if_pos hy, hps, hgd, Int.toNat_natCast]
      show Wc T _ _ _
      refine Wc_ops (Wo_pre 7 (fun call => by simp only [go_sem, seval, e0, e3, e4, hg33, hkvb', idx_ok (show r.params < x.kids.length by omega), hkg2, hkc]; rfl) ?_)
      refine Wo_call ((block_ok' F g hfl hlen hkl hfn l.length m (by omega) (sc := sc) (lp := false) hj3 hsc (by omega)).mono ?_)
      rintro o h4 ⟨k4, rfl⟩
      rw [hres]
      have k04 := (k1.trans hk').trans k4
      cases blockE l J l.length m sc false with
      | none => exact Wo_nil ⟨rfl, [], rfl, k04, rfl⟩
      | some e => exact ⟨rfl, k04, rfl⟩
end Go.Idl
end

section
namespace Go.Idl
variable {T : Tbl}
theorem ownL.esz {α : Type} {f : α → List Value} {w n0 : Nat} {h h' : Heap} {v : Value} {l : List α} (o : ownL f w n0 h v l) (hn : h.next ≤ h'.next) (hg : ∀ b cs, b < h.next → h.get b = some (.cells cs true w) → h'.get b = some (.cells cs true w)) : ownL f w n0 h' v l := by
  rcases o with o | ⟨b, e1, e2, e3, e4⟩
  · exact .inl o
  · exact .inr ⟨b, e1, Nat.lt_of_lt_of_le e2 hn, e3, hg _ _ e2 e4⟩
theorem ownI.esz {n0 : Nat} {h h' : Heap} {v : Value} {l : List Int} (o : ownI n0 h v l) (hn : h.next ≤ h'.next) (hg : ∀ b cs, b < h.next → h.get b = some (.cells cs true 1) → h'.get b = some (.cells cs true 1)) : ownI n0 h' v l := by
  rcases o with o | ⟨b, e1, e2, e3, e4⟩
  · exact .inl o
  · exact .inr ⟨b, e1, Nat.lt_of_lt_of_le e2 hn, e3, hg _ _ e2 e4⟩
theorem base_low {n0 : Nat} {h h' : Heap} {v : Value} {l : List Nd} (p : ∃ h0, h0.next ≤ n0 ∧ nodesAt h0 v l ∧ (∀ x ∈ l, kzAt h0 x.kv) ∧ Kept h0 h) (hn : h.next ≤ h'.next) (hg : ∀ b, b < h.next → b < n0 → h'.get b = h.get b) : ∃ h0, h0.next ≤ n0 ∧ nodesAt h0 v l ∧ (∀ x ∈ l, kzAt h0 x.kv) ∧ Kept h0 h' := by
  obtain ⟨h0, h1, h2, h3, h4⟩ := p
  have := h4.next
  exact ⟨h0, h1, h2, h3, Nat.le_trans h4.next hn, fun b hb => by rw [hg b (by omega) (by omega), h4.get b hb]⟩
section
variable {jb : Nat} {l : List Nd} {J : JSt} {h h1 : Heap} {v sv fv mv : Value} {a b c : Nat}
theorem setMap_get {m x : Nat} {L M : List ByteArray} {bk : Blk} (hm : h.get m = some (nmap L)) (hx : h.get x = some bk) (hne : x ≠ m) : (h.set m (nmap M)).get x = some bk := by rw [set_get_ne' _ _ hne]; exact hx
theorem JRep.setc (p : JRep jb l J h v sv fv mv a b c) (L : List ByteArray) : JRep jb l { J with fn := L } (h.set c (nmap L)) v sv fv mv a b c := by
  have kc := KeptC.setMap (M := L) p.gc
  have ho : ∀ w x cs, x < h.next → h.get x = some (.cells cs true w) → (h.set c (nmap L)).get x = some (.cells cs true w) := fun w x cs hx hg => kc.get _ _ _ _ hx hg
  exact ⟨p.lt, kc.get _ _ _ _ p.lt p.get, base_low p.base (Nat.le_refl _) (fun x _ (hx : x < J.n0) => set_get_ne' _ _ (by have := p.ge; omega)), setMap_get p.gc p.ga p.ne.2.1, setMap_get p.gc p.gb p.ne.2.2, set_get' _ _ _, p.la, p.lb, p.lc,
    p.srt.esz (Nat.le_refl _) (ho 2), p.fns.esz (Nat.le_refl _) (ho 4), p.mg.esz (Nat.le_refl _) (ho 1), fun x hx => (p.vars x hx).esz (Nat.le_refl _) (ho 1), fun x hx => (p.fields x hx).esz (Nat.le_refl _) (ho 1), p.ne, p.ge, p.mgn⟩
theorem JFr.setMap {n0 m : Nat} {L M : List ByteArray} (hm : h.get m = some (nmap L)) (hge : n0 ≤ m) : JFr n0 jb h (h.set m (nmap M)) :=
  ⟨Nat.le_refl _, fun x _ hx => set_get_ne' _ _ (by omega), fun x cs hx hg => (KeptC.setMap (M := M) hm).get _ _ _ _ hx hg, fun x cs hx _ hg => (KeptC.setMap (M := M) hm).get _ _ _ _ hx hg⟩
theorem JRep.addFn (p : JRep jb l J h v sv fv mv a b c) {r : Fnr} (n1 : New1 h h1 (.cells r.cells true 4)) (hv : ownL strC 1 J.n0 h r.vv r.vars) (hl : J.fns.length < 1000000) :
    ∃ fv' h2, appendV 4 56 fv (.slice (some ⟨h.next, 0, none⟩) 1 1) h1 = some (fv', h2) ∧ cellsOf fv' = some [fv'] ∧ h2.get jb = some (.cells [v, sv, fv, .int .i64 J.main, mv, .map (some a), .map (some b), .map (some c)] true 0) ∧
      JRep jb l { J with fns := J.fns ++ [r] } (h2.set jb (.cells [v, sv, fv', .int .i64 J.main, mv, .map (some a), .map (some b), .map (some c)] true 0)) v sv fv' mv a b c ∧
      JFr J.n0 jb h (h2.set jb (.cells [v, sv, fv', .int .i64 J.main, mv, .map (some a), .map (some b), .map (some c)] true 0)) := by
  have p1 := p.keep n1.kept
  have hn1 := n1.next
  have hlt := p.lt
  have hge := p.ge
  have hel : elemsOf h1 4 (.slice (some ⟨h.next, 0, none⟩) 1 1) = some ([r].length, [r].flatMap Fnr.cells) := by
    simp only [elemsOf, Nat.one_ne_zero, if_false, Heap.cells, n1.get]; rfl
  obtain ⟨fv', h2, ha, hb, ho2⟩ := p1.fns.append fnr_len (bytes := 56) (by omega) hel (by simp only [List.length_singleton]; omega)
  have hn2 := hb.next
  have oth : ∀ x bk, x < h1.next → (∀ cs, bk ≠ .cells cs true 4) → h1.get x = some bk → h2.get x = some bk := fun x bk hx hne hg => by
    rw [hb.get x hx ?_]; exact hg
    intro q n c' hv
    rcases p1.fns with ⟨_, e⟩ | ⟨k, e1, _, e3, e4⟩
    · rw [e] at hv; cases hv
    · rw [e3] at hv
      cases hv
      rintro rfl
      rw [hg] at e4
      exact hne _ (Option.some.inj e4)
  have hgj : h2.get jb = some (.cells [v, sv, fv, .int .i64 J.main, mv, .map (some a), .map (some b), .map (some c)] true 0) := oth _ _ (by omega) (fun cs e => by cases e) p1.get
  have low : ∀ x, x < h.next → x < J.n0 → (h2.set jb (.cells [v, sv, fv', .int .i64 J.main, mv, .map (some a), .map (some b), .map (some c)] true 0)).get x = h.get x := fun x hx hx0 => by
    rw [set_get_ne' _ _ (by omega), p1.fns.beside hb hx0 (by omega), n1.kept.get _ hx]
  have e1 : ∀ w x cs, w ≠ 4 → w ≠ 0 → x < h.next → h.get x = some (.cells cs true w) → (h2.set jb (.cells [v, sv, fv', .int .i64 J.main, mv, .map (some a), .map (some b), .map (some c)] true 0)).get x = some (.cells cs true w) := fun w x cs hw hw0 hx hg => by
    have hg2 := oth x (.cells cs true w) (by omega) (fun cs' e => hw (by cases e; rfl)) (by rw [n1.kept.get _ hx]; exact hg)
    rw [set_get_ne' _ _ (fun e => by subst e; rw [hgj] at hg2; simp at hg2; exact hw0 hg2.2.symm)]
    exact hg2
  have e0 : ∀ x cs, x < h.next → x ≠ jb → h.get x = some (.cells cs true 0) → (h2.set jb (.cells [v, sv, fv', .int .i64 J.main, mv, .map (some a), .map (some b), .map (some c)] true 0)).get x = some (.cells cs true 0) := fun x cs hx hxj hg => by
    rw [set_get_ne' _ _ hxj]
    exact oth x (.cells cs true 0) (by omega) (fun cs' e => by cases e) (by rw [n1.kept.get _ hx]; exact hg)
  have em : ∀ x L, x < h.next → h.get x = some (nmap L) → (h2.set jb (.cells [v, sv, fv', .int .i64 J.main, mv, .map (some a), .map (some b), .map (some c)] true 0)).get x = some (nmap L) := fun x L hx hg => by
    have hg2 := oth x (nmap L) (by omega) (fun cs e => by cases e) (by rw [n1.kept.get _ hx]; exact hg)
    rw [set_get_ne' _ _ (fun e => by subst e; rw [hgj] at hg2; cases hg2)]
    exact hg2
  have hnx : h.next ≤ h2.next := by omega
  refine ⟨fv', h2, ha, ?_, hgj, ⟨by show jb < h2.next; omega, set_get' _ _ _, base_low p.base hnx low, em _ _ p.la p.ga, em _ _ p.lb p.gb, em _ _ p.lc p.gc, Nat.lt_of_lt_of_le p.la hnx, Nat.lt_of_lt_of_le p.lb hnx, Nat.lt_of_lt_of_le p.lc hnx,
    p.srt.esz hnx (fun x cs => e1 2 x cs (by decide) (by decide)), ?_, p.mg.esz hnx (fun x cs => e1 1 x cs (by decide) (by decide)), fun x hx => ?_, fun x hx => (p.fields x hx).esz hnx (fun x cs => e1 1 x cs (by decide) (by decide)), p.ne, p.ge, p.mgn⟩, ⟨hnx, low, fun x cs => e1 1 x cs (by decide) (by decide), e0⟩⟩
  · obtain ⟨q, c', e⟩ := ho2.len
    rw [e]; rfl
  · rcases ho2 with e | ⟨x, q1, q2, q3, q4⟩
    · exact .inl e
    · refine .inr ⟨x, q1, q2, q3, ?_⟩
      rw [set_get_ne' _ _ (fun e => by subst e; rw [hgj] at q4; simp at q4)]
      exact q4
  · rcases List.mem_append.1 hx with hx | hx
    · exact (p.vars x hx).esz hnx (fun x cs => e1 1 x cs (by decide) (by decide))
    · rw [List.mem_singleton] at hx; subst hx
      exact hv.esz hnx (fun x cs => e1 1 x cs (by decide) (by decide))
theorem JRep.addSort (p : JRep jb l J h v sv fv mv a b c) {r : Srt} (n1 : New1 h h1 (.cells r.cells true 2)) (hv : ownL strC 1 J.n0 h r.fv r.fields) (hl : J.srt.length < 1000000) :
    ∃ sv' h2, appendV 2 40 sv (.slice (some ⟨h.next, 0, none⟩) 1 1) h1 = some (sv', h2) ∧ cellsOf sv' = some [sv'] ∧ h2.get jb = some (.cells [v, sv, fv, .int .i64 J.main, mv, .map (some a), .map (some b), .map (some c)] true 0) ∧
      JRep jb l { J with srt := J.srt ++ [r] } (h2.set jb (.cells [v, sv', fv, .int .i64 J.main, mv, .map (some a), .map (some b), .map (some c)] true 0)) v sv' fv mv a b c ∧
      JFr J.n0 jb h (h2.set jb (.cells [v, sv', fv, .int .i64 J.main, mv, .map (some a), .map (some b), .map (some c)] true 0)) := by
  have p1 := p.keep n1.kept
  have hn1 := n1.next
  have hlt := p.lt
  have hge := p.ge
  have hel : elemsOf h1 2 (.slice (some ⟨h.next, 0, none⟩) 1 1) = some ([r].length, [r].flatMap Srt.cells) := by
    simp only [elemsOf, Nat.one_ne_zero, if_false, Heap.cells, n1.get]; rfl
  obtain ⟨sv', h2, ha, hb, ho2⟩ := p1.srt.append srt_len (bytes := 40) (by omega) hel (by simp only [List.length_singleton]; omega)
  have hn2 := hb.next
  have oth : ∀ x bk, x < h1.next → (∀ cs, bk ≠ .cells cs true 2) → h1.get x = some bk → h2.get x = some bk := fun x bk hx hne hg => by
    rw [hb.get x hx ?_]; exact hg
    intro q n c' hv
    rcases p1.srt with ⟨_, e⟩ | ⟨k, e1, _, e3, e4⟩
    · rw [e] at hv; cases hv
    · rw [e3] at hv
      cases hv
      rintro rfl
      rw [hg] at e4
      exact hne _ (Option.some.inj e4)
  have hgj : h2.get jb = some (.cells [v, sv, fv, .int .i64 J.main, mv, .map (some a), .map (some b), .map (some c)] true 0) := oth _ _ (by omega) (fun cs e => by cases e) p1.get
  have low : ∀ x, x < h.next → x < J.n0 → (h2.set jb (.cells [v, sv', fv, .int .i64 J.main, mv, .map (some a), .map (some b), .map (some c)] true 0)).get x = h.get x := fun x hx hx0 => by
    rw [set_get_ne' _ _ (by omega), p1.srt.beside hb hx0 (by omega), n1.kept.get _ hx]
  have e1 : ∀ w x cs, w ≠ 2 → w ≠ 0 → x < h.next → h.get x = some (.cells cs true w) → (h2.set jb (.cells [v, sv', fv, .int .i64 J.main, mv, .map (some a), .map (some b), .map (some c)] true 0)).get x = some (.cells cs true w) := fun w x cs hw hw0 hx hg => by
    have hg2 := oth x (.cells cs true w) (by omega) (fun cs' e => hw (by cases e; rfl)) (by rw [n1.kept.get _ hx]; exact hg)
    rw [set_get_ne' _ _ (fun e => by subst e; rw [hgj] at hg2; simp at hg2; exact hw0 hg2.2.symm)]
    exact hg2
  have e0 : ∀ x cs, x < h.next → x ≠ jb → h.get x = some (.cells cs true 0) → (h2.set jb (.cells [v, sv', fv, .int .i64 J.main, mv, .map (some a), .map (some b), .map (some c)] true 0)).get x = some (.cells cs true 0) := fun x cs hx hxj hg => by
    rw [set_get_ne' _ _ hxj]
    exact oth x (.cells cs true 0) (by omega) (fun cs' e => by cases e) (by rw [n1.kept.get _ hx]; exact hg)
  have em : ∀ x L, x < h.next → h.get x = some (nmap L) → (h2.set jb (.cells [v, sv', fv, .int .i64 J.main, mv, .map (some a), .map (some b), .map (some c)] true 0)).get x = some (nmap L) := fun x L hx hg => by
    have hg2 := oth x (nmap L) (by omega) (fun cs e => by cases e) (by rw [n1.kept.get _ hx]; exact hg)
    rw [set_get_ne' _ _ (fun e => by subst e; rw [hgj] at hg2; cases hg2)]
    exact hg2
  have hnx : h.next ≤ h2.next := by omega
  refine ⟨sv', h2, ha, ?_, hgj, ⟨by show jb < h2.next; omega, set_get' _ _ _, base_low p.base hnx low, em _ _ p.la p.ga, em _ _ p.lb p.gb, em _ _ p.lc p.gc, Nat.lt_of_lt_of_le p.la hnx, Nat.lt_of_lt_of_le p.lb hnx, Nat.lt_of_lt_of_le p.lc hnx,
    ?_, p.fns.esz hnx (fun x cs => e1 4 x cs (by decide) (by decide)), p.mg.esz hnx (fun x cs => e1 1 x cs (by decide) (by decide)), fun x hx => (p.vars x hx).esz hnx (fun x cs => e1 1 x cs (by decide) (by decide)), fun x hx => ?_, p.ne, p.ge, p.mgn⟩, ⟨hnx, low, fun x cs => e1 1 x cs (by decide) (by decide), e0⟩⟩
  · obtain ⟨q, c', e⟩ := ho2.len
    rw [e]; rfl
  · rcases ho2 with e | ⟨x, q1, q2, q3, q4⟩
    · exact .inl e
    · refine .inr ⟨x, q1, q2, q3, ?_⟩
      rw [set_get_ne' _ _ (fun e => by subst e; rw [hgj] at q4; simp at q4)]
      exact q4
  · rcases List.mem_append.1 hx with hx | hx
    · exact (p.fields x hx).esz hnx (fun x cs => e1 1 x cs (by decide) (by decide))
    · rw [List.mem_singleton] at hx; subst hx
      exact hv.esz hnx (fun x cs => e1 1 x cs (by decide) (by decide))
end
end Go.Idl
end

section
namespace Go.Idl
variable {T : Tbl}
def faceV (l : List Nd) (x : Nd) (n : Nat) : List ByteArray := (x.kids.take (x.kids.length - 1)).map (textAt l) ++ letsL l l.length n
structure CFns (T : Tbl) : Prop where
  b : BFns T
  lets : T.fn 45 = some C45
  face : T.fn 27 = some C27
  record : T.fn 26 = some C26
  body : T.fn 28 = some C28
theorem face_ok (F : CFns T) {jb : Nat} {l : List Nd} {J : JSt} (g : GoodT l) (hlen : l.length < 1000000) (hkl : ∀ x ∈ l, x.kids.length < 1000000) (hfl : J.fns.length < 100000) (hfn : J.fn.length < 100000) {n : Nat} {x : Nd} (hx : l[n]? = some x) (h3k : 0 < x.kids.length) (hfew : (faceV l x n).length < 10000000) {h : Heap} (hj : Jud jb l J h) :
    Wk T (.fn 27) [ptr jb 0, .int .i64 n] h (fun o h' => JFr J.n0 jb h h' ∧ if numOf J.fn x.text = 0 then o = .ret (tup []) ∧ ∃ vv, Jud jb l { J with fn := J.fn ++ [x.text], fns := J.fns ++ [⟨x.text, x.kids.length - 1, vv, faceV l x n, n⟩] } h' else o = .pan (wrongC (x.pos, 80))) := by
  have hn := (List.getElem?_eq_some_iff.1 hx).1
  have hxm := List.mem_of_getElem? hx
  have hok := g.ok _ x hx
  have hkn := hkl x hxm
  obtain ⟨lv, sv, fv, mv, a, b, c, p⟩ := id hj
  obtain ⟨q, cp, o, z, hvb, hgb, hcell⟩ := p.node hx
  obtain ⟨k0, hk0⟩ : ∃ k, x.kids[0]? = some k := ⟨_, List.getElem?_eq_getElem h3k⟩
  obtain ⟨kb, kcp, ko, kz, hkvb, _, _⟩ := kid_at (p.nodes.2 x hxm) hk0
  refine Wk_fn2 F.face (by simp [C27]) ?_
  simp only [C27]
  refine Wc_seq (Wc_ops (Wo_pre 8 (fun call => by simp only [go_sem, seval, p.get, hvb, idx_ok hn, hcell]; rfl) ?_))
  refine Wo_store_new (cs := x.cells) (h := h) (by first | rfl | assumption) (by first | rfl | assumption) rfl rfl fun h2 n2 => Wo_nil ?_
  show Wc T _ _ _
  have k2 := n2.kept
  have p2 := p.keep k2
  have hj2 := hj.keep k2
  have hg4 := n2.get
  refine Wc_seq (Wc_draw_end 9 rfl (by decide) ?_)
  refine (Wo_pre 7 (fun call => by simp only [go_sem, seval, p2.get, hg4, Nd.cells]; rfl) ?_)
  refine Wo_call ((lay_ok F.b.j.lay (b := c) (l := J.fn) (s := x.text) p2.gc (by omega)).mono ?_)
  rintro o h3 ⟨hh3, rfl⟩
  by_cases hz : numOf J.fn x.text = 0
  case neg =>
    rw [if_neg hz] at hh3
    subst hh3
    refine (Wo_run (fun call => by simp only [go_sem, seval, decide_eq_false hz]; rfl) ?_)
    refine ⟨rfl, ?_⟩
    refine Wo_must F.b.j hj2 hx (by first | rfl | assumption) (ok := false) (by first | rfl | assumption) (by first | rfl | assumption) rfl (fun hy => by cases hy) (fun _ e => ?_)
    exact ⟨rfl, k2.jfr _ _, by rw [if_neg hz]⟩
  rw [if_pos hz] at hh3
  have p3 := p2.setc (J.fn ++ [x.text])
  have jf3 : JFr J.n0 jb h (h2.set c (nmap (J.fn ++ [x.text]))) := (k2.jfr _ _).trans (JFr.setMap p2.gc p2.ge.2.2.2)
  have hg43 : (h2.set c (nmap (J.fn ++ [x.text]))).get h.next = some (.cells x.cells true 0) := (KeptC.setMap (M := J.fn ++ [x.text]) p2.gc).get _ _ _ _ (by rw [n2.next]; omega) hg4
  have hlt4 : h.next < (h2.set c (nmap (J.fn ++ [x.text]))).next := by show h.next < h2.next; rw [n2.next]; omega
  rw [← hh3] at p3 jf3 hg43 hlt4
  clear hh3
  have hj3 : Jud jb l { J with fn := J.fn ++ [x.text] } h3 := ⟨_, _, _, _, _, _, _, p3⟩
  refine (Wo_run (fun call => by simp only [go_sem, seval, decide_eq_true hz]; rfl) ?_)
  refine ⟨rfl, ?_⟩
  refine Wo_must F.b.j hj3 hx (by first | rfl | assumption) (ok := true) (by first | rfl | assumption) (by first | rfl | assumption) rfl (fun _ => Wo_nil ?_) (fun hy => by cases hy)
  show Wc T _ _ _
  have hw : IntKind.i64.wrap (((x.kids.length : Nat) : Int) - 1) = ((x.kids.length - 1 : Nat) : Int) := by rw [wrap64] <;> omega
  refine Wc_seq (Wc_ops (Wo_pre 7 (fun call => by simp only [go_sem, seval, hg43, Nd.cells, hkvb, hw]; rfl) ?_))
  refine Wo_op (v := .agg #[.string x.text, .int .i64 ((x.kids.length - 1 : Nat) : Int), .slice none 0 0, .int .i64 n]) (h' := h3) (by rfl) ?_
  refine (Wo_pre 1 (fun call => by simp only [go_sem, seval]; rfl) ?_)
  refine Wo_store_new (cs := [.string x.text, .int .i64 ((x.kids.length - 1 : Nat) : Int), .slice none 0 0, .int .i64 n]) (h := h3) (by first | rfl | assumption) (by first | rfl | assumption) rfl rfl fun h4 n4 => Wo_nil ?_
  show Wc T _ _ _
  have hb4 : FnB h3.next h4 h3.next x.text ((x.kids.length - 1 : Nat) : Int) n [] := ⟨by rw [n4.next]; exact Nat.lt_succ_self _, Nat.le_refl _, .slice none 0 0, n4.get, .inl ⟨rfl, rfl⟩⟩
  have hg44 : h4.get h.next = some (.cells x.cells true 0) := by rw [n4.kept.get _ hlt4]; exact hg43
  obtain ⟨kcs, kpo, kzz, hkb, hkg', hkz⟩ := (p3.keep n4.kept).kz x hxm ⟨kb, 0, none⟩ _ _ hkvb
  have hoks : okSz h4 kb 1 = true := by
    simp only [okSz, hkg']
    rcases hkz with rfl | rfl <;> rfl
  refine Wc_seq (Wc_seq (Wc_ops (Wo_pre 4 (fun call => by simp only [go_sem, seval, hg44, Nd.cells, hkvb, n4.get]; rfl) ?_)))
  refine Wo_op (v := subSl 1 x.kids.length kcp 0 (x.kids.length - 1) none (some ⟨kb, 0, none⟩)) (h' := h4) ?_ ?_
  · simp only [iop, ev, upd, dstUpd, reduceIte, Nat.reduceEqDiff, bndO, Option.getD_none]
    rw [bnd_ok (Nat.zero_le _) (by omega)]
    simp only [okSzO, hoks, Option.isSome_none, Bool.false_and, Bool.not_true, Bool.or_self, Bool.false_eq_true, if_false]
  obtain ⟨kc2, hsub⟩ : ∃ c, subSl 1 x.kids.length kcp 0 (x.kids.length - 1) none (some ⟨kb, 0, none⟩) = .slice (some ⟨kb, 0, none⟩) (x.kids.length - 1) c := ⟨_, rfl⟩
  rw [hsub]
  refine (Wo_run (fun call => by simp only [go_sem, seval]; rfl) ?_)
  show Wc T _ _ _
  refine Wc.mono (Q := fun ex s' => match ex with
      | .normal => s'.d = some [] ∧ Kept h3 s'.h ∧ s'.e 0 = ptr jb 0 ∧ s'.e 1 = .int .i64 n ∧ s'.e 5 = ptr h3.next 0 ∧ FnB h3.next s'.h h3.next x.text ((x.kids.length - 1 : Nat) : Int) n ((x.kids.take (x.kids.length - 1)).map (textAt l))
      | _ => False) ?_ ?_
  · refine Wc_range (x.kids.length - 1) (fun j e h' d => d = some [] ∧ Kept h3 h' ∧ FnB h3.next h' h3.next x.text ((x.kids.length - 1 : Nat) : Int) n ((x.kids.take j).map (textAt l))) (by decide) (by first | rfl | assumption) (by first | rfl | assumption) (by omega) (by decide) ⟨rfl, n4.kept, hb4⟩ ?_ ?_
    · rintro j e h' d hj' ⟨rfl, hk', hf⟩ hfr hi hn'
      obtain ⟨kk, hkj⟩ : ∃ k, x.kids[j]? = some k := ⟨_, List.getElem?_eq_getElem (by omega)⟩
      have p' := p3.keep hk'
      obtain ⟨kb', kcp', ko', kz', hkvb', hkg2, hkc⟩ := kid_at (p'.nodes.2 x hxm) hkj
      rw [hkvb] at hkvb'
      obtain ⟨rfl, rfl⟩ : kb = kb' ∧ kcp = kcp' := by simpa using hkvb'
      have hkr := hok.kids kk (List.mem_of_getElem? hkj)
      obtain ⟨m, rfl⟩ : ∃ m : Nat, kk = m := ⟨kk.toNat, by omega⟩
      have hml : m < l.length := by omega
      obtain ⟨y, hy'⟩ : ∃ y, l[m]? = some y := ⟨_, List.getElem?_eq_getElem hml⟩
      obtain ⟨q', cp', o', z', hvb', hgb', hcell'⟩ := p'.node hy'
      obtain ⟨y0, y1, y2, y3⟩ := flatN_at hy'
      have htk : x.kids.take (j + 1) = x.kids.take j ++ [((m : Nat) : Int)] := by rw [List.take_add_one, hkj]; rfl
      have e37 : e 37 = .slice (some ⟨kb, 0, none⟩) (x.kids.length - 1) kc2 := ((hfr 37 (by decide)).trans (by first | rfl | assumption | (symm; assumption)))
      have e0 : e 0 = ptr jb 0 := ((hfr 0 (by decide)).trans (by first | rfl | assumption | (symm; assumption)))
      have e5 : e 5 = ptr h3.next 0 := ((hfr 5 (by decide)).trans (by first | rfl | assumption | (symm; assumption)))
      obtain ⟨lt, lo, vv, hgf, ho⟩ := hf
      refine Wc_seq (Wc_ops (Wo_run (fun call => by simp only [go_sem, seval, hi, e37, idx_ok hj', hkg2, hkc]; rfl) ?_))
      show Wc T _ _ _
      refine Wc_draw_still (by decide) ?_
      refine (Wo_pre 10 (fun call => by simp only [go_sem, seval, e5, hgf, e0, p'.get, hvb', idx_ok hml, hgb', y1]; rfl) ?_)
      refine Wo_new (v := .slice (some ⟨h'.next, 0, none⟩) 1 1) (B := .cells [.string y.text] true 1) (by rfl) fun h5 n5 => ?_
      obtain ⟨v', h6, ha, hcv, hg2, hk2, hf2⟩ := FnB.add (s := y.text) hk' lt lo hgf ho n5 (by simp only [List.length_map, List.length_take]; omega)
      refine Wo_op (v := v') (h' := h6) (by simp only [iop, ev, upd, dstUpd, reduceIte, Nat.reduceEqDiff]; exact ha) ?_
      refine (Wo_pre 1 (fun call => by simp only [go_sem, seval, e5]; rfl) ?_)
      refine Wo_op (iop_store_at (k := 2) (v := v') (by first | rfl | assumption) (by simp only [ev, upd, dstUpd, reduceIte, Nat.reduceEqDiff]; exact hcv) hg2 (by simp)) (Wo_nil ⟨rfl, ?_⟩)
      exact ⟨rfl, hk2, by rw [htk, List.map_append, List.map_singleton, textAt_at hy']; exact hf2⟩
    · rintro e h' d ⟨rfl, hk', hf⟩ hfr hi
      refine ⟨rfl, hk', ?_, ?_, ?_, hf⟩
      · simp only [upd, reduceIte, Nat.reduceEqDiff]; exact ((hfr 0 (by decide)).trans (by first | rfl | assumption | (symm; assumption)))
      · simp only [upd, reduceIte, Nat.reduceEqDiff]; exact ((hfr 1 (by decide)).trans (by first | rfl | assumption | (symm; assumption)))
      · simp only [upd, reduceIte, Nat.reduceEqDiff]; exact ((hfr 5 (by decide)).trans (by first | rfl | assumption | (symm; assumption)))
  · intro ex s' hs
    cases ex with
    | brk i => exact hs.elim
    | ret => exact hs.elim
    | pan u => exact hs.elim
    | normal =>
      obtain ⟨e', h5, d'⟩ := s'
      obtain ⟨hd, hk5, e0, e1, e5, hf5⟩ := hs
      simp only at hd hk5 e0 e1 e5 hf5
      subst hd
      show Wc T _ _ _
      refine Wc_seq (Wc_ops (Wo_pre 2 (fun call => by simp only [go_sem, seval, e0, e1]; rfl) ?_))
      rw [faceV, List.length_append] at hfew
      refine Wo_call ?_
      simp only [List.map_cons, List.map_nil, ev, upd, dstUpd, reduceIte, Nat.reduceEqDiff, e0, e1, e5]
      refine (lets_ok F.lets g hlen hkl hj3 l.length n hn hk5 hf5 hn (by omega)).mono ?_
      rintro o h6 ⟨k6, rfl, hf6⟩
      show Wo T _ _ _
      refine Wo_nil ?_
      show Wc T _ _ _
      obtain ⟨lt, lo, vv, hgf, ho⟩ := hf6
      have p6 := p3.keep k6
      have jf6 := jf3.trans (k6.jfr J.n0 jb)
      have hn3 : J.n0 ≤ h3.next := by have := p3.ge; have := p3.lt; simp only at *; omega
      have ho6 : ownL strC 1 J.n0 h6 vv (faceV l x n) := ho.mono hn3
      refine Wc_draw_still (by decide) ?_
      have hcc : h6.cells h3.next 0 4 = some [.string x.text, .int .i64 ((x.kids.length - 1 : Nat) : Int), vv, .int .i64 n] := cells_all hgf rfl
      refine (Wo_pre 7 (fun call => by simp only [go_sem, seval, e0, e5, p6.get, hcc]; rfl) ?_)
      refine Wo_new (v := .slice (some ⟨h6.next, 0, none⟩) 1 1) (B := .cells (Fnr.cells ⟨x.text, x.kids.length - 1, vv, faceV l x n, n⟩) true 4) (by rfl) fun h7 n7 => ?_
      obtain ⟨fv', h8, ha, hcv, hg8, p8, jf8⟩ := p6.addFn (r := ⟨x.text, x.kids.length - 1, vv, faceV l x n, n⟩) n7 ho6 (by simp only; omega)
      refine Wo_op (v := fv') (h' := h8) (by simp only [iop, ev, upd, dstUpd, reduceIte, Nat.reduceEqDiff]; exact ha) ?_
      refine (Wo_pre 3 (fun call => by simp only [go_sem, seval]; rfl) ?_)
      refine Wo_op (iop_store_at (k := 2) (v := fv') (by first | rfl | assumption) (by simp only [ev, upd, dstUpd, reduceIte, Nat.reduceEqDiff]; exact hcv) hg8 (by simp)) (Wo_nil ⟨rfl, ?_⟩)
      exact ⟨rfl, [], rfl, jf6.trans jf8, by rw [if_pos hz]; exact ⟨rfl, vv, _, _, _, _, _, _, _, p8⟩⟩
end Go.Idl
end

section
namespace Go.Idl
variable {T : Tbl}
def fieldsE (l : List Nd) : List Int → List ByteArray → Option CE × List ByteArray
  | [], fl => (none, fl)
  | k :: ks, fl => if numOf fl (textAt l k) = 0 then fieldsE l ks (fl ++ [textAt l k]) else (some (posAt l k, 80), fl)
structure KM (a b c : Nat) (h h' : Heap) : Prop where
  next : h.next ≤ h'.next
  get : ∀ x, x < h.next → x ≠ a → x ≠ b → x ≠ c → h'.get x = h.get x
theorem KM.refl (a b c : Nat) (h : Heap) : KM a b c h h := ⟨Nat.le_refl _, fun _ _ _ _ _ => rfl⟩
theorem KM.kept {a b c : Nat} {h h1 h2 : Heap} (x : KM a b c h h1) (k : Kept h1 h2) : KM a b c h h2 := ⟨Nat.le_trans x.next k.next, fun y hy h1 h2 h3 => by rw [k.get _ (Nat.lt_of_lt_of_le hy x.next), x.get y hy h1 h2 h3]⟩
section
variable {jb : Nat} {l : List Nd} {J : JSt} {h h' : Heap} {v sv fv mv : Value} {a b c : Nat}
theorem JRep.ncell (p : JRep jb l J h v sv fv mv a b c) {x : Nat} {cs : List Value} {o : Bool} {z : Nat} (hg : h.get x = some (.cells cs o z)) : x ≠ a ∧ x ≠ b ∧ x ≠ c :=
  ⟨fun e => (by subst e; rw [p.ga] at hg; cases hg), fun e => (by subst e; rw [p.gb] at hg; cases hg), fun e => (by subst e; rw [p.gc] at hg; cases hg)⟩
theorem JRep.maps (p : JRep jb l J h v sv fv mv a b c) (k : KM a b c h h') {L1 L2 L3 : List ByteArray} (g1 : h'.get a = some (nmap L1)) (g2 : h'.get b = some (nmap L2)) (g3 : h'.get c = some (nmap L3)) : JRep jb l { J with sn := L1, fl := L2, fn := L3 } h' v sv fv mv a b c := by
  have ho : ∀ w x cs, x < h.next → h.get x = some (.cells cs true w) → h'.get x = some (.cells cs true w) := fun w x cs hx hg => by
    obtain ⟨q1, q2, q3⟩ := p.ncell hg
    rw [k.get x hx q1 q2 q3]; exact hg
  exact ⟨Nat.lt_of_lt_of_le p.lt k.next, ho _ _ _ p.lt p.get, base_low p.base k.next (fun x hx (hx0 : x < J.n0) => k.get x hx (by have := p.ge; omega) (by have := p.ge; omega) (by have := p.ge; omega)), g1, g2, g3, Nat.lt_of_lt_of_le p.la k.next, Nat.lt_of_lt_of_le p.lb k.next, Nat.lt_of_lt_of_le p.lc k.next,
    p.srt.esz k.next (ho 2), p.fns.esz k.next (ho 4), p.mg.esz k.next (ho 1), fun x hx => (p.vars x hx).esz k.next (ho 1), fun x hx => (p.fields x hx).esz k.next (ho 1), p.ne, p.ge, p.mgn⟩
theorem JRep.jfr (p : JRep jb l J h v sv fv mv a b c) (k : KM a b c h h') : JFr J.n0 jb h h' := by
  refine ⟨k.next, fun x hx hx0 => k.get x hx (by have := p.ge; omega) (by have := p.ge; omega) (by have := p.ge; omega), fun x cs hx hg => ?_, fun x cs hx _ hg => ?_⟩
  · obtain ⟨q1, q2, q3⟩ := p.ncell hg
    rw [k.get x hx q1 q2 q3]; exact hg
  · obtain ⟨q1, q2, q3⟩ := p.ncell hg
    rw [k.get x hx q1 q2 q3]; exact hg
end
theorem record_ok (F : CFns T) {jb : Nat} {l : List Nd} {J : JSt} (g : GoodT l) (hlen : l.length < 1000000) (hkl : ∀ x ∈ l, x.kids.length < 1000000) (hfl : J.srt.length < 100000) (hsn : J.sn.length < 100000) (hff : J.fl.length < 1000000) {n : Nat} {x : Nd} (hx : l[n]? = some x) {h : Heap} (hj : Jud jb l J h) :
    Wk T (.fn 26) [ptr jb 0, .int .i64 n] h (fun o h' => JFr J.n0 jb h h' ∧ if numOf J.sn x.text = 0 then (if x.kids.length ≤ 100 then match fieldsE l x.kids J.fl with
      | (some e, _) => o = .pan (wrongC e)
      | (none, fl) => o = .ret (tup []) ∧ ∃ vv, Jud jb l { J with sn := J.sn ++ [x.text], fl := fl, srt := J.srt ++ [⟨x.text, vv, x.kids.map (textAt l)⟩] } h'
      else o = .pan (wrongC (x.pos, 2))) else o = .pan (wrongC (x.pos, 80))) := by
  have hn := (List.getElem?_eq_some_iff.1 hx).1
  have hxm := List.mem_of_getElem? hx
  have hok := g.ok _ x hx
  have hkn := hkl x hxm
  obtain ⟨lv, sv, fv, mv, a, b, c, p⟩ := id hj
  obtain ⟨q, cp, o, z, hvb, hgb, hcell⟩ := p.node hx
  obtain ⟨ka, kac, hkv⟩ := (p.nodes.2 x hxm).len
  refine Wk_fn2 F.record (by simp [C26]) ?_
  simp only [C26]
  refine Wc_seq (Wc_ops (Wo_pre 8 (fun call => by simp only [go_sem, seval, p.get, hvb, idx_ok hn, hcell]; rfl) ?_))
  refine Wo_store_new (cs := x.cells) (h := h) (by first | rfl | assumption) (by first | rfl | assumption) rfl rfl fun h2 n2 => Wo_nil ?_
  show Wc T _ _ _
  have k2 := n2.kept
  have p2 := p.keep k2
  have hj2 := hj.keep k2
  have hg4 := n2.get
  refine Wc_seq (Wc_draw_end 9 rfl (by decide) ?_)
  refine (Wo_pre 7 (fun call => by simp only [go_sem, seval, p2.get, hg4, Nd.cells]; rfl) ?_)
  refine Wo_call ((lay_ok F.b.j.lay (b := a) (l := J.sn) (s := x.text) p2.ga (by omega)).mono ?_)
  rintro o h3 ⟨hh3, rfl⟩
  by_cases hz : numOf J.sn x.text = 0
  case neg =>
    rw [if_neg hz] at hh3
    subst hh3
    refine (Wo_run (fun call => by simp only [go_sem, seval, decide_eq_false hz]; rfl) ?_)
    refine ⟨rfl, ?_⟩
    refine Wo_must F.b.j hj2 hx (by first | rfl | assumption) (ok := false) (by first | rfl | assumption) (by first | rfl | assumption) rfl (fun hy => by cases hy) (fun _ e => ?_)
    exact ⟨rfl, k2.jfr _ _, by rw [if_neg hz]⟩
  rw [if_pos hz] at hh3
  have km3 : KM a b c h2 h3 := ⟨by rw [hh3]; exact Nat.le_refl _, fun y hy h1 h2' h3' => by rw [hh3, set_get_ne' _ _ h1]⟩
  have ga3 : h3.get a = some (nmap (J.sn ++ [x.text])) := by rw [hh3]; exact set_get' _ _ _
  have gb3 : h3.get b = some (nmap J.fl) := by rw [hh3]; exact setMap_get p2.ga p2.gb p2.ne.1.symm
  have gc3 : h3.get c = some (nmap J.fn) := by rw [hh3]; exact setMap_get p2.ga p2.gc p2.ne.2.1.symm
  have p3 := p2.maps km3 ga3 gb3 gc3
  have hj3 : Jud jb l { J with sn := J.sn ++ [x.text], fl := J.fl, fn := J.fn } h3 := ⟨_, _, _, _, _, _, _, p3⟩
  have jfr : ∀ h', KM a b c h2 h' → JFr J.n0 jb h h' := fun h' k => (k2.jfr _ _).trans (p2.jfr k)
  have old4 : ∀ h', KM a b c h2 h' → h'.get h.next = some (.cells x.cells true 0) := fun h' k => by
    obtain ⟨q1, q2, q3⟩ := p2.ncell hg4
    rw [k.get _ (by rw [n2.next]; omega) q1 q2 q3]; exact hg4
  refine (Wo_run (fun call => by simp only [go_sem, seval, decide_eq_true hz]; rfl) ?_)
  refine ⟨rfl, ?_⟩
  refine Wo_must F.b.j hj3 hx (by first | rfl | assumption) (ok := true) (by first | rfl | assumption) (by first | rfl | assumption) rfl (fun _ => Wo_nil ?_) (fun hy => by cases hy)
  show Wc T _ _ _
  have hb4 : (decide (((x.kids.length : Nat) : Int) ≤ 100)) = decide (x.kids.length ≤ 100) := by rw [decide_eq_decide]; omega
  refine Wc_seq (Wc_ops (Wo_pre 6 (fun call => by simp only [go_sem, seval, old4 _ km3, Nd.cells, hkv]; rfl) ?_))
  refine Wo_must F.b.j hj3 hx (by first | rfl | assumption) (ok := decide (x.kids.length ≤ 100)) (by simp only [ev, upd, dstUpd, reduceIte, Nat.reduceEqDiff]; rw [hb4]) (by first | rfl | assumption) rfl (fun hy => Wo_nil ?_) (fun hy => ?_)
  case refine_2 => exact ⟨rfl, jfr _ km3, by rw [if_pos hz, if_neg (of_decide_eq_false hy)]⟩
  have hy := of_decide_eq_true hy
  show Wc T _ _ _
  refine Wc_seq (Wc_ops (Wo_pre 2 (fun call => by simp only [go_sem, seval, old4 _ km3, Nd.cells]; rfl) ?_))
  refine Wo_op (v := .agg #[.string x.text, .slice none 0 0]) (h' := h3) (by rfl) ?_
  refine (Wo_pre 1 (fun call => by simp only [go_sem, seval]; rfl) ?_)
  refine Wo_store_new (cs := [.string x.text, .slice none 0 0]) (h := h3) (by first | rfl | assumption) (by first | rfl | assumption) rfl rfl fun h4 n4 => Wo_nil ?_
  show Wc T _ _ _
  have km4 := km3.kept n4.kept
  refine Wc_seq (Wc_seq (Wc_ops (Wo_run (fun call => by simp only [go_sem, seval, old4 _ km4, Nd.cells, hkv]; rfl) ?_)))
  show Wc T _ _ _
  have hla := p3.la
  have hlb := p3.lb
  have hlc := p3.lc
  have hn4 := n4.next
  have hk3n := km3.next
  have hJ0 : J.n0 ≤ h3.next := by have := p3.ge; have := p3.lt; simp only at *; omega
  refine Wc.mono (Q := fun ex s' => match ex with
      | .normal => s'.d = some [] ∧ KM a b c h2 s'.h ∧ s'.e 0 = ptr jb 0 ∧ s'.e 5 = ptr h3.next 0 ∧ ∃ fl, fieldsE l x.kids J.fl = (none, fl) ∧ s'.h.get a = some (nmap (J.sn ++ [x.text])) ∧ s'.h.get b = some (nmap fl) ∧ s'.h.get c = some (nmap J.fn) ∧ ∃ vv, h3.next < s'.h.next ∧ s'.h.get h3.next = some (.cells [.string x.text, vv] true 0) ∧ ownL strC 1 h3.next s'.h vv (x.kids.map (textAt l))
      | .pan u => ∃ e fl, u = wrongC e ∧ fieldsE l x.kids J.fl = (some e, fl) ∧ s'.d = some [] ∧ KM a b c h2 s'.h
      | _ => False) ?_ ?_
  · refine Wc_range x.kids.length (fun j e h' d => d = some [] ∧ KM a b c h2 h' ∧ ∃ fl, fl.length ≤ J.fl.length + j ∧ fieldsE l (x.kids.drop j) fl = fieldsE l x.kids J.fl ∧ h'.get a = some (nmap (J.sn ++ [x.text])) ∧ h'.get b = some (nmap fl) ∧ h'.get c = some (nmap J.fn) ∧ ∃ vv, h3.next < h'.next ∧ h'.get h3.next = some (.cells [.string x.text, vv] true 0) ∧ ownL strC 1 h3.next h' vv ((x.kids.take j).map (textAt l))) (by decide) (by first | rfl | assumption) (by first | rfl | assumption) (by omega) (by decide)
      ⟨rfl, km4, J.fl, by omega, by rw [List.drop_zero], by rw [n4.kept.get _ hla]; exact ga3, by rw [n4.kept.get _ hlb]; exact gb3, by rw [n4.kept.get _ hlc]; exact gc3, .slice none 0 0, (by show h3.next < h4.next; omega), n4.get, .inl ⟨rfl, rfl⟩⟩ ?_ ?_
    · rintro j e h' d hj' ⟨rfl, km, fl, hfl1, hfe, ga', gb', gc', vv, hlt', hgs, ho⟩ hfr hi hn'
      obtain ⟨kk, hkj⟩ : ∃ k, x.kids[j]? = some k := ⟨_, List.getElem?_eq_getElem hj'⟩
      have p' := p2.maps km ga' gb' gc'
      have hjj : Jud jb l { J with sn := J.sn ++ [x.text], fl := fl, fn := J.fn } h' := ⟨_, _, _, _, _, _, _, p'⟩
      obtain ⟨kb, kcp, ko, kz, hkvb, hkg, hkc⟩ := kid_at (p'.nodes.2 x hxm) hkj
      have hkr := hok.kids kk (List.mem_of_getElem? hkj)
      obtain ⟨m, rfl⟩ : ∃ m : Nat, kk = m := ⟨kk.toNat, by omega⟩
      have hml : m < l.length := by omega
      obtain ⟨y, hy'⟩ : ∃ y, l[m]? = some y := ⟨_, List.getElem?_eq_getElem hml⟩
      obtain ⟨q', cp', o', z', hvb', hgb', hcell'⟩ := p'.node hy'
      obtain ⟨y0, y1, y2, y3⟩ := flatN_at hy'
      have hdr : x.kids.drop j = ((m : Nat) : Int) :: x.kids.drop (j + 1) := by
        obtain ⟨hl, ht⟩ := List.getElem?_eq_some_iff.1 hkj
        rw [List.drop_eq_getElem_cons hl, ht]
      have htk : x.kids.take (j + 1) = x.kids.take j ++ [((m : Nat) : Int)] := by rw [List.take_add_one, hkj]; rfl
      rw [hdr, fieldsE, textAt_at hy', posAt_at hy'] at hfe
      have e36 : e 36 = x.kv := by rw [hkv]; exact ((hfr 36 (by decide)).trans (by first | rfl | assumption | (symm; assumption)))
      have e0 : e 0 = ptr jb 0 := ((hfr 0 (by decide)).trans (by first | rfl | assumption | (symm; assumption)))
      have e5 : e 5 = ptr h3.next 0 := ((hfr 5 (by decide)).trans (by first | rfl | assumption | (symm; assumption)))
      refine Wc_seq (Wc_ops (Wo_run (fun call => by simp only [go_sem, seval, hi, e36, hkvb, idx_ok hj', hkg, hkc]; rfl) ?_))
      show Wc T _ _ _
      refine Wc_seq (Wc_draw_end 15 rfl (by decide) ?_)
      refine (Wo_pre 13 (fun call => by simp only [go_sem, seval, e0, p'.get, hvb', idx_ok hml, hgb', y1]; rfl) ?_)
      refine Wo_call ((lay_ok F.b.j.lay (b := b) (l := fl) (s := y.text) gb' (by omega)).mono ?_)
      rintro o h5 ⟨hh5, rfl⟩
      by_cases hz2 : numOf fl y.text = 0
      case neg =>
        rw [if_neg hz2] at hh5 hfe
        subst hh5
        refine (Wo_run (fun call => by simp only [go_sem, seval, decide_eq_false hz2]; rfl) ?_)
        refine ⟨rfl, ?_⟩
        refine Wo_must F.b.j hjj hy' (by simp only [go_sem, seval, e0] <;> first | rfl | assumption | (symm; assumption)) (ok := false) (by first | rfl | assumption) (by first | rfl | assumption) rfl (fun hy => by cases hy) (fun _ e => ?_)
        exact ⟨_, _, rfl, hfe.symm, rfl, km⟩
      rw [if_pos hz2] at hh5 hfe
      have km5 : KM a b c h2 h5 := ⟨by rw [hh5]; exact km.next, fun w hw h1 h2' h3' => by rw [hh5, set_get_ne' _ _ h2']; exact km.get w hw h1 h2' h3'⟩
      have ga5 : h5.get a = some (nmap (J.sn ++ [x.text])) := by rw [hh5]; exact setMap_get gb' ga' p2.ne.1
      have gb5 : h5.get b = some (nmap (fl ++ [y.text])) := by rw [hh5]; exact set_get' _ _ _
      have gc5 : h5.get c = some (nmap J.fn) := by rw [hh5]; exact setMap_get gb' gc' p2.ne.2.2.symm
      have p5 := p2.maps km5 ga5 gb5 gc5
      have kc5 : KeptC h' h5 := by rw [hh5]; exact KeptC.setMap gb'
      have hn5 : h5.next = h'.next := by rw [hh5]; rfl
      have hgs5 := kc5.get _ _ _ _ hlt' hgs
      have ho5 := ho.keepC kc5
      refine (Wo_run (fun call => by simp only [go_sem, seval, decide_eq_true hz2]; rfl) ?_)
      refine ⟨rfl, ?_⟩
      refine Wo_must F.b.j ⟨_, _, _, _, _, _, _, p5⟩ hy' (by simp only [go_sem, seval, e0] <;> first | rfl | assumption | (symm; assumption)) (ok := true) (by first | rfl | assumption) (by first | rfl | assumption) rfl (fun _ => Wo_nil ?_) (fun hy => by cases hy)
      show Wc T _ _ _
      obtain ⟨q5, cp5, o5, z5, hvb5, hgb5, hcell5⟩ := p5.node hy'
      refine Wc_draw_still (by decide) ?_
      refine (Wo_pre 10 (fun call => by simp only [go_sem, seval, e5, hgs5, e0, p5.get, hvb5, idx_ok hml, hgb5, y1]; rfl) ?_)
      refine Wo_new (v := .slice (some ⟨h5.next, 0, none⟩) 1 1) (B := .cells [.string y.text] true 1) (by rfl) fun h6 n6 => ?_
      have hn6 := n6.next
      have hel : elemsOf h6 1 (.slice (some ⟨h5.next, 0, none⟩) 1 1) = some ([y.text].length, [y.text].flatMap strC) := by
        simp only [elemsOf, Nat.one_ne_zero, if_false, Heap.cells, n6.get]; rfl
      have ho6 := ho5.kept n6.kept
      obtain ⟨vv', h7, ha, hb, ho7⟩ := ho6.append strC_len (bytes := 16) (by omega) hel (by simp only [List.length_singleton, List.length_map, List.length_take]; omega)
      have hn7 := hb.next
      have hgs6 : h6.get h3.next = some (.cells [.string x.text, vv] true 0) := by rw [n6.kept.get _ (by omega)]; exact hgs5
      have hgs7 : h7.get h3.next = some (.cells [.string x.text, vv] true 0) := by rw [ho6.besideOf hb (by omega) hgs6 (by decide)]; exact hgs6
      have hcv : cellsOf vv' = some [vv'] := by
        obtain ⟨q, c', e⟩ := ho7.len
        rw [e]; rfl
      refine Wo_op (v := vv') (h' := h7) (by simp only [iop, ev, upd, dstUpd, reduceIte, Nat.reduceEqDiff]; exact ha) ?_
      refine (Wo_pre 1 (fun call => by simp only [go_sem, seval, e5]; rfl) ?_)
      refine Wo_op (iop_store_at (k := 1) (v := vv') (by first | rfl | assumption) (by simp only [ev, upd, dstUpd, reduceIte, Nat.reduceEqDiff]; exact hcv) hgs7 (by simp)) (Wo_nil ⟨rfl, ?_⟩)
      have lowB : ∀ w, w < h3.next → (h7.set h3.next (.cells [.string x.text, vv'] true 0)).get w = h5.get w := fun w hw => by
        rw [set_get_ne' _ _ (by omega), ho6.beside hb hw (by omega), n6.kept.get _ (by omega)]
      have hnx : h2.next ≤ h3.next := km3.next
      refine ⟨rfl, ⟨by show h2.next ≤ h7.next; have := km.next; omega, fun w hw h1 h2' h3' => (lowB w (by omega)).trans (km5.get w hw h1 h2' h3')⟩, fl ++ [y.text], by rw [List.length_append, List.length_singleton]; omega, hfe, ?_, ?_, ?_, vv', ?_, set_get' _ _ _, ?_⟩
      · exact (lowB _ hla).trans ga5
      · exact (lowB _ hlb).trans gb5
      · exact (lowB _ hlc).trans gc5
      · show h3.next < h7.next; omega
      · rw [htk, List.map_append, List.map_singleton, textAt_at hy']
        rcases ho7 with e | ⟨w, q1, q2, q3, q4⟩
        · exact .inl e
        · exact .inr ⟨w, q1, q2, q3, (set_get_ne' _ _ (fun e => by subst e; rw [hgs7] at q4; simp at q4)).trans q4⟩
    · rintro e h' d ⟨rfl, km, fl, hfl1, hfe, ga', gb', gc', vv, hlt', hgs, ho⟩ hfr hi
      rw [List.drop_length, fieldsE] at hfe
      rw [List.take_length] at ho
      refine ⟨rfl, km, ?_, ?_, fl, hfe.symm, ga', gb', gc', vv, hlt', hgs, ho⟩
      · simp only [upd, reduceIte, Nat.reduceEqDiff]; exact ((hfr 0 (by decide)).trans (by first | rfl | assumption | (symm; assumption)))
      · simp only [upd, reduceIte, Nat.reduceEqDiff]; exact ((hfr 5 (by decide)).trans (by first | rfl | assumption | (symm; assumption)))
  · intro ex s' hs
    cases ex with
    | brk i => exact hs.elim
    | ret => exact hs.elim
    | pan u =>
      obtain ⟨e, fl, rfl, hfe, hd, km⟩ := hs
      exact ⟨hd, jfr _ km, by rw [if_pos hz, if_pos hy, hfe]⟩
    | normal =>
      obtain ⟨e', h5, d'⟩ := s'
      obtain ⟨hd, km, e0, e5, fl, hfe, ga', gb', gc', vv, hlt', hgs, ho⟩ := hs
      simp only at hd km e0 e5 ga' gb' gc' hlt' hgs ho
      subst hd
      show Wc T _ _ _
      have p5 := p2.maps km ga' gb' gc'
      have ho5 : ownL strC 1 J.n0 h5 vv (x.kids.map (textAt l)) := ho.mono hJ0
      have hcc : h5.cells h3.next 0 2 = some [.string x.text, vv] := cells_all hgs rfl
      have hvv : cellsOf vv = some [vv] := by
        obtain ⟨q, c', e⟩ := ho.len
        rw [e]; rfl
      refine Wc_draw_still (by decide) ?_
      refine (Wo_pre 7 (fun call => by simp only [go_sem, seval, e0, e5, p5.get, hcc]; rfl) ?_)
      refine Wo_new (v := .slice (some ⟨h5.next, 0, none⟩) 1 1) (B := .cells (Srt.cells ⟨x.text, vv, x.kids.map (textAt l)⟩) true 2) (by rfl) fun h7 n7 => ?_
      obtain ⟨sv', h8, ha, hcv, hg8, p8, jf8⟩ := p5.addSort (r := ⟨x.text, vv, x.kids.map (textAt l)⟩) n7 ho5 (by simp only; omega)
      refine Wo_op (v := sv') (h' := h8) (by simp only [iop, ev, upd, dstUpd, reduceIte, Nat.reduceEqDiff]; exact ha) ?_
      refine (Wo_pre 3 (fun call => by simp only [go_sem, seval]; rfl) ?_)
      refine Wo_op (iop_store_at (k := 1) (v := sv') (by first | rfl | assumption) (by simp only [ev, upd, dstUpd, reduceIte, Nat.reduceEqDiff]; exact hcv) hg8 (by simp)) (Wo_nil ⟨rfl, ?_⟩)
      exact ⟨rfl, [], rfl, (jfr _ km).trans jf8, by rw [if_pos hz, if_pos hy, hfe]; exact ⟨rfl, vv, _, _, _, _, _, _, _, p8⟩⟩
end Go.Idl
end

section
namespace Go.Idl
variable {T : Tbl}
section
variable {jb : Nat} {l : List Nd} {J : JSt} {h h' : Heap} {v sv fv mv mv' : Value} {a b c : Nat}
theorem JRep.mgs (p : JRep jb l J h v sv fv mv a b c) (hn : h.next ≤ h'.next) (hk : ∀ x, x < h.next → x ≠ jb → h'.get x = h.get x) {m : Int} {L : List Int} (hg : h'.get jb = some (.cells [v, sv, fv, .int .i64 m, mv', .map (some a), .map (some b), .map (some c)] true 0)) (ho : ownI J.n0 h' mv' L) (hnil : L = [] → mv' = .slice none 0 0) :
    JRep jb l { J with main := m, mg := L } h' v sv fv mv' a b c := by
  have hge := p.ge
  have e1 : ∀ w x cs, w ≠ 0 → x < h.next → h.get x = some (.cells cs true w) → h'.get x = some (.cells cs true w) := fun w x cs hw hx hgx => by
    rw [hk x hx (fun e => by subst e; rw [p.get] at hgx; simp at hgx; exact hw hgx.2.symm)]; exact hgx
  have em : ∀ x M, x < h.next → h.get x = some (nmap M) → h'.get x = some (nmap M) := fun x M hx hgx => by
    rw [hk x hx (fun e => by subst e; rw [p.get] at hgx; cases hgx)]; exact hgx
  exact ⟨Nat.lt_of_lt_of_le p.lt hn, hg, base_low p.base hn (fun x hx (hx0 : x < J.n0) => hk x hx (by omega)), em _ _ p.la p.ga, em _ _ p.lb p.gb, em _ _ p.lc p.gc, Nat.lt_of_lt_of_le p.la hn, Nat.lt_of_lt_of_le p.lb hn, Nat.lt_of_lt_of_le p.lc hn,
    p.srt.esz hn (fun x cs => e1 2 x cs (by decide)), p.fns.esz hn (fun x cs => e1 4 x cs (by decide)), ho, fun x hx => (p.vars x hx).esz hn (fun x cs => e1 1 x cs (by decide)), fun x hx => (p.fields x hx).esz hn (fun x cs => e1 1 x cs (by decide)), p.ne, p.ge, hnil⟩
end
def mgOf (l : List Nd) (told : List Int) : List Int := told.filter fun k => kindAt l k == 13
theorem mgOf_add (l : List Nd) (told : List Int) (n : Nat) : mgOf l (told ++ [(n : Int)]) = if kindAt l n = 13 then mgOf l told ++ [(n : Int)] else mgOf l told := by
  rw [mgOf, List.filter_append]
  by_cases h : kindAt l (n : Int) = 13
  · rw [if_pos h]; simp [h, mgOf]
  · rw [if_neg h]; simp [h, mgOf]
theorem merges_loop (F : ChkFns T) (W1 : T.fn 48 = some C48) {jb : Nat} {l : List Nd} {J : JSt} (g : GoodT l) (hN : l.length ≤ 50000) (hK : ∀ x ∈ l, x.kids.length ≤ 100000) (hS : ∀ x ∈ l, x.text.size < 4611686018427387904)
    {H : Heap} {E : Env} {cb bb : Nat} {v sv fv mv : Value} {a b c : Nat} (p : JRep jb l J H v sv fv mv a b c) (hmg : J.mg = []) (hcb : H.get cb = some (.cells [v] true 0)) (hbb : H.get bb = some (.cells [ptr jb 0] true 0)) (lcb : cb < H.next) (lbb : bb < H.next) (hcj : cb ≠ jb) (hbj : bb ≠ jb)
    (E1 : E 1 = ptr bb 0) (E132 : E 132 = .func (.func 48) #[] #[ptr cb 0]) {Q : Ex → St → Prop}
    (hq : ∀ (told : List Int) Z, (∀ k : Nat, k < l.length → told.count (k : Int) = 1) → (∀ k ∈ told, ∃ n : Nat, k = (n : Int) ∧ n < l.length) → Jud jb l { J with mg := mgOf l told } Z → JFr J.n0 jb H Z → Z.get H.next = some .dfr → J.n0 ≤ H.next → Q .normal ⟨E, Z, some [.mark H.next]⟩) :
    Wc T (.rangeF (.t 132) [133, 134] C15A4 C15B4) ⟨E, H, some []⟩ Q := by
  have hlt := p.lt
  have hge := p.ge
  obtain ⟨va, vc, hvl⟩ := p.nodes.len
  refine Wc_rangeF (g := 48) (vs := [.func (.yield (H.next + 1)) #[] #[], ptr cb 0]) (by simp only [ev, E132, target]; rfl) ?_
  generalize hL0 : LoopB.mk .ready none E [133, 134] C15A4 C15B4 = L0
  generalize hHL : (H.new .dfr).new (.loop L0) = HL
  have HLn : HL.next = H.next + 2 := by rw [← hHL]; rfl
  have HL0 : ∀ b, b < H.next → HL.get b = H.get b := fun b hb => by
    rw [← hHL, new_get_ne' _ _ (by show b ≠ (H.next + 1); omega), new_get_ne' _ _ (by omega)]
  have HLd : HL.get H.next = some .dfr := by
    rw [← hHL, new_get_ne' _ _ (by show H.next ≠ (H.next + 1); omega)]; exact new_get' _ _
  have HLl : HL.get (H.next + 1) = some (.loop L0) := by rw [← hHL]; exact new_get' _ _
  have hL0st : L0.st = .ready := by rw [← hL0]
  have hL0p : L0.pend = none := by rw [← hL0]
  have rep : ∀ (told : List Int) (h' : Heap) (mv' : Value), (∀ b, b < H.next → b ≠ jb → h'.get b = H.get b) → HL.next ≤ h'.next → h'.get jb = some (.cells [v, sv, fv, .int .i64 J.main, mv', .map (some a), .map (some b), .map (some c)] true 0) → ownI HL.next h' mv' (mgOf l told) → (mgOf l told = [] → mv' = .slice none 0 0) → JRep jb l { J with main := J.main, mg := mgOf l told } h' v sv fv mv' a b c := fun told h' mv' i1 i2 i3 i4 i7 =>
    p.mgs (hnil := i7) (by omega) i1 i3 (by
      rcases i4 with e | ⟨x, q1, q2, q3, q4⟩
      · exact .inl e
      · exact .inr ⟨x, by omega, q2, q3, q4⟩)
  refine (walk_ok F W1 (lp := H.next + 1) (cb := cb) (v := v) (l := l) (h := HL) (I := fun told h' => (∀ b, b < H.next → b ≠ jb → h'.get b = H.get b) ∧ HL.next ≤ h'.next ∧ h'.get H.next = some .dfr ∧ h'.get (H.next + 1) = some (.loop L0) ∧ ∃ mv', h'.get jb = some (.cells [v, sv, fv, .int .i64 J.main, mv', .map (some a), .map (some b), .map (some c)] true 0) ∧ ownI HL.next h' mv' (mgOf l told) ∧ (mgOf l told = [] → mv' = .slice none 0 0) ∧ (told.length + untold l told ≤ l.length ∧ ∀ k ∈ told, ∃ n : Nat, k = (n : Int) ∧ n < l.length)) g hN hK hS ?_ ?_ ?_ ?_).mono ?_
  · rintro told h' ⟨i1, i2, i3, i4, mv', i5, i6, i7, i8⟩
    exact ⟨(rep told h' mv' i1 i2 i5 i6 i7).nodes, by rw [i1 _ lcb hcj]; exact hcb⟩
  · rintro told h1 h2 ⟨i1, i2, i3, i4, mv', i5, i6, i7, i8⟩ lo
    refine ⟨fun x hx hxj => by rw [lo.get x (by omega)]; exact i1 x hx hxj, Nat.le_trans i2 lo.next, by rw [lo.get _ (by omega)]; exact i3, by rw [lo.get _ (by omega)]; exact i4, mv', by rw [lo.get _ (by omega)]; exact i5, i6.esz lo.next lo.one, i7, i8⟩
  · -- a round
    rintro told n d A0 ⟨i1, i2, i3, i4, mv', i5, i6, i7, i8⟩ ha hnl hnew
    refine Wk_yld i4 (by rw [← hL0]; rfl) ?_
    have hasg : L0.asg = C15A4 := by rw [← hL0]
    have hbody : L0.body = C15B4 := by rw [← hL0]
    have hLe : L0.e = E := by rw [← hL0]
    have hLps : L0.ps = [133, 134] := by rw [← hL0]
    rw [hasg, hLe, hLps]
    have hset : setPs E [133, 134] [.int .i64 (n : Int), .int .i64 d] = upd (upd E 133 (.int .i64 n)) 134 (.int .i64 d) := rfl
    rw [hset, C15A4]
    refine Wc_ops (Wo_run (fun call => by simp only [go_sem, seval]; rfl) ?_)
    refine ⟨rfl, L0, i4, hL0st, ?_⟩
    generalize hB : ({ L0 with st := .busy } : LoopB) = LB
    rw [hbody, C15B4]
    have hBr : ({ LB with st := .ready, pend := none } : LoopB) = L0 := by
      rw [← hB, ← hL0]
    have j1 : ∀ x, x < H.next → x ≠ jb → (A0.set (H.next + 1) (.loop LB)).get x = H.get x := fun x hx hxj => by
      rw [set_get_ne' _ _ (by omega)]; exact i1 x hx hxj
    have j5 : (A0.set (H.next + 1) (.loop LB)).get jb = some (.cells [v, sv, fv, .int .i64 J.main, mv', .map (some a), .map (some b), .map (some c)] true 0) := by
      rw [set_get_ne' _ _ (by omega)]; exact i5
    have j6 : ownI HL.next (A0.set (H.next + 1) (.loop LB)) mv' (mgOf l told) := by
      rcases i6 with e | ⟨x, q1, q2, q3, q4⟩
      · exact .inl e
      · exact .inr ⟨x, q1, q2, q3, by rw [set_get_ne' _ _ (by omega)]; exact q4⟩
    have j4 : (A0.set (H.next + 1) (.loop LB)).get (H.next + 1) = some (.loop LB) := set_get' _ _ _
    have j3 : (A0.set (H.next + 1) (.loop LB)).get H.next = some .dfr := by rw [set_get_ne' _ _ (by omega)]; exact i3
    have jo : ∀ x, x ≠ H.next + 1 → (A0.set (H.next + 1) (.loop LB)).get x = A0.get x := fun x hx => set_get_ne' _ _ hx
    have jn : (A0.set (H.next + 1) (.loop LB)).next = A0.next := rfl
    generalize A0.set (H.next + 1) (.loop LB) = A at j1 j3 j4 j5 j6 jo jn ⊢
    have pA := rep told A mv' j1 (by omega) j5 j6 i7
    have hul := untold_lt hnl hnew
    have htl : (told ++ [(n : Int)]).length = told.length + 1 := by simp
    have i9 : ∀ k ∈ told ++ [(n : Int)], ∃ n : Nat, k = n ∧ n < l.length := fun k hk => by
      rcases List.mem_append.1 hk with hk | hk
      · exact i8.2 k hk
      · exact ⟨n, List.mem_singleton.1 hk, hnl⟩
    replace i8 := i8.1
    have hbbA : A.get bb = some (.cells [ptr jb 0] true 0) := by rw [j1 _ lbb hbj]; exact hbb
    obtain ⟨x, hx⟩ : ∃ x, l[n]? = some x := ⟨_, List.getElem?_eq_getElem hnl⟩
    obtain ⟨q, cp, o, z, hvb, hgb, hcell⟩ := pA.node hx
    obtain ⟨f0, f1, f2, f3⟩ := flatN_at hx
    have hka : kindAt l ((n : Nat) : Int) = x.kind := by rw [kindAt, Int.toNat_natCast, hx]; rfl
    have pj : ptr jb 0 = .pointer (some ⟨jb, 0, none⟩) := rfl
    rw [pj] at hbbA
    refine Wc_block (Wc_seq (Wc_ops (Wo_run (fun call => by simp only [go_sem, seval, E1, hbbA, j5, hvb, idx_ok hnl, hgb, f0]; rfl) ?_)))
    show Wc T _ _ _
    by_cases k13 : x.kind = 13
    case neg =>
      refine Wc_cond false (congrArg Value.bool (beq_eq_false_iff_ne.2 k13)) (fun e => by cases e) (fun _ => Wc_skip ?_)
      refine ⟨LB, j4, ?_⟩
      simp only
      rw [hBr]
      have hm : mgOf l (told ++ [(n : Int)]) = mgOf l told := by rw [mgOf_add, hka, if_neg k13]
      refine ⟨by trivial, ⟨fun y hy hyj => by rw [set_get_ne' _ _ (by omega)]; exact j1 y hy hyj, by show HL.next ≤ A.next; omega, by rw [set_get_ne' _ _ (by omega)]; exact j3, set_get' _ _ _, mv', by rw [set_get_ne' _ _ (by omega)]; exact j5, ?_, by rw [hm]; exact i7, by omega, i9⟩, by show A0.next ≤ A.next; omega, fun y hy1 hy2 _ => by rw [set_get_ne' _ _ (by omega), jo _ (by omega)]⟩
      rw [hm]
      rcases j6 with e | ⟨y, q1, q2, q3, q4⟩
      · exact .inl e
      · exact .inr ⟨y, q1, q2, q3, by rw [set_get_ne' _ _ (by omega)]; exact q4⟩
    refine Wc_cond true (congrArg Value.bool (beq_iff_eq.2 k13)) (fun _ => ?_) (fun e => by cases e)
    have hL0' : ∀ e : Env, e 1 = ptr bb 0 → locOp (.load none (.t 1)) e = .cells bb 0 1 := fun e he => by simp only [locOp, ev, he, ptr]
    have cbb : A.cell bb 0 = some (ptr jb 0) := by simp only [Heap.cell, hbbA]; rfl
    have c5 : A.cell jb 4 = some mv' := by simp only [Heap.cell, j5]; rfl
    refine Wc_draw ?_
    refine Wd_R rfl (v := ptr jb 0) (h' := A) (by simp only [iop, ev, upd, Nat.reduceEqDiff, reduceIte, E1, ptr, cbb]; rfl) (by intro p hp; cases hp) ?_
    refine Wd_R rfl (v := ptr jb 0) (h' := A) (by simp only [iop, ev, upd, dstUpd, Nat.reduceEqDiff, reduceIte, E1, ptr, cbb]; rfl) (by intro p hp; cases hp) ?_
    refine Wd_P rfl (v := ptr jb 0) (h' := A) (by simp only [iop, ev, upd, dstUpd, Nat.reduceEqDiff, reduceIte, ptr]) ?_
    refine Wd_P rfl (v := ptr jb 1) (h' := A) (by simp only [iop, ev, upd, dstUpd, Nat.reduceEqDiff, reduceIte, ptr]) ?_
    refine Wd_P rfl (v := ptr jb 4) (h' := A) (by simp only [iop, ev, upd, dstUpd, Nat.reduceEqDiff, reduceIte, ptr]) ?_
    refine Wd_R rfl (v := mv') (h' := A) (by simp only [iop, ev, upd, dstUpd, Nat.reduceEqDiff, reduceIte, ptr, c5]; rfl) (by intro p hp; cases hp) ?_
    refine Wd_P rfl (v := .int .i64 n) (h' := A) (by simp only [iop, ev, upd, dstUpd, Nat.reduceEqDiff, reduceIte]) ?_
    refine Wd_A rfl (v := .slice (some ⟨A.next, 0, none⟩) 1 1) (h' := A.new (.cells (ints64 [(n : Int)]) true 1)) (by rfl) ?_
    have n1 := New1.of_new A (.cells (ints64 [(n : Int)]) true 1)
    generalize A.new (.cells (ints64 [(n : Int)]) true 1) = A1 at n1 ⊢
    have hn1 := n1.next
    have o1 : ownI HL.next A1 mv' (mgOf l told) := j6.keep n1.kept.next fun y _ hy => n1.kept.get y hy
    have hel : elemsOf A1 1 (.slice (some ⟨A.next, 0, none⟩) 1 1) = some ([(n : Int)].length, ints64 [(n : Int)]) := intsAt.elems (l := [(n : Int)]) (.inr ⟨A.next, 1, rfl, by omega, .inr ⟨true, 1, n1.get⟩⟩)
    have hmgl : (mgOf l told).length ≤ told.length := List.length_filter_le _ _
    obtain ⟨mw, A2, happ, hbs, ho2, _⟩ := append_own o1 (by omega) hel (by simp only [List.length_singleton]; omega)
    have hn2 := hbs.next
    have low2 : ∀ y, y < HL.next → A2.get y = A.get y := fun y hy => by
      rw [hbs.get y (by omega) ?_, n1.kept.get _ (by omega)]
      intro q m c hv
      rcases o1 with ⟨_, e⟩ | ⟨k, e1, _, e3, _⟩
      · rw [e] at hv; cases hv
      · rw [e3] at hv; cases hv
        simp only; omega
    refine Wd_E rfl (v := mw) (h' := A2) (by simp only [iop, ev, upd, dstUpd, Nat.reduceEqDiff, reduceIte]; exact happ) ?_ ?_
    · intro p hp
      simp only [List.mem_cons, List.not_mem_nil, or_false] at hp
      rcases hp with rfl | rfl | rfl | rfl
      · exact .inl (show (7 : Nat) ∈ [7, 6, 5, 4, 3, 2, 1] by decide)
      · exact .inl (show (5 : Nat) ∈ [7, 6, 5, 4, 3, 2, 1] by decide)
      · exact .inl (show (1 : Nat) ∈ [7, 6, 5, 4, 3, 2, 1] by decide)
      · refine .inr ?_
        rw [hL0' _ (by simp only [upd, dstUpd, Nat.reduceEqDiff, reduceIte]; exact E1)]
        simp only [sameAt, Heap.cells, low2 bb (by omega), n1.kept.get bb (by omega)]
    refine Wd_P rfl (v := ptr jb 0) (h' := A2) (by simp only [iop, ev, upd, dstUpd, Nat.reduceEqDiff, reduceIte, ptr]) ?_
    refine Wd_P rfl (v := ptr jb 1) (h' := A2) (by simp only [iop, ev, upd, dstUpd, Nat.reduceEqDiff, reduceIte, ptr]) ?_
    refine Wd_P rfl (v := ptr jb 4) (h' := A2) (by simp only [iop, ev, upd, dstUpd, Nat.reduceEqDiff, reduceIte, ptr]) ?_
    have hg2 : A2.get jb = some (.cells [v, sv, fv, .int .i64 J.main, mv', .map (some a), .map (some b), .map (some c)] true 0) := by rw [low2 _ (by omega)]; exact j5
    have hcw : cellsOf mw = some [mw] := by
      obtain ⟨q, c', e⟩ := ho2.ints.len
      rw [e]; rfl
    refine Wd_E rfl (iop_store_at (k := 4) (v := mw) (by first | rfl | assumption) (by simp only [ev, upd, dstUpd, reduceIte, Nat.reduceEqDiff]; exact hcw) hg2 (by simp)) ?_ ?_
    · intro p hp
      simp only [List.mem_cons, List.not_mem_nil, or_false] at hp
      rcases hp with rfl | rfl | rfl | rfl
      · exact .inl (show (7 : Nat) ∈ [8, 7, 6, 5, 4, 3, 2, 1, 0, 11, 10, 9] by decide)
      · exact .inl (show (5 : Nat) ∈ [8, 7, 6, 5, 4, 3, 2, 1, 0, 11, 10, 9] by decide)
      · exact .inl (show (1 : Nat) ∈ [8, 7, 6, 5, 4, 3, 2, 1, 0, 11, 10, 9] by decide)
      · exact .inl (show (0 : Nat) ∈ [8, 7, 6, 5, 4, 3, 2, 1, 0, 11, 10, 9] by decide)
    refine Wd_nil ?_
    have hset2 : ([v, sv, fv, .int .i64 J.main, mv', .map (some a), .map (some b), .map (some c)] : List Value).set 4 mw = [v, sv, fv, .int .i64 J.main, mw, .map (some a), .map (some b), .map (some c)] := rfl
    rw [hset2]
    have hm : mgOf l (told ++ [(n : Int)]) = mgOf l told ++ [(n : Int)] := by rw [mgOf_add, hka, if_pos k13]
    refine ⟨LB, by rw [set_get_ne' _ _ (by omega), low2 _ (by omega)]; exact j4, ?_⟩
    simp only
    rw [hBr]
    refine ⟨by trivial, ⟨fun y hy hyj => by rw [set_get_ne' _ _ (by omega), set_get_ne' _ _ hyj, low2 _ (by omega)]; exact j1 y hy hyj, by show HL.next ≤ A2.next; omega, by rw [set_get_ne' _ _ (by omega), set_get_ne' _ _ (by omega), low2 _ (by omega)]; exact j3, set_get' _ _ _, mw, by rw [set_get_ne' _ _ (by omega)]; exact set_get' _ _ _, ?_, by rw [hm]; intro h; simp at h, by omega, i9⟩, by show A0.next ≤ A2.next; omega, fun y hy1 hy2 hno => ?_⟩
    · rw [hm]
      rcases ho2 with e | ⟨y, q1, q2, q3, q4⟩
      · exact .inl e
      · exact .inr ⟨y, q1, q2, q3, by rw [set_get_ne' _ _ (by omega), set_get_ne' _ _ (by omega)]; exact q4⟩
    · have hA0 : A.get y = A0.get y := jo _ (by omega)
      rw [set_get_ne' _ _ (by omega), set_get_ne' _ _ (by omega), hbs.get y (by omega) ?_, n1.kept.get _ (by omega), hA0]
      intro q m c hv
      rcases j6 with ⟨_, e⟩ | ⟨k, e1, _, e3, e4⟩
      · rw [e] at hv; cases hv
      · rw [e3] at hv; cases hv
        rintro rfl
        rw [hA0] at e4
        exact hno _ e4
  · exact ⟨fun b hb _ => HL0 b hb, Nat.le_refl _, HLd, HLl, mv, by rw [HL0 _ hlt]; exact p.get, .inl ⟨rfl, p.mgn hmg⟩, fun _ => p.mgn hmg, (by
      have := List.countP_le_length (p := fun p : Nat => !decide ((p : Int) ∈ ([] : List Int))) (l := List.range l.length)
      rw [List.length_range] at this
      show 0 + untold l [] ≤ l.length
      rw [Nat.zero_add]; exact this), fun k hk => (by cases hk)⟩
  rintro o hE ⟨⟨r, rfl⟩, told, ⟨i1, i2, i3, i4, mv', i5, i6, i7, i8⟩, hall⟩
  refine ⟨L0, i4, by rw [hL0st]; decide, ?_⟩
  have z1 : ∀ x, x ≠ H.next + 1 → (hE.set (H.next + 1) (.loop { L0 with st := .gone })).get x = hE.get x := fun x hx => set_get_ne' _ _ hx
  have zn : (hE.set (H.next + 1) (.loop { L0 with st := .gone })).next = hE.next := rfl
  generalize hE.set (H.next + 1) (.loop { L0 with st := .gone }) = Z at z1 zn ⊢
  rw [hL0p]
  have pZ := rep told Z mv' (fun b hb hbj => by rw [z1 _ (by omega)]; exact i1 b hb hbj) (by omega) (by rw [z1 _ (by omega)]; exact i5) (by
    rcases i6 with e | ⟨y, q1, q2, q3, q4⟩
    · exact .inl e
    · exact .inr ⟨y, q1, by omega, q3, by rw [z1 _ (by omega)]; exact q4⟩) i7
  refine hq told Z hall i8.2 ⟨_, _, _, _, _, _, _, pZ⟩ ⟨by omega, fun x hx hx0 => by rw [z1 _ (by omega), i1 _ hx (by omega)], fun x cs hx hg => ?_, fun x cs hx hxj hg => by rw [z1 _ (by omega), i1 _ hx hxj]; exact hg⟩ (by rw [z1 _ (by omega)]; exact i3) (by omega)
  rw [z1 _ (by omega), i1 _ hx (fun e => by subst e; rw [p.get] at hg; simp at hg)]
  exact hg
end Go.Idl
end

section
namespace Go.Idl
def JSt.er (J : JSt) : JSt := { J with n0 := 0, srt := J.srt.map fun s => { s with fv := undef }, fns := J.fns.map fun r => { r with vv := undef } }
structure JEq (J K : JSt) : Prop where
  fn : J.fn = K.fn
  fl : J.fl = K.fl
  sn : J.sn = K.sn
  par : ∀ k, parN J k = parN K k
theorem JEq.er (J : JSt) : JEq J.er J := ⟨rfl, rfl, rfl, fun k => by
  simp only [parN, JSt.er, List.getElem?_map]
  cases J.fns[k]? <;> rfl⟩
theorem kindE_eq {J K : JSt} (h : JEq J K) (sc : List ByteArray) (x : Nd) : kindE J sc x = kindE K sc x := by
  simp only [kindE, h.fn, h.fl, h.sn, h.par]
theorem exprE_eq {J K : JSt} (h : JEq J K) (l : List Nd) (sc : List ByteArray) : ∀ f n, exprE l J sc f n = exprE l K sc f n
  | 0, _ => rfl
  | f + 1, n => by
    rw [exprE, exprE]
    cases l[n]? with
    | none => rfl
    | some x =>
      simp only [kindE_eq h]
      have : (fun k : Int => exprE l J sc f k.toNat) = fun k => exprE l K sc f k.toNat := funext fun k => exprE_eq h l sc f _
      rw [this]
theorem stmtsE_eq {J K : JSt} (h : JEq J K) (l : List Nd) (bl : Nat → List ByteArray → Bool → Option CE) : ∀ ks sc lf, stmtsE l J bl ks sc lf = stmtsE l K bl ks sc lf
  | [], _, _ => rfl
  | k :: ks, sc, lf => by
    have hk : ∀ wh, kidE l J bl sc wh = kidE l K bl sc wh := fun wh => funext fun c => by simp only [kidE, exprE_eq h]
    simp only [stmtsE, exprE_eq h, hk, stmtsE_eq h l bl ks]
theorem blockE_eq {J K : JSt} (h : JEq J K) (l : List Nd) : ∀ f, blockE l J f = blockE l K f
  | 0 => rfl
  | f + 1 => by
    funext n sc lp
    simp only [blockE, blockE_eq h l f, stmtsE_eq h]
theorem bodyE_eq {J K : JSt} (h : JEq J K) (l : List Nd) (a b : Nat) (x : Nd) : bodyE l J a b x = bodyE l K a b x := by
  simp only [bodyE, blockE_eq h]
def recordS (l : List Nd) (k : Int) (J : JSt) : Except CE JSt := match l[k.toNat]? with
  | none => .ok J
  | some x => if numOf J.sn x.text = 0 then (if x.kids.length ≤ 100 then match fieldsE l x.kids J.fl with
      | (some e, _) => .error e
      | (none, fl) => .ok { J with sn := J.sn ++ [x.text], fl := fl, srt := J.srt ++ [⟨x.text, undef, x.kids.map (textAt l)⟩] }
      else .error (x.pos, 2)) else .error (x.pos, 80)
def faceS (l : List Nd) (k : Int) (J : JSt) : Except CE JSt := match l[k.toNat]? with
  | none => .ok J
  | some x => if numOf J.fn x.text = 0 then .ok { J with fn := J.fn ++ [x.text], fns := J.fns ++ [⟨x.text, x.kids.length - 1, undef, faceV l x k.toNat, k.toNat⟩] } else .error (x.pos, 80)
def foldS (f : Int → JSt → Except CE JSt) : List Int → JSt → Except CE JSt
  | [], J => .ok J
  | k :: ks, J => match f k J with
    | .error e => .error e
    | .ok J' => foldS f ks J'
def rowE (l : List Nd) (J : JSt) (r : Fnr) : Option CE := match l[r.node]? with
  | none => none
  | some x => bodyE l J r.vars.length r.params x
def mainB : ByteArray := ⟨#[109, 97, 105, 110]⟩
def rootKids (l : List Nd) : List Int := (l[l.length - 1]?.map (·.kids)).getD []
def J0 : JSt := ⟨0, [], [], [], [], [], 0, []⟩
def allS (l : List Nd) : Except CE JSt :=
  let recs := (rootKids l).filter fun k => kindAt l k == 2
  let fns := (rootKids l).filter fun k => !(kindAt l k == 2)
  if recs.length ≤ 100 ∧ fns.length ≤ 200 then
    match foldS (recordS l) recs J0 with
    | .error e => .error e
    | .ok J1 => match foldS (faceS l) fns J1 with
      | .error e => .error e
      | .ok J2 =>
        if 0 < numOf J2.fn mainB ∧ parN J2 (numOf J2.fn mainB - 1) = 0 then
          match J2.fns.findSome? (rowE l J2) with
          | some e => .error e
          | none => .ok { J2 with main := ((numOf J2.fn mainB : Nat) : Int) - 1 }
        else .error (0, 83)
  else .error (0, 2)
end Go.Idl
end

section
namespace Go.Idl
variable {T : Tbl}
theorem letsL_fuel {l : List Nd} (g : GoodT l) : ∀ (f n : Nat), n < f → letsL l f n = letsL l (n + 1) n := by
  intro f
  induction f using Nat.strongRecOn with
  | ind f ih =>
    intro n hn
    cases f with
    | zero => omega
    | succ f =>
      rw [letsL, letsL]
      cases hx : l[n]? with
      | none => rfl
      | some x =>
        simp only
        congr 1
        rw [List.flatMap, List.flatMap]
        congr 1
        refine List.map_congr_left fun k hk => ?_
        have := (g.ok n x hx).kids k hk
        by_cases hnf : n = f
        · subst hnf; rfl
        · rw [ih f (by omega) k.toNat (by omega), ih n (by omega) k.toNat (by omega)]
def letC (l : List Nd) (n : Nat) : Nat := (letsL l (n + 1) n).length
theorem letC_eq {l : List Nd} (g : GoodT l) {n : Nat} {x : Nd} (hx : l[n]? = some x) : letC l n = (if x.kind = 5 then 1 else 0) + (x.kids.map fun k => letC l k.toNat).sum := by
  have : letC l n = ((if x.kind = 5 then [x.text] else []) ++ x.kids.flatMap fun k => letsL l n k.toNat).length := by rw [letC, letsL, hx]
  rw [this, List.length_append, List.length_flatMap]
  have h1 : (if x.kind = 5 then [x.text] else ([] : List ByteArray)).length = if x.kind = 5 then 1 else 0 := by split <;> simp
  have h2 : (x.kids.map fun k => (letsL l n k.toNat).length) = x.kids.map fun k => letC l k.toNat := List.map_congr_left fun k hk => by
    have := (g.ok n x hx).kids k hk
    rw [letC, letsL_fuel g n k.toNat (by omega)]
  rw [h2, h1]
theorem letC_bal {l : List Nd} (g : GoodT l) : ∀ (m : Nat) (told todo : List Int), untold l told ≤ m → Bal l told todo → (∀ k ∈ todo, ∃ n : Nat, k = n ∧ n < l.length) → (todo.map fun k => letC l k.toNat).sum ≤ untold l told := by
  intro m
  induction m with
  | zero =>
    intro told todo hm hB hr
    rcases List.eq_nil_or_concat todo with rfl | ⟨L, p, rfl⟩
    · exact Nat.zero_le _
    · rw [List.concat_eq_append] at hr hB
      obtain ⟨n, hpn, hnl⟩ := hr p (by simp)
      rw [hpn] at hB
      have := untold_lt hnl (bal_new hB hnl)
      omega
  | succ m ih =>
    intro told todo hm hB hr
    rcases List.eq_nil_or_concat todo with rfl | ⟨L, p, rfl⟩
    · exact Nat.zero_le _
    · rw [List.concat_eq_append] at hr hB ⊢
      obtain ⟨n, hpn, hnl⟩ := hr p (by simp)
      subst hpn
      have hlt := untold_lt hnl (bal_new hB hnl)
      obtain ⟨x, hx⟩ : ∃ x, l[n]? = some x := ⟨_, List.getElem?_eq_getElem hnl⟩
      have hkn : kidsAtN l n = x.kids := by rw [kidsAtN, hx]; rfl
      have hB2 := bal_step hB hnl
      rw [hkn] at hB2
      have h2 := ih _ _ (by omega) hB2 (fun k hk => by
        rcases List.mem_append.1 hk with hk | hk
        · exact hr k (List.mem_append_left _ hk)
        · have := (g.ok n x hx).kids k (List.mem_reverse.1 hk)
          exact ⟨k.toNat, by omega, by omega⟩)
      rw [List.map_append, List.sum_append, List.map_reverse, List.sum_reverse] at h2
      have h3 := letC_eq g hx
      rw [List.map_append, List.sum_append, List.map_singleton, List.sum_singleton, Int.toNat_natCast]
      split at h3 <;> omega
theorem le_sum_map {α : Type} {f : α → Nat} : ∀ {L : List α} {x : α}, x ∈ L → f x ≤ (L.map f).sum
  | y :: L, x, h => by
    rw [List.map_cons, List.sum_cons]
    rcases List.mem_cons.1 h with rfl | h
    · omega
    · have := le_sum_map (f := f) h
      omega
theorem untold_nil (l : List Nd) : untold l [] ≤ l.length := by
  have := List.countP_le_length (p := fun p : Nat => !decide ((p : Int) ∈ ([] : List Int))) (l := List.range l.length)
  rw [List.length_range] at this
  exact this
theorem letC_le {l : List Nd} (g : GoodT l) {k : Int} (hk : k ∈ rootKids l) : (letsL l l.length k.toNat).length ≤ 50000 := by
  have hne := g.ne
  obtain ⟨x, hx⟩ : ∃ x, l[l.length - 1]? = some x := ⟨_, List.getElem?_eq_getElem (by omega)⟩
  have hrk : rootKids l = x.kids := by rw [rootKids, hx]; rfl
  rw [hrk] at hk
  have hroot := letC_bal g _ [] [((l.length : Nat) : Int) - 1] (Nat.le_refl _) (bal_start g) (fun k hk => by
    rw [List.mem_singleton] at hk
    exact ⟨l.length - 1, by omega, by omega⟩)
  have hn1 : (((l.length : Nat) : Int) - 1).toNat = l.length - 1 := by omega
  rw [List.map_singleton, List.sum_singleton, hn1, letC_eq g hx] at hroot
  have h1 := le_sum_map (f := fun k : Int => letC l k.toNat) hk
  have h2 := (g.ok _ x hx).kids k hk
  have h3 := untold_nil l
  have h4 := g.len
  rw [letsL_fuel g _ _ (by omega)]
  simp only [letC] at h1 hroot ⊢
  omega
theorem root_kid {l : List Nd} (g : GoodT l) {k : Int} (hk : k ∈ rootKids l) : ∃ (n : Nat) (x : Nd), k = n ∧ n < l.length ∧ l[n]? = some x ∧ (x.kind = 2 ∨ x.kind = 3) ∧ (x.kind = 3 → 0 < x.kids.length) := by
  have hne := g.ne
  obtain ⟨r, hr⟩ : ∃ r, l[l.length - 1]? = some r := ⟨_, List.getElem?_eq_getElem (by omega)⟩
  have hrk : rootKids l = r.kids := by rw [rootKids, hr]; rfl
  rw [hrk] at hk
  have ok := g.ok _ r hr
  have hkd := ok.kids k hk
  have h1 : r.kind = 1 := (g.last _ _ hr).2 (by omega)
  have hs := ok.shape
  rw [h1, shapeB, if_pos rfl, List.all_map, List.all_eq_true] at hs
  have hk2 := hs k hk
  obtain ⟨x, hx⟩ : ∃ x, l[k.toNat]? = some x := ⟨_, List.getElem?_eq_getElem (by omega)⟩
  have hka : kindAt l k = x.kind := by rw [kindAt, hx]; rfl
  simp only [Function.comp, hka, Bool.or_eq_true, beq_iff_eq] at hk2
  refine ⟨k.toNat, x, by omega, by omega, hx, hk2, fun h3 => ?_⟩
  have hs2 := (g.ok _ x hx).shape
  rw [h3, shapeB, if_neg (by decide), if_neg (by decide), if_pos rfl, Bool.and_eq_true, Bool.and_eq_true] at hs2
  have := of_decide_eq_true hs2.1.1
  rwa [List.length_map] at this
theorem fieldsE_len (l : List Nd) : ∀ (ks : List Int) {fl fl' : List ByteArray}, fieldsE l ks fl = (none, fl') → fl'.length = fl.length + ks.length
  | [], fl, fl', h => by cases h; rfl
  | k :: ks, fl, fl', h => by
    rw [fieldsE] at h
    split at h
    · have := fieldsE_len l ks h
      rw [List.length_append, List.length_singleton] at this
      rw [List.length_cons]; omega
    · cases h
def mainQ (J : JSt) : Prop := 0 < numOf J.fn mainB ∧ parN J (numOf J.fn mainB - 1) = 0
instance (J : JSt) : Decidable (mainQ J) := by unfold mainQ; exact inferInstance
structure RowOk (l : List Nd) (r : Fnr) : Prop where
  ex : ∃ x, l[r.node]? = some x ∧ r.params + 1 = x.kids.length
end Go.Idl
end

section
namespace Go.Idl
variable {T : Tbl}
theorem ownI.jfr {n0 jb m : Nat} {h h' : Heap} {v : Value} {l : List Int} (o : ownI m h v l) (k : JFr n0 jb h h') : ownI m h' v l := o.esz k.next k.one
theorem foldS_cons {f : Int → JSt → Except CE JSt} {k : Int} {ks : List Int} {J J' : JSt} (h : f k J = .ok J') : foldS f (k :: ks) J = foldS f ks J' := by rw [foldS, h]
theorem foldS_err {f : Int → JSt → Except CE JSt} {k : Int} {ks : List Int} {J : JSt} {e : CE} (h : f k J = .error e) : foldS f (k :: ks) J = .error e := by rw [foldS, h]
theorem recs_loop (F : CFns T) {jb bb m : Nat} {l : List Nd} {J : JSt} (g : GoodT l) (hK : ∀ x ∈ l, x.kids.length ≤ 100000) {h : Heap} {e : Env} {v : Value} {rk : List Int} (hj : Jud jb l J h) (hbb : h.get bb = some (.cells [ptr jb 0] true 0)) (lbb : bb < h.next) (hbj : bb ≠ jb) (hrk : ownI m h v rk) (hkk : ∀ k ∈ rk, ∃ n : Nat, k = n ∧ n < l.length) (hlen : rk.length ≤ 100) (hJ : J.srt = [] ∧ J.sn = [] ∧ J.fl = [])
    (e1 : e 1 = ptr bb 0) (e59 : e 59 = v) (e60 : e 60 = .int .i64 rk.length) (e61 : e 61 = .int .i64 0) {Q : Ex → St → Prop}
    (q1 : ∀ e' h' J', e' 1 = e 1 → e' 3 = e 3 → foldS (recordS l) rk J.er = .ok J'.er → J'.n0 = J.n0 → J'.fn = J.fn → J'.fns = J.fns → J'.mg = J.mg → Jud jb l J' h' → JFr J.n0 jb h h' → Q .normal ⟨e', h', some []⟩)
    (q2 : ∀ e' h' er, foldS (recordS l) rk J.er = .error er → JFr J.n0 jb h h' → Q (.pan (wrongC er)) ⟨e', h', some []⟩) :
    Wc T (.block 2 (.loop C15L1)) ⟨e, h, some []⟩ Q := by
  have hgl := g.len
  simp only [C15L1]
  refine Wc_range rk.length (fun j e' h' d => d = some [] ∧ JFr J.n0 jb h h' ∧ ∃ J', Jud jb l J' h' ∧ foldS (recordS l) (rk.drop j) J'.er = foldS (recordS l) rk J.er ∧ J'.n0 = J.n0 ∧ J'.fn = J.fn ∧ J'.fns = J.fns ∧ J'.mg = J.mg ∧ J'.srt.length ≤ j ∧ J'.sn.length ≤ j ∧ J'.fl.length ≤ 100 * j) (by decide) e61 e60 (by omega) (by decide) ⟨rfl, .refl _ _ _, J, hj, by rw [List.drop_zero], rfl, rfl, rfl, rfl, by rw [hJ.1]; exact Nat.zero_le _, by rw [hJ.2.1]; exact Nat.zero_le _, by rw [hJ.2.2]; exact Nat.zero_le _⟩ ?_ ?_
  · rintro j e' h' d hj' ⟨rfl, fr, J', hj1, hfo, i1, i2, i3, i4, i5, i6, i7⟩ hfr hi hn'
    obtain ⟨kk, hkj⟩ : ∃ k, rk[j]? = some k := ⟨_, List.getElem?_eq_getElem hj'⟩
    have hrk' := (hrk.jfr fr).ints
    obtain ⟨kb, kcp, ko, kz, hkvb, hkg, hkc⟩ := kid_at hrk' hkj
    obtain ⟨n, rfl, hnl⟩ := hkk kk (List.mem_of_getElem? hkj)
    obtain ⟨x, hx⟩ : ∃ x, l[n]? = some x := ⟨_, List.getElem?_eq_getElem hnl⟩
    have hdr : rk.drop j = ((n : Nat) : Int) :: rk.drop (j + 1) := by
      obtain ⟨hl, ht⟩ := List.getElem?_eq_some_iff.1 hkj
      rw [List.drop_eq_getElem_cons hl, ht]
    rw [hdr] at hfo
    have f59 : e' 59 = .slice (some ⟨kb, 0, none⟩) rk.length kcp := by rw [← hkvb, ← e59]; exact ((hfr 59 (by decide)).trans (by first | rfl | assumption | (symm; assumption)))
    have f1 : e' 1 = ptr bb 0 := (by rw [hfr 1 (by decide)]; try simp only [go_sem, seval, e1] <;> first | rfl | assumption | (symm; assumption))
    have hbb' := fr.zero _ _ lbb hbj hbb
    refine Wc_seq (Wc_ops (Wo_run (fun call => by simp only [go_sem, seval, hi, f59, idx_ok hj', hkg, hkc]; rfl) ?_))
    show Wc T _ _ _
    refine Wc_ops (Wo_pre 2 (fun call => by simp only [go_sem, seval, f1, hbb']; rfl) ?_)
    refine Wo_call ?_
    simp only [List.map_cons, List.map_nil, ev, upd, dstUpd, reduceIte, Nat.reduceEqDiff]
    refine (record_ok F g (by omega) (fun x hx => by have := hK x hx; omega) (by omega) (by omega) (by omega) hx hj1).mono ?_
    rintro o h2 ⟨fr2, ho⟩
    have fr3 : JFr J.n0 jb h h2 := fr.trans (i1 ▸ fr2)
    have hrs : ∀ r, recordS l ((n : Nat) : Int) J'.er = r → recordS l ((n : Nat) : Int) J'.er = r := fun r h => h
    have hrS : recordS l ((n : Nat) : Int) J'.er = (if numOf J'.sn x.text = 0 then (if x.kids.length ≤ 100 then match fieldsE l x.kids J'.fl with
      | (some e, _) => .error e
      | (none, fl) => .ok { J'.er with sn := J'.sn ++ [x.text], fl := fl, srt := J'.er.srt ++ [⟨x.text, undef, x.kids.map (textAt l)⟩] }
      else .error (x.pos, 2)) else .error (x.pos, 80)) := by
      rw [recordS, Int.toNat_natCast, hx]; rfl
    split at ho
    case isFalse hz =>
      subst ho
      rw [if_neg hz] at hrS
      rw [foldS_err hrS] at hfo
      exact q2 _ _ _ hfo.symm fr3
    case isTrue hz =>
      rw [if_pos hz] at hrS
      split at ho
      case isFalse hk =>
        subst ho
        rw [if_neg hk] at hrS
        rw [foldS_err hrS] at hfo
        exact q2 _ _ _ hfo.symm fr3
      case isTrue hk =>
        rw [if_pos hk] at hrS
        split at ho
        case h_1 er fl hfe =>
          subst ho
          rw [hfe] at hrS
          rw [foldS_err hrS] at hfo
          exact q2 _ _ _ hfo.symm fr3
        case h_2 fl hfe =>
          obtain ⟨rfl, vv, hj2⟩ := ho
          rw [hfe] at hrS
          rw [foldS_cons hrS] at hfo
          have hfl := fieldsE_len l _ hfe
          refine Wo_nil ⟨rfl, fr3, _, hj2, ?_, i1, i2, i3, i4, ?_, ?_, ?_⟩
          · rw [← hfo]
            simp only [JSt.er, List.map_append, List.map_cons, List.map_nil]
          · simp only [List.length_append, List.length_singleton]; omega
          · simp only [List.length_append, List.length_singleton]; omega
          · simp only; omega
  · rintro e' h' d ⟨rfl, fr, J', hj1, hfo, i1, i2, i3, i4, i5, i6, i7⟩ hfr hi
    rw [List.drop_length, foldS] at hfo
    refine q1 _ _ J' ?_ ?_ hfo.symm i1 i2 i3 i4 hj1 fr
    · simp only [upd, reduceIte, Nat.reduceEqDiff]; exact ((hfr 1 (by decide)).trans (by first | rfl | assumption | (symm; assumption)))
    · simp only [upd, reduceIte, Nat.reduceEqDiff]; exact ((hfr 3 (by decide)).trans (by first | rfl | assumption | (symm; assumption)))
theorem faces_loop (F : CFns T) {jb bb m : Nat} {l : List Nd} {J : JSt} (g : GoodT l) (hK : ∀ x ∈ l, x.kids.length ≤ 100000) {h : Heap} {e : Env} {v : Value} {rk : List Int} (hj : Jud jb l J h) (hbb : h.get bb = some (.cells [ptr jb 0] true 0)) (lbb : bb < h.next) (hbj : bb ≠ jb) (hrk : ownI m h v rk) (hkk : ∀ k ∈ rk, k ∈ rootKids l ∧ kindAt l k ≠ 2) (hlen : rk.length ≤ 200) (hJ : J.fns = [] ∧ J.fn = [])
    (e1 : e 1 = ptr bb 0) (e69 : e 69 = v) (e70 : e 70 = .int .i64 rk.length) (e71 : e 71 = .int .i64 0) {Q : Ex → St → Prop}
    (q1 : ∀ e' h' J', e' 1 = e 1 → foldS (faceS l) rk J.er = .ok J'.er → J'.n0 = J.n0 → J'.mg = J.mg → J'.fns.length = J'.fn.length → J'.fn.length ≤ 200 → (∀ r ∈ J'.fns, RowOk l r) → Jud jb l J' h' → JFr J.n0 jb h h' → Q .normal ⟨e', h', some []⟩)
    (q2 : ∀ e' h' er, foldS (faceS l) rk J.er = .error er → JFr J.n0 jb h h' → Q (.pan (wrongC er)) ⟨e', h', some []⟩) :
    Wc T (.block 4 (.loop C15L2)) ⟨e, h, some []⟩ Q := by
  have hgl := g.len
  simp only [C15L2]
  refine Wc_range rk.length (fun j e' h' d => d = some [] ∧ JFr J.n0 jb h h' ∧ ∃ J', Jud jb l J' h' ∧ foldS (faceS l) (rk.drop j) J'.er = foldS (faceS l) rk J.er ∧ J'.n0 = J.n0 ∧ J'.mg = J.mg ∧ J'.fns.length = j ∧ J'.fn.length = j ∧ ∀ r ∈ J'.fns, RowOk l r) (by decide) e71 e70 (by omega) (by decide) ⟨rfl, .refl _ _ _, J, hj, by rw [List.drop_zero], rfl, rfl, by rw [hJ.1]; rfl, by rw [hJ.2]; rfl, by rw [hJ.1]; intro r hr; cases hr⟩ ?_ ?_
  · rintro j e' h' d hj' ⟨rfl, fr, J', hj1, hfo, i1, i4, i5, i6, i7⟩ hfr hi hn'
    obtain ⟨kk, hkj⟩ : ∃ k, rk[j]? = some k := ⟨_, List.getElem?_eq_getElem hj'⟩
    have hrk' := (hrk.jfr fr).ints
    obtain ⟨kb, kcp, ko, kz, hkvb, hkg, hkc⟩ := kid_at hrk' hkj
    obtain ⟨hkr, hk2⟩ := hkk kk (List.mem_of_getElem? hkj)
    obtain ⟨n, x, rfl, hnl, hx, hkd, hk3⟩ := root_kid g hkr
    have hka : kindAt l ((n : Nat) : Int) = x.kind := by rw [kindAt, Int.toNat_natCast, hx]; rfl
    have h3k : 0 < x.kids.length := hk3 (by rw [hka] at hk2; omega)
    have hKx := hK x (List.mem_of_getElem? hx)
    have hfew : (faceV l x n).length < 10000000 := by
      have := letC_le g hkr
      rw [Int.toNat_natCast] at this
      rw [faceV, List.length_append, List.length_map, List.length_take]
      omega
    have hdr : rk.drop j = ((n : Nat) : Int) :: rk.drop (j + 1) := by
      obtain ⟨hl, ht⟩ := List.getElem?_eq_some_iff.1 hkj
      rw [List.drop_eq_getElem_cons hl, ht]
    rw [hdr] at hfo
    have f69 : e' 69 = .slice (some ⟨kb, 0, none⟩) rk.length kcp := by rw [← hkvb, ← e69]; exact ((hfr 69 (by decide)).trans (by first | rfl | assumption | (symm; assumption)))
    have f1 : e' 1 = ptr bb 0 := (by rw [hfr 1 (by decide)]; try simp only [go_sem, seval, e1] <;> first | rfl | assumption | (symm; assumption))
    have hbb' := fr.zero _ _ lbb hbj hbb
    refine Wc_seq (Wc_ops (Wo_run (fun call => by simp only [go_sem, seval, hi, f69, idx_ok hj', hkg, hkc]; rfl) ?_))
    show Wc T _ _ _
    refine Wc_ops (Wo_pre 2 (fun call => by simp only [go_sem, seval, f1, hbb']; rfl) ?_)
    refine Wo_call ?_
    simp only [List.map_cons, List.map_nil, ev, upd, dstUpd, reduceIte, Nat.reduceEqDiff]
    refine (face_ok F g (by omega) (fun x hx => by have := hK x hx; omega) (by omega) (by omega) hx h3k hfew hj1).mono ?_
    rintro o h2 ⟨fr2, ho⟩
    have fr3 : JFr J.n0 jb h h2 := fr.trans (i1 ▸ fr2)
    have hrS : faceS l ((n : Nat) : Int) J'.er = (if numOf J'.fn x.text = 0 then .ok { J'.er with fn := J'.fn ++ [x.text], fns := J'.er.fns ++ [⟨x.text, x.kids.length - 1, undef, faceV l x n, n⟩] } else .error (x.pos, 80)) := by
      rw [faceS, Int.toNat_natCast, hx]; rfl
    split at ho
    case isFalse hz =>
      subst ho
      rw [if_neg hz] at hrS
      rw [foldS_err hrS] at hfo
      exact q2 _ _ _ hfo.symm fr3
    case isTrue hz =>
      rw [if_pos hz] at hrS
      obtain ⟨rfl, vv, hj2⟩ := ho
      rw [foldS_cons hrS] at hfo
      refine Wo_nil ⟨rfl, fr3, _, hj2, ?_, i1, i4, ?_, ?_, ?_⟩
      · rw [← hfo]
        simp only [JSt.er, List.map_append, List.map_cons, List.map_nil]
      · simp only [List.length_append, List.length_singleton]; omega
      · simp only [List.length_append, List.length_singleton]; omega
      · intro r hr
        rcases List.mem_append.1 hr with hr | hr
        · exact i7 r hr
        · rw [List.mem_singleton] at hr; subst hr
          exact ⟨x, hx, by show x.kids.length - 1 + 1 = x.kids.length; omega⟩
  · rintro e' h' d ⟨rfl, fr, J', hj1, hfo, i1, i4, i5, i6, i7⟩ hfr hi
    rw [List.drop_length, foldS] at hfo
    refine q1 _ _ J' ?_ hfo.symm i1 i4 (by omega) (by omega) i7 hj1 fr
    simp only [upd, reduceIte, Nat.reduceEqDiff]; exact ((hfr 1 (by decide)).trans (by first | rfl | assumption | (symm; assumption)))
theorem bodies_loop (F : CFns T) {jb bb : Nat} {l : List Nd} {J : JSt} (g : GoodT l) (hK : ∀ x ∈ l, x.kids.length ≤ 100000) {h : Heap} {e : Env} {v sv fv mv : Value} {a b c : Nat} (p : JRep jb l J h v sv fv mv a b c) (hbb : h.get bb = some (.cells [ptr jb 0] true 0)) (lbb : bb < h.next) (hfl : J.fns.length = J.fn.length) (hfn : J.fn.length ≤ 200) (hrow : ∀ r ∈ J.fns, RowOk l r)
    (e1 : e 1 = ptr bb 0) (e118 : e 118 = fv) (e119 : e 119 = .int .i64 J.fns.length) (e120 : e 120 = .int .i64 0) {Q : Ex → St → Prop}
    (q1 : ∀ e' h', e' 1 = e 1 → J.fns.findSome? (rowE l J) = none → Kept h h' → Q .normal ⟨e', h', some []⟩)
    (q2 : ∀ e' h' er, J.fns.findSome? (rowE l J) = some er → Kept h h' → Q (.pan (wrongC er)) ⟨e', h', some []⟩) :
    Wc T (.block 6 (.loop C15L3)) ⟨e, h, some []⟩ Q := by
  have hgl := g.len
  simp only [C15L3]
  refine Wc_range J.fns.length (fun j e' h' d => d = some [] ∧ Kept h h' ∧ (J.fns.drop j).findSome? (rowE l J) = J.fns.findSome? (rowE l J)) (by decide) e120 e119 (by omega) (by decide) ⟨rfl, .refl _, by rw [List.drop_zero]⟩ ?_ ?_
  · rintro j e' h' d hj' ⟨rfl, k, hfo⟩ hfr hi hn'
    obtain ⟨r, hr⟩ : ∃ r, J.fns[j]? = some r := ⟨_, List.getElem?_eq_getElem hj'⟩
    have hrm := List.mem_of_getElem? hr
    obtain ⟨x, hx, hpr⟩ := (hrow r hrm).ex
    have p' := p.keep k
    obtain ⟨fb, fc, hfv, _, hlt, hfg, hcc⟩ := p'.fns.load fnr_len hr
    have hdr : J.fns.drop j = r :: J.fns.drop (j + 1) := by
      obtain ⟨hl, ht⟩ := List.getElem?_eq_some_iff.1 hr
      rw [List.drop_eq_getElem_cons hl, ht]
    rw [hdr, List.findSome?_cons] at hfo
    have f118 : e' 118 = .slice (some ⟨fb, 0, none⟩) J.fns.length fc := by rw [← hfv, ← e118]; exact ((hfr 118 (by decide)).trans (by first | rfl | assumption | (symm; assumption)))
    have f1 : e' 1 = ptr bb 0 := (by rw [hfr 1 (by decide)]; try simp only [go_sem, seval, e1] <;> first | rfl | assumption | (symm; assumption))
    refine Wc_seq (Wc_ops (Wo_pre 3 (fun call => by simp only [go_sem, seval, hi, f118, idx_ok hj', hcc]; rfl) ?_))
    refine Wo_store_new (cs := r.cells) (h := h') (by first | rfl | assumption) (by first | rfl | assumption) rfl rfl fun h2 n2 => Wo_nil ?_
    show Wc T _ _ _
    have k2 := k.trans n2.kept
    have hbb' : h2.get bb = some (.cells [ptr jb 0] true 0) := by rw [k2.get _ lbb]; exact hbb
    have hg11 := n2.get
    have hc11 : h2.cells h'.next 0 4 = some r.cells := cells_all hg11 rfl
    refine Wc_ops (Wo_pre 2 (fun call => by simp only [go_sem, seval, f1, hbb', hc11]; rfl) ?_)
    refine Wo_call ?_
    simp only [List.map_cons, List.map_nil, ev, upd, dstUpd, reduceIte, Nat.reduceEqDiff]
    refine (body_ok' F.b F.body g hfl (by omega) (fun x hx => by have := hK x hx; omega) (by omega) hx hpr ⟨_, _, _, _, _, _, _, p.keep k2⟩ (((p.keep k2).vars r hrm).strs)).mono ?_
    rintro o h3 ⟨k3, rfl⟩
    have k13 := k2.trans k3
    have hre : rowE l J r = bodyE l J r.vars.length r.params x := by rw [rowE, hx]
    rw [← hre]
    cases hb : rowE l J r with
    | none =>
      rw [hb] at hfo
      exact Wo_nil ⟨rfl, k13, hfo⟩
    | some er =>
      rw [hb] at hfo
      exact q2 _ _ _ hfo.symm k13
  · rintro e' h' d ⟨rfl, k, hfo⟩ hfr hi
    rw [List.drop_length, List.findSome?_nil] at hfo
    refine q1 _ _ ?_ hfo.symm k
    simp only [upd, reduceIte, Nat.reduceEqDiff]; exact ((hfr 1 (by decide)).trans (by first | rfl | assumption | (symm; assumption)))
structure TwoL (m : Nat) (h : Heap) (v w : Value) (k n : List Int) : Prop where
  fst : ownI m h v k
  snd : ownI m h w n
  ne : ∀ p a c q b d, v = .slice (some p) a c → w = .slice (some q) b d → p.block ≠ q.block
theorem TwoL.swap {m : Nat} {h : Heap} {v w : Value} {k n : List Int} (t : TwoL m h v w k n) : TwoL m h w v n k := ⟨t.snd, t.fst, fun p a c q b d h1 h2 => (t.ne q b d p a c h2 h1).symm⟩
theorem TwoL.add {m : Nat} {h h1 : Heap} {v w : Value} {k n : List Int} (t : TwoL m h v w k n) (hm : m ≤ h.next) {x : Int} (n1 : New1 h h1 (.cells (ints64 [x]) true 1)) (hl : k.length < 9999999) :
    ∃ v' h2, appendV 1 8 v (.slice (some ⟨h.next, 0, none⟩) 1 1) h1 = some (v', h2) ∧ h.next ≤ h2.next ∧ (∀ b, b < m → h2.get b = h.get b) ∧ TwoL m h2 v' w (k ++ [x]) n := by
  have hn1 := n1.next
  have o1 : ownI m h1 v k := t.fst.keep n1.kept.next fun y _ hy => n1.kept.get y hy
  have o2 : ownI m h1 w n := t.snd.keep n1.kept.next fun y _ hy => n1.kept.get y hy
  have hel : elemsOf h1 1 (.slice (some ⟨h.next, 0, none⟩) 1 1) = some ([x].length, ints64 [x]) := intsAt.elems (l := [x]) (.inr ⟨h.next, 1, rfl, by omega, .inr ⟨true, 1, n1.get⟩⟩)
  obtain ⟨v', h2, ha, hb, ho, hw⟩ := append_own o1 (by omega) hel (by simp only [List.length_singleton]; omega)
  have hn2 := hb.next
  have low : ∀ b, b < m → h2.get b = h.get b := fun b hbm => by
    rw [hb.get b (by omega) ?_, n1.kept.get b (by omega)]
    intro p a c hv
    rcases o1 with ⟨_, e⟩ | ⟨z, q1, _, q3, _⟩
    · rw [e] at hv; cases hv
    · rw [q3] at hv; cases hv; simp only; omega
  refine ⟨v', h2, ha, by omega, low, ho, ?_, ?_⟩
  · rcases o2 with e | ⟨b, q1, q2, q3, q4⟩
    · exact .inl e
    · refine .inr ⟨b, q1, by omega, q3, ?_⟩
      rw [hb.get b q2 ?_]; exact q4
      intro p a c hv
      exact t.ne p a c _ _ _ hv q3
  · intro p a c q b d hv hq
    rcases hw p a c hv with e | e
    · rw [e] at hv; exact t.ne p a c q b d hv hq
    · rcases t.snd with ⟨_, e2⟩ | ⟨z, q1, q2, q3, _⟩
      · rw [e2] at hq; cases hq
      · rw [q3] at hq; cases hq; simp only; omega
theorem split_loop {jb bb : Nat} {l : List Nd} {J : JSt} (g : GoodT l) (hK : ∀ x ∈ l, x.kids.length ≤ 100000) {h : Heap} {e : Env} {v : Value} {x : Nd} (hx : l[l.length - 1]? = some x) (hj : Jud jb l J h) (hbb : h.get bb = some (.cells [ptr jb 0] true 0)) (lbb : bb < h.next)
    (e1 : e 1 = ptr bb 0) (e2 : e 2 = .slice none 0 0) (e3 : e 3 = .slice none 0 0) (e25 : e 25 = x.kv) (e26 : e 26 = .int .i64 x.kids.length) (e27 : e 27 = .int .i64 0) {Q : Ex → St → Prop}
    (q1 : ∀ e' h', e' 1 = e 1 → TwoL h.next h' (e' 2) (e' 3) ((rootKids l).filter fun k => kindAt l k == 2) ((rootKids l).filter fun k => !(kindAt l k == 2)) → Kept h h' → Q .normal ⟨e', h', some []⟩) :
    Wc T (.block 0 (.loop C15L0)) ⟨e, h, some []⟩ Q := by
  have hgl := g.len
  have hxm := List.mem_of_getElem? hx
  have hok := g.ok _ x hx
  have hKx := hK x hxm
  have hrk : rootKids l = x.kids := by rw [rootKids, hx]; rfl
  rw [hrk] at q1
  simp only [C15L0]
  refine Wc_range x.kids.length (fun j e' h' d => d = some [] ∧ Kept h h' ∧ TwoL h.next h' (e' 2) (e' 3) ((x.kids.take j).filter fun k => kindAt l k == 2) ((x.kids.take j).filter fun k => !(kindAt l k == 2))) (by decide) e27 e26 (by omega) (by decide) ⟨rfl, .refl _, by simp only [e2, e3]; exact ⟨.inl ⟨rfl, rfl⟩, .inl ⟨rfl, rfl⟩, fun p a c q b d h => by cases h⟩⟩ ?_ ?_
  · rintro j e' h' d hj' ⟨rfl, k, tw⟩ hfr hi hn'
    obtain ⟨kk, hkj⟩ : ∃ k, x.kids[j]? = some k := ⟨_, List.getElem?_eq_getElem hj'⟩
    obtain ⟨lv, sv, fv, mv, a, b, c, p⟩ := hj.keep k
    obtain ⟨kb, kcp, ko, kz, hkvb, hkg, hkc⟩ := kid_at (p.nodes.2 x hxm) hkj
    have hkr := hok.kids kk (List.mem_of_getElem? hkj)
    obtain ⟨n, rfl⟩ : ∃ m : Nat, kk = m := ⟨kk.toNat, by omega⟩
    have hnl : n < l.length := by omega
    obtain ⟨y, hy⟩ : ∃ y, l[n]? = some y := ⟨_, List.getElem?_eq_getElem hnl⟩
    obtain ⟨q, cp, o, z, hvb, hgb, hcell⟩ := p.node hy
    obtain ⟨f0, f1', f2, f3⟩ := flatN_at hy
    have hka : kindAt l ((n : Nat) : Int) = y.kind := by rw [kindAt, Int.toNat_natCast, hy]; rfl
    have htk : x.kids.take (j + 1) = x.kids.take j ++ [((n : Nat) : Int)] := by rw [List.take_add_one, hkj]; rfl
    have f25 : e' 25 = .slice (some ⟨kb, 0, none⟩) x.kids.length kcp := by rw [← hkvb, ← e25]; exact ((hfr 25 (by decide)).trans (by first | rfl | assumption | (symm; assumption)))
    have f1 : e' 1 = ptr bb 0 := (by rw [hfr 1 (by decide)]; try simp only [go_sem, seval, e1] <;> first | rfl | assumption | (symm; assumption))
    have hbb' : h'.get bb = some (.cells [ptr jb 0] true 0) := by rw [k.get _ lbb]; exact hbb
    have hlen1 : ((x.kids.take j).filter fun k => kindAt l k == 2).length ≤ j := by
      have := List.length_filter_le (fun k => kindAt l k == 2) (x.kids.take j)
      rw [List.length_take] at this; omega
    have hlen2 : ((x.kids.take j).filter fun k => !(kindAt l k == 2)).length ≤ j := by
      have := List.length_filter_le (fun k => !(kindAt l k == 2)) (x.kids.take j)
      rw [List.length_take] at this; omega
    refine Wc_seq (Wc_ops (Wo_run (fun call => by simp only [go_sem, seval, hi, f25, idx_ok hj', hkg, hkc]; rfl) ?_))
    show Wc T _ _ _
    refine Wc_seq (Wc_ops (Wo_run (fun call => by simp only [go_sem, seval, f1, hbb', p.get, hvb, idx_ok hnl, hgb, f0]; rfl) ?_))
    show Wc T _ _ _
    by_cases k2 : y.kind = 2
    · refine Wc_cond true (congrArg Value.bool (beq_iff_eq.2 k2)) (fun _ => ?_) (fun e => by cases e)
      refine Wc_ops (Wo_pre 2 (fun call => by simp only [go_sem, seval]; rfl) ?_)
      refine Wo_new (v := .slice (some ⟨h'.next, 0, none⟩) 1 1) (B := .cells (ints64 [((n : Nat) : Int)]) true 1) (by rfl) fun h1 n1 => ?_
      obtain ⟨v', h2, ha, hn2, low, tw2⟩ := tw.add k.next n1 (by omega)
      refine Wo_op (v := v') (h' := h2) (by simp only [iop, ev, upd, dstUpd, reduceIte, Nat.reduceEqDiff]; exact ha) ?_
      refine (Wo_run (fun call => by simp only [go_sem, seval]; rfl) ?_)
      refine ⟨rfl, ⟨Nat.le_trans k.next hn2, fun b hb => by rw [low b hb, k.get b hb]⟩, ?_⟩
      rw [htk, List.filter_append, List.filter_append]
      simp only [List.filter_cons, hka, k2, List.filter_nil, BEq.rfl, Bool.not_true, Bool.false_eq_true, if_true, if_false, List.append_nil, upd, dstUpd, reduceIte, Nat.reduceEqDiff]
      exact tw2
    · refine Wc_cond false (congrArg Value.bool (beq_eq_false_iff_ne.2 k2)) (fun e => by cases e) (fun _ => ?_)
      refine Wc_ops (Wo_pre 2 (fun call => by simp only [go_sem, seval]; rfl) ?_)
      refine Wo_new (v := .slice (some ⟨h'.next, 0, none⟩) 1 1) (B := .cells (ints64 [((n : Nat) : Int)]) true 1) (by rfl) fun h1 n1 => ?_
      obtain ⟨v', h2, ha, hn2, low, tw2⟩ := tw.swap.add k.next n1 (by omega)
      refine Wo_op (v := v') (h' := h2) (by simp only [iop, ev, upd, dstUpd, reduceIte, Nat.reduceEqDiff]; exact ha) ?_
      refine (Wo_run (fun call => by simp only [go_sem, seval]; rfl) ?_)
      refine ⟨rfl, ⟨Nat.le_trans k.next hn2, fun b hb => by rw [low b hb, k.get b hb]⟩, ?_⟩
      have hk2 : (y.kind == 2) = false := beq_eq_false_iff_ne.2 k2
      rw [htk, List.filter_append, List.filter_append]
      simp only [List.filter_cons, hka, hk2, List.filter_nil, Bool.not_false, Bool.false_eq_true, if_true, if_false, List.append_nil, upd, dstUpd, reduceIte, Nat.reduceEqDiff]
      exact tw2.swap
  · rintro e' h' d ⟨rfl, k, tw⟩ hfr hi
    rw [List.take_length] at tw
    refine q1 _ _ ?_ ?_ k
    · simp only [upd, reduceIte, Nat.reduceEqDiff]; exact ((hfr 1 (by decide)).trans (by first | rfl | assumption | (symm; assumption)))
    · simp only [upd, reduceIte, Nat.reduceEqDiff]; exact tw
end Go.Idl
end

section
namespace Go.Idl
variable {T : Tbl}
theorem iop_nameC {e : Env} {h : Heap} {m b : Nat} {l : List ByteArray} {s : ByteArray} (h1 : e m = .map (some b)) (h2 : h.get b = some (nmap l)) : iop (.lookup (.one .str) (.int .i64 0) false (.t m) (.c (.string s))) e h = some (.int .i64 (numOf l s), h) := by
  simp only [iop, ev, h1, h2, nmap, if_true, keyOf, fit1, find_nmap, numOf]
  cases idxOf l s 0 <;> rfl
theorem JRep.dead {jb : Nat} {l : List Nd} {J : JSt} {h : Heap} {v sv fv mv : Value} {a b c x : Nat} (p : JRep jb l J h v sv fv mv a b c) (hx : h.get x = some .dfr) (hn : J.n0 ≤ x) : JRep jb l J (h.set x .dead) v sv fv mv a b c := by
  have hk : ∀ y bk, h.get y = some bk → bk ≠ .dfr → (h.set x .dead).get y = some bk := fun y bk hy hne => by
    rw [set_get_ne' _ _ (fun e => by subst e; rw [hx] at hy; exact hne (Option.some.inj hy).symm)]; exact hy
  have e1 : ∀ w y cs, y < h.next → h.get y = some (.cells cs true w) → (h.set x .dead).get y = some (.cells cs true w) := fun w y cs _ hg => hk y _ hg (by intro h; cases h)
  exact ⟨p.lt, hk _ _ p.get (by intro h; cases h), base_low p.base (Nat.le_refl _) (fun y hy (hy0 : y < J.n0) => set_get_ne' _ _ (by omega)), hk _ _ p.ga (by intro h; cases h), hk _ _ p.gb (by intro h; cases h), hk _ _ p.gc (by intro h; cases h), p.la, p.lb, p.lc,
    p.srt.esz (Nat.le_refl _) (e1 2), p.fns.esz (Nat.le_refl _) (e1 4), p.mg.esz (Nat.le_refl _) (e1 1), fun y hy => (p.vars y hy).esz (Nat.le_refl _) (e1 1), fun y hy => (p.fields y hy).esz (Nat.le_refl _) (e1 1), p.ne, p.ge, p.mgn⟩
theorem JFr.dead {n0 jb x : Nat} {h h' : Heap} (f : JFr n0 jb h h') (hx : h.next ≤ x) : JFr n0 jb h (h'.set x .dead) :=
  ⟨f.next, fun b hb hb0 => by rw [set_get_ne' _ _ (by omega)]; exact f.old b hb hb0, fun b cs hb hg => by rw [set_get_ne' _ _ (by omega)]; exact f.one b cs hb hg, fun b cs hb hj hg => by rw [set_get_ne' _ _ (by omega)]; exact f.zero b cs hb hj hg⟩
theorem Lv_panic {fn : IFn} {s : St} {v : Value} {K : Out → Heap → Prop} (hd : s.d = some []) (hK : K (.pan v) s.h) : Lv T fn (some v) s K :=
  ⟨0, .pan v, s.h, by simp only [ileave, hd, idefer], hK⟩
structure AFns (T : Tbl) : Prop where
  c : CFns T
  all : T.fn 15 = some C15
  chk : ChkFns T
  walk : T.fn 29 = some C29
  walk1 : T.fn 48 = some C48
theorem mkWalk_ok' (hT : T.fn 29 = some C29) {h : Heap} {v : Value} (hv : cellsOf v = some [v]) : Wk T (.fn 29) [v] h (fun o h' => New1 h h' (.cells [v] true 0) ∧ o = .ret (.func (.func 48) #[] #[ptr h.next 0])) := by
  refine Wk_fn hT (by simp [C29]) ?_
  simp only [C29]
  refine Wc_seq (Wc_ops (Wo_box (cs := [v]) hv fun h1 n1 => (Wo_run (fun call => by simp only [go_sem, seval]; rfl) ?_)))
  show Wc T _ _ _
  refine Wc_seq (Wc_ops (Wo_run (fun call => by simp only [go_sem, seval, List.map_nil, List.map_cons]; rfl) ?_))
  exact Wc_ret ⟨.inr rfl, rfl, [.func (.func 48) #[] #[ptr h.next 0]], by simp only [resAll, resV, upd, dstUpd, reduceIte, Nat.reduceEqDiff]; rfl, n1, rfl⟩
def J0n (n0 : Nat) : JSt := ⟨n0, [], [], [], [], [], 0, []⟩
theorem J0n_er (n0 : Nat) : (J0n n0).er = J0 := rfl
def Once (l : List Nd) (told : List Int) : Prop := (∀ k : Nat, k < l.length → told.count (k : Int) = 1) ∧ ∀ k ∈ told, ∃ n : Nat, k = (n : Int) ∧ n < l.length
theorem Once.mg {l : List Nd} {told : List Int} (o : Once l told) : (mgOf l told).length = ((List.range l.length).filter fun k => kindAt l ((k : Nat) : Int) == 13).length := by
  have hp : told.Perm ((List.range l.length).map fun k : Nat => (k : Int)) := by
    refine List.perm_iff_count.2 fun a => ?_
    by_cases ha : ∃ n : Nat, a = n ∧ n < l.length
    · obtain ⟨n, rfl, hn⟩ := ha
      rw [o.1 n hn]
      have hnd : ((List.range l.length).map fun k : Nat => (k : Int)).Nodup := by
        rw [List.nodup_iff_pairwise_ne, List.pairwise_map]
        exact List.nodup_range.imp fun h e => h (by omega)
      rw [List.Nodup.count hnd, if_pos (List.mem_map.2 ⟨n, List.mem_range.2 hn, rfl⟩)]
    · rw [List.count_eq_zero.2 (fun h => ha (o.2 a h)), List.count_eq_zero.2 (fun h => ha ?_)]
      obtain ⟨n, hn, rfl⟩ := List.mem_map.1 h
      exact ⟨n, rfl, List.mem_range.1 hn⟩
  rw [mgOf, (hp.filter _).length_eq, List.filter_map, List.length_map]
  rfl
def AllPost (jb n0 : Nat) (l : List Nd) (h : Heap) (o : Out) (h' : Heap) : Prop := JFr n0 jb h h' ∧ match allS l with
  | .error er => o = .pan (wrongC er)
  | .ok Je => o = .ret (tup []) ∧ ∃ told J', Once l told ∧ Jud jb l J' h' ∧ J'.n0 = n0 ∧ J'.er = { Je with mg := mgOf l told }
theorem all_ok (F : AFns T) {jb n0 : Nat} {l : List Nd} (g : GoodT l) (hK : ∀ x ∈ l, x.kids.length ≤ 100000) (hS : ∀ x ∈ l, x.text.size < 4611686018427387904) {h : Heap} (hj : Jud jb l (J0n n0) h) :
    Wk T (.fn 15) [ptr jb 0] h (AllPost jb n0 l h) := by
  have hN := g.len
  have hne := g.ne
  obtain ⟨x, hx⟩ : ∃ x, l[l.length - 1]? = some x := ⟨_, List.getElem?_eq_getElem (by omega)⟩
  have hxm := List.mem_of_getElem? hx
  have hKx := hK x hxm
  refine Wk_fnL F.all (by simp [C15]) ?_
  simp only [C15]
  refine Wc_seq (Wc_ops (Wo_box (cs := [ptr jb 0]) (by rfl) fun h1 n1 => Wo_nil ?_))
  show Wc T _ _ _
  have hj1 := hj.keep n1.kept
  obtain ⟨lv, sv, fv, mv, a, b, c, p⟩ := id hj1
  have hbb := n1.get
  have lbb : h.next < h1.next := by rw [n1.next]; exact Nat.lt_succ_self _
  have hjlt : jb < h.next := by obtain ⟨_, _, _, _, _, _, _, q⟩ := hj; exact q.lt
  have hbj : h.next ≠ jb := by omega
  have fr1 := n1.kept.jfr n0 jb
  obtain ⟨q, cp, o, z, hvb, hgb, hcell⟩ := p.node hx
  obtain ⟨f0, f1, f2, f3⟩ := flatN_at hx
  obtain ⟨ka, kac, hkv⟩ := (p.nodes.2 x hxm).len
  have hw : IntKind.i64.wrap (((l.length : Nat) : Int) - 1) = ((l.length - 1 : Nat) : Int) := by rw [wrap64] <;> omega
  refine Wc_seq (Wc_ops (Wo_run (fun call => by simp only [go_sem, seval]; rfl) ?_))
  show Wc T _ _ _
  refine Wc_seq (Wc_seq (Wc_draw_still (by decide) ?_))
  have pj : ptr jb 0 = .pointer (some ⟨jb, 0, none⟩) := rfl
  refine (Wo_run (fun call => by simp only [go_sem, seval, hbb, p.get, hvb, hw, idx_ok (show l.length - 1 < l.length by omega), hgb, f2, hkv]; rfl) ?_)
  refine ⟨rfl, ?_⟩
  show Wc T _ _ _
  refine split_loop (v := lv) g hK hx hj1 hbb lbb (by first | rfl | assumption) (by first | rfl | assumption) (by first | rfl | assumption) (by rw [hkv]; exact (by first | rfl | assumption)) (by first | rfl | assumption) (by first | rfl | assumption) fun e' h2 e1 tw k2 => ?_
  replace e1 : e' 1 = ptr h.next 0 := e1
  show Wc T _ _ _
  have hsub1 : ((rootKids l).filter fun k => kindAt l k == 2).length ≤ 100000 := by
    have := List.length_filter_le (fun k => kindAt l k == 2) (rootKids l)
    have hrk : rootKids l = x.kids := by rw [rootKids, hx]; rfl
    rw [hrk] at this ⊢; omega
  have hsub2 : ((rootKids l).filter fun k => !(kindAt l k == 2)).length ≤ 100000 := by
    have := List.length_filter_le (fun k => !(kindAt l k == 2)) (rootKids l)
    have hrk : rootKids l = x.kids := by rw [rootKids, hx]; rfl
    rw [hrk] at this ⊢; omega
  have hm1 : ∀ k ∈ (rootKids l).filter fun k => kindAt l k == 2, ∃ n : Nat, k = n ∧ n < l.length := fun k hk => by
    obtain ⟨n, _, e, hn, _⟩ := root_kid g (List.mem_filter.1 hk).1
    exact ⟨n, e, hn⟩
  have hm2 : ∀ k ∈ (rootKids l).filter fun k => !(kindAt l k == 2), k ∈ rootKids l ∧ kindAt l k ≠ 2 := fun k hk => by
    obtain ⟨q1, q2⟩ := List.mem_filter.1 hk
    exact ⟨q1, by simpa using q2⟩
  have hall : allS l = if ((rootKids l).filter fun k => kindAt l k == 2).length ≤ 100 ∧ ((rootKids l).filter fun k => !(kindAt l k == 2)).length ≤ 200 then
    match foldS (recordS l) ((rootKids l).filter fun k => kindAt l k == 2) J0 with
    | .error e => .error e
    | .ok J1 => match foldS (faceS l) ((rootKids l).filter fun k => !(kindAt l k == 2)) J1 with
      | .error e => .error e
      | .ok J2 =>
        if 0 < numOf J2.fn mainB ∧ parN J2 (numOf J2.fn mainB - 1) = 0 then
          match J2.fns.findSome? (rowE l J2) with
          | some e => .error e
          | none => .ok { J2 with main := ((numOf J2.fn mainB : Nat) : Int) - 1 }
        else .error (0, 83)
  else .error (0, 2) := rfl
  generalize (rootKids l).filter (fun k => kindAt l k == 2) = rk at *
  generalize (rootKids l).filter (fun k => !(kindAt l k == 2)) = fk at *
  obtain ⟨ra, rc, hra⟩ := tw.fst.ints.len
  obtain ⟨fa, fc, hfa⟩ := tw.snd.ints.len
  have hj2 := hj1.keep k2
  have fr2 : JFr n0 jb h h2 := fr1.trans (k2.jfr _ _)
  have hbb2 : h2.get h.next = some (.cells [ptr jb 0] true 0) := by rw [k2.get _ lbb]; exact hbb
  have lbb2 : h.next < h2.next := Nat.lt_of_lt_of_le lbb k2.next
  have hb1 : decide (((rk.length : Nat) : Int) ≤ 100) = decide (rk.length ≤ 100) := by rw [decide_eq_decide]; omega
  have hb2 : decide (((fk.length : Nat) : Int) ≤ 200) = decide (fk.length ≤ 200) := by rw [decide_eq_decide]; omega
  have ph : posAt l (-1) = 0 := rfl
  refine Wc_mid (fun s => s.h = h2 ∧ s.d = some [] ∧ s.e 1 = e' 1 ∧ s.e 2 = e' 2 ∧ s.e 3 = e' 3 ∧ rk.length ≤ 100 ∧ fk.length ≤ 200) ?_ ?_
  · by_cases hr : rk.length ≤ 100
    · refine Wc_ops (Wo_pre 9 (fun call => by simp only [go_sem, seval, e1, hbb2, hra, hfa, hb1, hb2, decide_eq_true hr]; rfl) ?_)
      refine Wo_call ?_
      simp only [List.map_cons, List.map_nil, ev, upd, dstUpd, reduceIte, Nat.reduceEqDiff]
      refine (must_ok F.c.b.j.must (ok := decide (fk.length ≤ 200)) (n := -1) (e := 2) hj2 (by omega)).mono ?_
      rintro o h' ⟨rfl, rfl⟩
      by_cases hf : fk.length ≤ 200
      · rw [decide_eq_true hf]
        exact Wo_nil ⟨rfl, rfl, (by first | rfl | assumption), (by first | rfl | assumption), (by first | rfl | assumption), hr, hf⟩
      · rw [decide_eq_false hf]
        exact Lv_panic rfl ⟨fr2, by rw [hall, if_neg (by omega)]; rfl⟩
    · refine Wc_ops (Wo_pre 9 (fun call => by simp only [go_sem, seval, e1, hbb2, hra, hfa, hb1, hb2, decide_eq_false hr]; rfl) ?_)
      refine Wo_call ?_
      simp only [List.map_cons, List.map_nil, ev, upd, dstUpd, reduceIte, Nat.reduceEqDiff]
      refine (must_ok F.c.b.j.must (ok := false) (n := -1) (e := 2) hj2 (by omega)).mono ?_
      rintro o h' ⟨rfl, rfl⟩
      exact Lv_panic rfl ⟨fr2, by rw [hall, if_neg (by omega)]; rfl⟩
  rintro ⟨e3, h2', d'⟩ ⟨hh, hd, g1, g2, g3, hr, hf⟩
  simp only at hh hd g1 g2 g3
  subst hh hd
  rw [if_pos ⟨hr, hf⟩] at hall
  rw [e1] at g1
  show Wc T _ _ _
  refine Wc_seq (Wc_seq (Wc_ops (Wo_run (fun call => by simp only [go_sem, seval, g2, hra]; rfl) ?_)))
  show Wc T _ _ _
  refine recs_loop (v := e' 2) (m := h1.next) F.c g hK hj2 hbb2 lbb2 hbj tw.fst hm1 hr ⟨rfl, rfl, rfl⟩ (by simp only [go_sem, seval, g1] <;> first | rfl | assumption | (symm; assumption)) (by rw [hra]; exact (by first | rfl | assumption)) (by first | rfl | assumption) (by first | rfl | assumption) (fun e4 h3 J1 k1 k3 hfo i0 i1 i2 i3 hj3 fr3 => ?_) (fun e4 h3 er hfo fr3 => ?_)
  case refine_2 =>
    rw [J0n_er] at hfo
    rw [hfo] at hall
    exact Lv_panic rfl ⟨fr2.trans fr3, by rw [hall]⟩
  rw [J0n_er] at hfo
  rw [hfo] at hall
  simp only at hall
  replace k1 : e4 1 = ptr h.next 0 := k1.trans g1
  replace k3 : e4 3 = e' 3 := k3.trans g3
  replace i0 : J1.n0 = n0 := i0
  show Wc T _ _ _
  have fr13 := fr2.trans fr3
  have hbb3 : h3.get h.next = some (.cells [ptr jb 0] true 0) := fr3.zero _ _ lbb2 hbj hbb2
  have lbb3 : h.next < h3.next := Nat.lt_of_lt_of_le lbb2 fr3.next
  have tf3 := tw.snd.jfr fr3
  refine Wc_seq (Wc_seq (Wc_ops (Wo_run (fun call => by simp only [go_sem, seval, k3, hfa]; rfl) ?_)))
  show Wc T _ _ _
  refine faces_loop (v := e' 3) (m := h1.next) F.c g hK hj3 hbb3 lbb3 hbj tf3 hm2 hf ⟨i2, i1⟩ (by simp only [go_sem, seval, k1] <;> first | rfl | assumption | (symm; assumption)) (by rw [hfa]; exact (by first | rfl | assumption)) (by first | rfl | assumption) (by first | rfl | assumption) (fun e5 h4 J2 k1' hfo2 j0 j3 j4 j5 j6 hj4 fr4 => ?_) (fun e5 h4 er hfo2 fr4 => ?_)
  case refine_2 =>
    rw [hfo2] at hall
    rw [i0] at fr4
    exact Lv_panic rfl ⟨fr13.trans fr4, by rw [hall]⟩
  rw [hfo2] at hall
  simp only at hall
  replace k1' : e5 1 = ptr h.next 0 := k1'.trans k1
  rw [i0] at j0 fr4
  show Wc T _ _ _
  have fr14 := fr13.trans fr4
  have hbb4 : h4.get h.next = some (.cells [ptr jb 0] true 0) := fr4.zero _ _ lbb3 hbj hbb3
  have lbb4 : h.next < h4.next := Nat.lt_of_lt_of_le lbb3 fr4.next
  have hmg : J2.mg = [] := j3.trans i3
  obtain ⟨lv4, sv4, fv4, mv4, a4, b4, c4, p4⟩ := hj4
  have hnum := numOf_le J2.fn mainB
  have hw2 : IntKind.i64.wrap (((numOf J2.fn mainB : Nat) : Int) - 1) = ((numOf J2.fn mainB : Nat) : Int) - 1 := wrap64 (by omega) (by omega)
  refine Wc_seq (Wc_draw_still (by decide) ?_)
  refine (Wo_pre 5 (fun call => by simp only [go_sem, seval, k1', hbb4, p4.get]; rfl) ?_)
  refine Wo_op (iop_nameC (s := mainB) (by first | rfl | assumption) p4.gc) ?_
  refine (Wo_pre 4 (fun call => by simp only [go_sem, seval, hw2]; rfl) ?_)
  refine Wo_op (iop_store_at (k := 3) (v := .int .i64 (((numOf J2.fn mainB : Nat) : Int) - 1)) (by first | rfl | assumption) (by first | rfl | assumption) p4.get (by simp)) (Wo_nil ⟨rfl, ?_⟩)
  show Wc T _ _ _
  have p5 := p4.mgs (h' := h4.set jb (.cells [lv4, sv4, fv4, .int .i64 (((numOf J2.fn mainB : Nat) : Int) - 1), mv4, .map (some a4), .map (some b4), .map (some c4)] true 0)) (mv' := mv4) (L := J2.mg) (m := ((numOf J2.fn mainB : Nat) : Int) - 1) (Nat.le_refl _) (fun y hy hyj => set_get_ne' _ _ hyj) (set_get' _ _ _) (by rw [hmg]; exact .inl ⟨rfl, p4.mgn hmg⟩) (fun _ => p4.mgn hmg)
  have k5 : JFr n0 jb h4 (h4.set jb (.cells [lv4, sv4, fv4, .int .i64 (((numOf J2.fn mainB : Nat) : Int) - 1), mv4, .map (some a4), .map (some b4), .map (some c4)] true 0)) :=
    ⟨Nat.le_refl _, fun y _ hy => set_get_ne' _ _ (by have := p4.ge; omega), fun y cs _ hg => by rw [set_get_ne' _ _ (fun e => by subst e; rw [p4.get] at hg; simp at hg)]; exact hg, fun y cs _ hyj hg => by rw [set_get_ne' _ _ hyj]; exact hg⟩
  have hbb5 : (h4.set jb (.cells [lv4, sv4, fv4, .int .i64 (((numOf J2.fn mainB : Nat) : Int) - 1), mv4, .map (some a4), .map (some b4), .map (some c4)] true 0)).get h.next = some (.cells [ptr jb 0] true 0) := by rw [set_get_ne' _ _ hbj]; exact hbb4
  have n5 : (h4.set jb (.cells [lv4, sv4, fv4, .int .i64 (((numOf J2.fn mainB : Nat) : Int) - 1), mv4, .map (some a4), .map (some b4), .map (some c4)] true 0)).next = h4.next := rfl
  show Wc T _ ⟨_, h4.set jb (.cells [lv4, sv4, fv4, .int .i64 (((numOf J2.fn mainB : Nat) : Int) - 1), mv4, .map (some a4), .map (some b4), .map (some c4)] true 0), _⟩ _
  generalize h4.set jb (.cells [lv4, sv4, fv4, .int .i64 (((numOf J2.fn mainB : Nat) : Int) - 1), mv4, .map (some a4), .map (some b4), .map (some c4)] true 0) = h5 at p5 k5 hbb5 n5 ⊢
  have fr15 := fr14.trans k5
  have lbb5 : h.next < h5.next := by omega
  generalize hJ3 : ({ J2 with main := ((numOf J2.fn mainB : Nat) : Int) - 1, mg := J2.mg } : JSt) = J3 at p5
  have hj5 : Jud jb l J3 h5 := ⟨_, _, _, _, _, _, _, p5⟩
  have h3n : J3.n0 = n0 := by rw [← hJ3]; exact j0
  have h3f : J3.fns = J2.fns := by rw [← hJ3]
  have h3fn : J3.fn = J2.fn := by rw [← hJ3]
  have h3m : J3.mg = [] := by rw [← hJ3]; exact hmg
  have h3mn : J3.main = ((numOf J2.fn mainB : Nat) : Int) - 1 := by rw [← hJ3]
  have hg5 := p5.get
  rw [h3mn] at hg5
  have ef : J2.er.fn = J2.fn := rfl
  have ep : ∀ k, parN J2.er k = parN J2 k := fun k => (JEq.er J2).par k
  have er3 : J2.er.fns.findSome? (rowE l J2.er) = J3.fns.findSome? (rowE l J3) := by
    rw [h3f]
    show (J2.fns.map _).findSome? _ = _
    rw [List.findSome?_map]
    congr 1
    funext r
    have hq : JEq J2.er J3 := by
      rw [← hJ3]
      exact ⟨rfl, rfl, rfl, fun k => (JEq.er J2).par k⟩
    show rowE l J2.er _ = rowE l J3 r
    simp only [rowE]
    cases l[r.node]? with
    | none => rfl
    | some y => exact bodyE_eq hq l _ _ y
  rw [er3, ef, ep] at hall
  refine Wc_mid (fun s => s.h = h5 ∧ s.d = some [] ∧ s.e 1 = ptr h.next 0 ∧ mainQ J2) ?_ ?_
  · by_cases hm : 0 < numOf J2.fn mainB
    · have hM : ((numOf J2.fn mainB : Nat) : Int) - 1 = ((numOf J2.fn mainB - 1 : Nat) : Int) := by omega
      obtain ⟨r, hr'⟩ : ∃ r, J3.fns[numOf J2.fn mainB - 1]? = some r := ⟨_, List.getElem?_eq_getElem (by rw [h3f]; omega)⟩
      have hpar : parN J2 (numOf J2.fn mainB - 1) = r.params := by rw [parN, ← h3f, hr']; rfl
      have hMl : numOf J2.fn mainB - 1 < J3.fns.length := by rw [h3f]; omega
      obtain ⟨fb, fcc, hfv, _, hfg, hrow⟩ := p5.fns.cell fnr_len hr'
      have hc1 := hrow 1 (by decide)
      have hg5' := hg5
      rw [hM] at hg5'
      have hmq : mainQ J2 ↔ r.params = 0 := by rw [mainQ, hpar]; exact ⟨fun h => h.2, fun h => ⟨hm, h⟩⟩
      generalize hMM : numOf J2.fn mainB - 1 = M at hg5' hr' hMl hc1
      have hpos : (0 : Int) ≤ ((M : Nat) : Int) := by omega
      have hgt : ¬ ((M : Nat) : Int) < 0 := by omega
      have hc1' : (J3.fns.flatMap Fnr.cells)[M * 4 + 1]? = some (.int .i64 r.params) := hc1
      have hpe : (((r.params : Nat) : Int) == 0) = decide (r.params = 0) := by
        by_cases hp : r.params = 0
        · rw [hp]; rfl
        · rw [decide_eq_false hp]; exact beq_eq_false_iff_ne.2 (by omega)
      refine Wc_draw_end 24 rfl (by decide) ?_
      refine (Wo_pre 24 (fun call => by simp only [go_sem, seval, k1', hbb5, hg5', decide_eq_true hpos, hgt, hfv, idx_ok hMl, hfg, hc1', hpe]; rfl) ?_)
      refine Wo_nil ⟨rfl, ?_⟩
      refine Wo_call ?_
      simp only [List.map_cons, List.map_nil, ev, upd, dstUpd, reduceIte, Nat.reduceEqDiff]
      refine (must_ok F.c.b.j.must (ok := decide (r.params = 0)) (n := -1) (e := 83) hj5 (by omega)).mono ?_
      rintro o h' ⟨rfl, rfl⟩
      by_cases hp : r.params = 0
      · rw [decide_eq_true hp]
        exact Wo_nil ⟨rfl, rfl, (by simp only [go_sem, seval, k1'] <;> first | rfl | assumption | (symm; assumption)), hmq.2 hp⟩
      · rw [decide_eq_false hp]
        intro e
        exact Lv_panic rfl ⟨fr15, by rw [hall, if_neg (show ¬ (0 < numOf J2.fn mainB ∧ parN J2 (numOf J2.fn mainB - 1) = 0) from fun h => hp (hmq.1 h))]; rfl⟩
    · have hz : numOf J2.fn mainB = 0 := by omega
      refine Wc_draw_end 24 rfl (by decide) ?_
      have hneg : ¬ (0 : Int) ≤ ((numOf J2.fn mainB : Nat) : Int) - 1 := by omega
      refine (Wo_pre 24 (fun call => by simp only [go_sem, seval, k1', hbb5, hg5, decide_eq_false hneg]; rfl) ?_)
      refine Wo_nil ⟨rfl, ?_⟩
      refine Wo_call ?_
      simp only [List.map_cons, List.map_nil, ev, upd, dstUpd, reduceIte, Nat.reduceEqDiff]
      refine (must_ok F.c.b.j.must (ok := false) (n := -1) (e := 83) hj5 (by omega)).mono ?_
      rintro o h' ⟨rfl, rfl⟩
      intro e
      exact Lv_panic rfl ⟨fr15, by rw [hall, if_neg (by omega)]; rfl⟩
  rintro ⟨e6, h6, d6⟩ ⟨hh, hd, k6, hmq⟩
  simp only at hh hd k6
  subst hh hd
  rw [if_pos (show 0 < numOf J2.fn mainB ∧ parN J2 (numOf J2.fn mainB - 1) = 0 from hmq)] at hall
  show Wc T _ _ _
  obtain ⟨va, vc, hfl⟩ := p5.fns.len
  refine Wc_seq (Wc_seq (Wc_ops (Wo_run (fun call => by simp only [go_sem, seval, k6, hbb5, hg5, hfl]; rfl) ?_)))
  show Wc T _ _ _
  refine bodies_loop F.c g hK p5 hbb5 lbb5 (by rw [h3f, h3fn]; exact j4) (by rw [h3fn]; exact j5) (by rw [h3f]; exact j6) (by simp only [go_sem, seval, k6] <;> first | rfl | assumption | (symm; assumption)) (by rw [hfl]; exact (by first | rfl | assumption)) (by first | rfl | assumption) (by first | rfl | assumption) (fun e7 h7 k7 hno k57 => ?_) (fun e7 h7 er hso k57 => ?_)
  case refine_2 =>
    rw [hso] at hall
    exact Lv_panic rfl ⟨fr15.trans (k57.jfr _ _), by rw [hall]⟩
  rw [hno] at hall
  simp only at hall
  replace k7 : e7 1 = ptr h.next 0 := k7.trans k6
  have p7 := p5.keep k57
  have hbb7 : h7.get h.next = some (.cells [ptr jb 0] true 0) := by rw [k57.get _ lbb5]; exact hbb5
  have fr17 := fr15.trans (k57.jfr n0 jb)
  show Wc T _ _ _
  obtain ⟨na, nc, hlv⟩ := p7.nodes.len
  refine Wc_seq (Wc_ops (Wo_pre 4 (fun call => by simp only [go_sem, seval, k7, hbb7, p7.get]; rfl) ?_))
  refine Wo_call ((mkWalk_ok' F.walk (v := lv4) (by rw [hlv]; rfl)).mono ?_)
  rintro o h8 ⟨n8, rfl⟩
  refine Wo_nil ?_
  show Wc T _ _ _
  have p8 := p7.keep n8.kept
  have lbb7 : h.next < h7.next := Nat.lt_of_lt_of_le lbb5 k57.next
  have fr18 := fr17.trans (n8.kept.jfr n0 jb)
  have hj7 := p7.lt
  refine Wc_block ?_
  refine merges_loop F.chk F.walk1 g hN hK hS p8 h3m n8.get (by rw [n8.kept.get _ lbb7]; exact hbb7) (by rw [n8.next]; exact Nat.lt_succ_self _) (by rw [n8.next]; omega) (by omega) hbj (by simp only [go_sem, seval, k7] <;> first | rfl | assumption | (symm; assumption)) (by first | rfl | assumption) fun told Z hcnt hin hjZ frZ hdfr hge => ?_
  rw [h3n] at frZ hge
  have nZ := fr18.next
  refine Lv_mark rfl hdfr (by rfl) ⟨(fr18.trans frZ).dead nZ, ?_⟩
  rw [hall]
  obtain ⟨_, _, _, _, _, _, _, pZ⟩ := hjZ
  refine ⟨rfl, told, _, ⟨hcnt, hin⟩, ⟨_, _, _, _, _, _, _, pZ.dead hdfr (by show J3.n0 ≤ _; omega)⟩, h3n, ?_⟩
  rw [← hJ3]
  rfl
end Go.Idl
end

section
namespace Go.Idl
variable {T : Tbl}
def nil4 : List Value := [.slice none 0 0, .slice none 0 0, .int .i64 0, .slice none 0 0]
theorem deferC_none {args : List Value} {h : Heap} {Q : Ex → Option Value → St → Prop} (k : ∀ e, Q .normal none ⟨e, h, some []⟩) : WcD T C14.code none ⟨args0 args, h, some []⟩ Q := by
  simp only [C14]
  refine WcD_seq (WcD_rec rfl rfl ?_)
  show WcD T _ _ _ _
  refine WcD_seq (WcD_ops rfl (Wc_ops (Wo_run (fun call => by simp only [go_sem, seval]; rfl) ?_)))
  show WcD T _ _ _ _
  refine WcD_cond false (by simp [ev, upd, dstUpd]) (fun h => by cases h) (fun _ => WcD_skip (k _))
theorem deferC_some {h : Heap} {n k : Int} {a b c : Nat} {x : List Value} {y z : Value} {Q : Ex → Option Value → St → Prop} (ha : h.get a = some (.cells x true 0)) (hx : x.length = 4) (hb : h.get b = some (.cells [y] true 0)) (hc : h.get c = some (.cells [z] true 0)) (hab : a ≠ b) (hac : a ≠ c) (hbc : b ≠ c) (la : a < h.next) (lb : b < h.next) (lc : c < h.next)
    (q : ∀ e h', (∀ d, d < h.next → d ≠ a → d ≠ b → d ≠ c → h'.get d = h.get d) → h.next ≤ h'.next → h'.get a = some (.cells nil4 true 0) → h'.get b = some (.cells [.int .i64 n] true 0) → h'.get c = some (.cells [.int .i64 k] true 0) → Q .normal none ⟨e, h', some []⟩) :
    WcD T C14.code (some (wrongC (n, k))) ⟨args0 [ptr a 0, ptr b 0, ptr c 0], h, some []⟩ Q := by
  simp only [C14]
  refine WcD_seq (WcD_rec rfl rfl ?_)
  show WcD T _ _ _ _
  refine WcD_seq (WcD_ops rfl (Wc_ops (Wo_run (fun call => by simp only [go_sem, seval, wrongC]; rfl) ?_)))
  show WcD T _ _ _ _
  refine WcD_cond true (by simp [ev, upd, dstUpd]) (fun _ => ?_) (fun h => by cases h)
  refine WcD_seq (WcD_ops rfl (Wc_ops (Wo_pre 6 (fun call => by simp only [go_sem, seval]; rfl) ?_)))
  refine Wo_op (iop_store (b := h.next) (esz := 0) (cs := [.int .i64 n, .int .i64 k]) (z := [.int .i64 0, .int .i64 0]) (by simp only [upd, dstUpd, reduceIte, Nat.reduceEqDiff, ptr]) (by simp only [upd, dstUpd, reduceIte, Nat.reduceEqDiff]) rfl (new_get' _ _) rfl) ?_
  have hg0 : ∀ d, d < h.next → ((h.new (.cells [.int .i64 0, .int .i64 0] true 0)).set h.next (.cells [.int .i64 n, .int .i64 k] true 0)).get d = h.get d := by
    intro d hd
    rw [set_get_ne' _ _ (by omega), new_get_ne' _ _ (by omega)]
  have hn0 : ((h.new (.cells [.int .i64 0, .int .i64 0] true 0)).set h.next (.cells [.int .i64 n, .int .i64 k] true 0)).next = h.next + 1 := rfl
  have hgm : ((h.new (.cells [.int .i64 0, .int .i64 0] true 0)).set h.next (.cells [.int .i64 n, .int .i64 k] true 0)).get h.next = some (.cells [.int .i64 n, .int .i64 k] true 0) := set_get' _ _ _
  generalize (h.new (.cells [.int .i64 0, .int .i64 0] true 0)).set h.next (.cells [.int .i64 n, .int .i64 k] true 0) = h1 at hg0 hn0 hgm ⊢
  refine (Wo_run (fun call => by simp only [go_sem, seval]; rfl) ?_)
  show WcD T _ _ _ _
  refine WcD_seq (WcD_seq (WcD_ops rfl (Wc_ops (Wo_run (fun call => by simp only [go_sem, seval]; rfl) ?_))))
  show WcD T _ _ _ _
  refine WcD_cond false (by simp [ev, upd, dstUpd]) (fun h => by cases h) (fun _ => WcD_skip ?_)
  show WcD T _ _ _ _
  refine WcD_draw (Wc_draw ?_)
  refine Wd_P rfl (v := .agg nil4.toArray) (h' := h1) (by rfl) ?_
  refine Wd_P rfl (by simp only [iop, ev, upd, dstUpd, ptr, Nat.reduceEqDiff, reduceIte]; rfl) ?_
  refine Wd_R rfl (v := .int .i64 n) (h' := h1) (by simp only [iop, ev, upd, dstUpd, ptr, Nat.reduceEqDiff, reduceIte, Heap.cell, hgm]; rfl) (by intro p hp; cases hp) ?_
  refine Wd_P rfl (by simp only [iop, ev, upd, dstUpd, ptr, Nat.reduceEqDiff, reduceIte]; rfl) ?_
  refine Wd_R rfl (v := .int .i64 k) (h' := h1) (by simp only [iop, ev, upd, dstUpd, ptr, Nat.reduceEqDiff, reduceIte, Heap.cell, hgm]; rfl) (by intro p hp; cases hp) ?_
  have hL1 : ∀ e : Env, e 18 = ptr h.next 0 → locOp (.load none (.t 18)) e = .cells h.next 0 1 := fun e he => by simp only [locOp, ev, he, ptr]
  have hL2 : ∀ e : Env, e 20 = ptr h.next 1 → locOp (.load none (.t 20)) e = .cells h.next 1 1 := fun e he => by simp only [locOp, ev, he, ptr]
  rw [hL1 _ (by simp only [upd, dstUpd, reduceIte, Nat.reduceEqDiff, ptr]), hL2 _ (by simp only [upd, dstUpd, reduceIte, Nat.reduceEqDiff, ptr])]
  have side : ∀ (hh : Heap) (d i : Nat) (bk : Blk), d < h.next → ∀ p ∈ [(4, Loc.cells h.next 1 1), (2, Loc.cells h.next 0 1)], p.1 ∈ ([[], [], [1], [], [3], [0], [5, 0, 2, 1], [6, 5, 0, 2, 1, 4, 3]] : List (List Nat)).getD i [] ∨ sameAt hh (hh.set d bk) p.2 := by
    intro hh d i bk hd p hp
    rcases List.mem_cons.1 hp with rfl | hp
    · exact .inr (sameAt_cells (by omega))
    · rw [List.mem_singleton] at hp; subst hp; exact .inr (sameAt_cells (by omega))
  refine Wd_E rfl (iop_store (b := a) (esz := 0) (cs := nil4) (z := x) (by simp only [upd, dstUpd, reduceIte, Nat.reduceEqDiff, args0]; rfl) (by simp only [upd, dstUpd, reduceIte, Nat.reduceEqDiff]) rfl (by rw [hg0 _ la]; exact ha) hx) (side _ _ 5 _ la) ?_
  refine Wd_E rfl (iop_store1 (b := b) (esz := 0) (v := .int .i64 n) (x := y) (by simp only [upd, dstUpd, reduceIte, Nat.reduceEqDiff, args0]; rfl) (by simp only [upd, dstUpd, reduceIte, Nat.reduceEqDiff, ev, cellsOf]) (by rw [set_get_ne' _ _ hab.symm, hg0 _ lb]; exact hb)) (side _ _ 6 _ lb) ?_
  refine Wd_E rfl (iop_store1 (b := c) (esz := 0) (v := .int .i64 k) (x := z) (by simp only [upd, dstUpd, reduceIte, Nat.reduceEqDiff, args0]; rfl) (by simp only [upd, dstUpd, reduceIte, Nat.reduceEqDiff, ev, cellsOf]) (by rw [set_get_ne' _ _ hbc.symm, set_get_ne' _ _ hac.symm, hg0 _ lc]; exact hc)) (side _ _ 7 _ lc) ?_
  refine Wd_nil ?_
  refine q _ _ (fun d hd d1 d2 d3 => ?_) ?_ ?_ ?_ ?_
  · rw [set_get_ne' _ _ d3, set_get_ne' _ _ d2, set_get_ne' _ _ d1, hg0 _ hd]
  · show h.next ≤ h1.next; omega
  · rw [set_get_ne' _ _ hac, set_get_ne' _ _ hab, set_get']
  · rw [set_get_ne' _ _ hbc, set_get']
  · rw [set_get']
def dAt (n0 : Nat) (h : Heap) (v : Value) (J : JSt) : Prop := ∃ sv fv mv, v = .agg #[sv, fv, .int .i64 J.main, mv] ∧ ownL Srt.cells 2 n0 h sv J.srt ∧ ownL Fnr.cells 4 n0 h fv J.fns ∧ ownI n0 h mv J.mg ∧ (∀ x ∈ J.fns, ownL strC 1 n0 h x.vv x.vars) ∧ ∀ x ∈ J.srt, ownL strC 1 n0 h x.fv x.fields
def ChkPost (l : List Nd) (h : Heap) (o : Out) (h' : Heap) : Prop := Kept h h' ∧ match allS l with
  | .error (a, er) => o = .ret (.tuple #[.agg nil4.toArray, .int .i64 a, .int .i64 er])
  | .ok Je => ∃ dv told J', o = .ret (.tuple #[dv, .int .i64 0, .int .i64 0]) ∧ Once l told ∧ dAt h.next h' dv J' ∧ J'.er = { Je with mg := mgOf l told }
structure PFns (T : Tbl) : Prop where
  a : AFns T
  prog : T.fn 10 = some C10
  prog1 : T.fn 14 = some C14
theorem checkProgram_ok (F : PFns T) {l : List Nd} (g : GoodT l) (hK : ∀ x ∈ l, x.kids.length ≤ 100000) (hS : ∀ x ∈ l, x.text.size < 4611686018427387904) {h : Heap} {v : Value} (hn : nodesAt h v l) (hkz : ∀ x ∈ l, kzAt h x.kv) :
    Wk T (.fn 10) [v] h (ChkPost l h) := by
  obtain ⟨va, vc, hvl⟩ := hn.len
  refine Wk_fnL F.prog (by simp [C10]) ?_
  simp only [C10]
  refine Wc_seq (Wc_ops (Wo_alloc fun h1 n1 => Wo_alloc fun h2 n2 => Wo_alloc fun h3 n3 => Wo_nil ?_))
  show Wc T _ _ _
  have k3 := (n1.kept.trans n2.kept).trans n3.kept
  have b1 : h1.next = h.next + 1 := n1.next
  have b2 : h2.next = h.next + 2 := by rw [n2.next, b1]
  have b3 : h3.next = h.next + 3 := by rw [n3.next, b2]
  have ga : h3.get h.next = some (.cells nil4 true 0) := by rw [n3.kept.get _ (by omega), n2.kept.get _ (by omega)]; exact n1.get
  have gb : h3.get h1.next = some (.cells [.int .i64 0] true 0) := by rw [n3.kept.get _ (by omega)]; exact n2.get
  have gc : h3.get h2.next = some (.cells [.int .i64 0] true 0) := n3.get
  refine Wc_seq (Wc_seq (Wc_ops (Wo_pre 1 (fun call => by simp only [go_sem, seval]; rfl) ?_)))
  refine Wo_call (Wk_kept (check_ok F.a.chk (hn.keep k3) g.len hK hS g) fun h4 k4 => ?_)
  refine (Wo_run (fun call => by simp only [go_sem, seval]; rfl) ?_)
  show Wc T _ _ _
  refine Wc_seq (Wc_ops (Wo_run (fun call => by simp only [go_sem, seval, bne]; rfl) ?_))
  show Wc T _ _ _
  refine Wc_cond false (by first | rfl | assumption) (fun e => by cases e) (fun _ => Wc_skip ?_)
  show Wc T _ _ _
  refine Wc_seq (Wc_ops (Wo_op rfl (Wo_defer (f := 14) (vs := [ptr h.next 0, ptr h1.next 0, ptr h2.next 0]) (by simp only [ev, upd, dstUpd, reduceIte, Nat.reduceEqDiff, List.map_cons, List.map_nil]; rfl) (Wo_nil ?_))))
  show Wc T _ _ _
  have b4 := k4.next
  have k04 := k3.trans k4
  refine Wc_seq (Wc_ops (Wo_pre 1 (fun call => by simp only [go_sem, seval]; rfl) ?_))
  refine Wo_new (v := .map (some h4.next)) (B := nmap []) (by rfl) fun h5 n5 => ?_
  refine Wo_new (v := .map (some h5.next)) (B := nmap []) (by rfl) fun h6 n6 => ?_
  refine Wo_new (v := .map (some h6.next)) (B := nmap []) (by rfl) fun h7 n7 => ?_
  have b5 := n5.next
  have b6 := n6.next
  have b7 := n7.next
  refine Wo_op (v := .agg #[v, .slice none 0 0, .slice none 0 0, .int .i64 0, .slice none 0 0, .map (some h4.next), .map (some h5.next), .map (some h6.next)]) (h' := h7) (by rw [hvl]; rfl) ?_
  refine Wo_box (cs := [v, .slice none 0 0, .slice none 0 0, .int .i64 0, .slice none 0 0, .map (some h4.next), .map (some h5.next), .map (some h6.next)]) (by rfl) fun h8 n8 => ?_
  refine (Wo_run (fun call => by simp only [go_sem, seval]; rfl) ?_)
  show Wc T _ _ _
  have b8 := n8.next
  have k08 := (((k04.trans n5.kept).trans n6.kept).trans n7.kept).trans n8.kept
  have k38 := (((k4.trans n5.kept).trans n6.kept).trans n7.kept).trans n8.kept
  have rep : JRep h7.next l (J0n h.next) h8 v (.slice none 0 0) (.slice none 0 0) (.slice none 0 0) h4.next h5.next h6.next := by
    refine ⟨by omega, n8.get, ⟨h, Nat.le_refl _, hn, hkz, k08⟩, ?_, ?_, ?_, by omega, by omega, by omega, .inl ⟨rfl, rfl⟩, .inl ⟨rfl, rfl⟩, .inl ⟨rfl, rfl⟩, fun x hx => (by cases hx), fun x hx => (by cases hx), ⟨by omega, by omega, by omega⟩, ?_, fun _ => rfl⟩
    · rw [n8.kept.get _ (by omega), n7.kept.get _ (by omega), n6.kept.get _ (by omega)]; exact n5.get
    · rw [n8.kept.get _ (by omega), n7.kept.get _ (by omega)]; exact n6.get
    · rw [n8.kept.get _ (by omega)]; exact n7.get
    · show h.next ≤ _ ∧ h.next ≤ _ ∧ h.next ≤ _ ∧ h.next ≤ _; omega
  have ga8 : h8.get h.next = some (.cells nil4 true 0) := by rw [k38.get _ (by omega)]; exact ga
  have gb8 : h8.get h1.next = some (.cells [.int .i64 0] true 0) := by rw [k38.get _ (by omega)]; exact gb
  have gc8 : h8.get h2.next = some (.cells [.int .i64 0] true 0) := by rw [k38.get _ (by omega)]; exact gc
  refine Wc_seq (Wc_ops (Wo_pre 1 (fun call => by simp only [go_sem, seval]; rfl) ?_))
  refine Wo_call ((all_ok F.a (jb := h7.next) (n0 := h.next) g hK hS ⟨_, _, _, _, _, _, _, rep⟩).mono ?_)
  rintro o h9 ⟨fr, ho⟩
  have b9 := fr.next
  have ga9 := fr.zero _ _ (by omega) (by omega) ga8
  have gb9 := fr.zero _ _ (by omega) (by omega) gb8
  have gc9 := fr.zero _ _ (by omega) (by omega) gc8
  have k09 : Kept h h9 := ⟨by have := k08.next; omega, fun b hb => by rw [fr.old b (by omega) hb, k08.get b hb]⟩
  cases hA : allS l with
  | error er =>
    obtain ⟨a, er⟩ := er
    rw [hA] at ho
    simp only at ho
    subst ho
    show Lv T _ (some _) _ _
    refine Lv_one (g := 14) (args := [ptr h.next 0, ptr h1.next 0, ptr h2.next 0]) rfl F.prog1 (by simp [C14]) (deferC_some (n := a) (k := er) ga9 rfl gb9 gc9 (by omega) (by omega) (by omega) (by show _ < h9.next; omega) (by show _ < h9.next; omega) (by show _ < h9.next; omega) fun e h10 hsame hn10 q1 q2 q3 => ?_)
    refine ⟨.inl rfl, rfl, ⟨[], rfl⟩, [.agg nil4.toArray, .int .i64 a, .int .i64 er], ?_, ?_⟩
    · simp only [resAllP, resVP, resV, upd, dstUpd, Nat.reduceEqDiff, reduceIte, ptr, Heap.cell, Heap.cells, q1, q2, q3, nil4]
      rfl
    · refine ⟨⟨Nat.le_trans k09.next hn10, fun b hb => by rw [hsame b (by show b < h9.next; omega) (by omega) (by omega) (by omega)]; exact k09.get b hb⟩, ?_⟩
      rw [hA]; rfl
  | ok Je =>
    rw [hA] at ho
    obtain ⟨rfl, told, J', hcnt, ⟨lv, sv, fv, mv, a, b, c, p⟩, hn0, her⟩ := ho
    refine Wo_nil ?_
    show Wc T _ _ _
    have lj := p.lt
    have hcc : h9.cells h7.next 1 4 = some [sv, fv, .int .i64 J'.main, mv] := by
      simp only [Heap.cells, p.get]; rfl
    refine Wc_seq (Wc_ops (Wo_pre 4 (fun call => by simp only [go_sem, seval, hcc]; rfl) ?_))
    refine Wo_op (iop_store (b := h.next) (esz := 0) (cs := [sv, fv, .int .i64 J'.main, mv]) (z := nil4) (by simp only [upd, dstUpd, reduceIte, Nat.reduceEqDiff]; rfl) (by simp only [upd, dstUpd, reduceIte, Nat.reduceEqDiff]) rfl ga9 rfl) ?_
    refine Wo_op (iop_store1 (b := h1.next) (esz := 0) (v := .int .i64 0) (x := .int .i64 0) (by simp only [upd, dstUpd, reduceIte, Nat.reduceEqDiff]; rfl) rfl (by rw [set_get_ne' _ _ (by omega)]; exact gb9)) ?_
    refine Wo_op (iop_store1 (b := h2.next) (esz := 0) (v := .int .i64 0) (x := .int .i64 0) (by simp only [upd, dstUpd, reduceIte, Nat.reduceEqDiff]; rfl) rfl (by rw [set_get_ne' _ _ (by omega), set_get_ne' _ _ (by omega)]; exact gc9)) (Wo_nil ?_)
    show Wc T _ _ _
    have q1 : (((h9.set h.next (.cells [sv, fv, .int .i64 J'.main, mv] true 0)).set h1.next (.cells [.int .i64 0] true 0)).set h2.next (.cells [.int .i64 0] true 0)).get h.next = some (.cells [sv, fv, .int .i64 J'.main, mv] true 0) := by rw [set_get_ne' _ _ (by omega), set_get_ne' _ _ (by omega), set_get']
    have q2 : (((h9.set h.next (.cells [sv, fv, .int .i64 J'.main, mv] true 0)).set h1.next (.cells [.int .i64 0] true 0)).set h2.next (.cells [.int .i64 0] true 0)).get h1.next = some (.cells [.int .i64 0] true 0) := by rw [set_get_ne' _ _ (by omega), set_get']
    have q3 : (((h9.set h.next (.cells [sv, fv, .int .i64 J'.main, mv] true 0)).set h1.next (.cells [.int .i64 0] true 0)).set h2.next (.cells [.int .i64 0] true 0)).get h2.next = some (.cells [.int .i64 0] true 0) := by rw [set_get']
    have k10 : Kept h (((h9.set h.next (.cells [sv, fv, .int .i64 J'.main, mv] true 0)).set h1.next (.cells [.int .i64 0] true 0)).set h2.next (.cells [.int .i64 0] true 0)) := ((k09.set (Nat.le_refl _) _).set (by omega) _).set (by omega) _
    have hoth : ∀ (w : Nat) (b : Nat) (cs : List Value), w ≠ 0 → b < h9.next → h9.get b = some (.cells cs true w) → (((h9.set h.next (.cells [sv, fv, .int .i64 J'.main, mv] true 0)).set h1.next (.cells [.int .i64 0] true 0)).set h2.next (.cells [.int .i64 0] true 0)).get b = some (.cells cs true w) := fun w b cs hw _ hb => by
      have ne : ∀ c cs', h9.get c = some (.cells cs' true 0) → b ≠ c := fun c cs' hc e => by
        subst e; rw [hb] at hc; simp only [Option.some.injEq, Blk.cells.injEq] at hc; exact hw hc.2.2
      rw [set_get_ne' _ _ (ne _ _ gc9), set_get_ne' _ _ (ne _ _ gb9), set_get_ne' _ _ (ne _ _ ga9)]; exact hb
    have hnx : (((h9.set h.next (.cells [sv, fv, .int .i64 J'.main, mv] true 0)).set h1.next (.cells [.int .i64 0] true 0)).set h2.next (.cells [.int .i64 0] true 0)).next = h9.next := rfl
    refine Wc_ret ?_
    show Lv T _ none ⟨_, (((h9.set h.next (.cells [sv, fv, .int .i64 J'.main, mv] true 0)).set h1.next (.cells [.int .i64 0] true 0)).set h2.next (.cells [.int .i64 0] true 0)), _⟩ _
    generalize ((h9.set h.next (.cells [sv, fv, .int .i64 J'.main, mv] true 0)).set h1.next (.cells [.int .i64 0] true 0)).set h2.next (.cells [.int .i64 0] true 0) = h10 at q1 q2 q3 k10 hoth hnx ⊢
    have hle : h9.next ≤ h10.next := Nat.le_of_eq hnx.symm
    refine Lv_one (g := 14) (args := [ptr h.next 0, ptr h1.next 0, ptr h2.next 0]) rfl F.prog1 (by simp [C14]) (deferC_none fun e => ?_)
    refine ⟨.inl rfl, rfl, ⟨[], rfl⟩, [.agg #[sv, fv, .int .i64 J'.main, mv], .int .i64 0, .int .i64 0], ?_, k10, ?_⟩
    · simp only [resAll, resV, upd, dstUpd, Nat.reduceEqDiff, reduceIte, ptr, Heap.cell, Heap.cells, q1, q2, q3]
      rfl
    rw [hA]
    refine ⟨_, told, J', rfl, hcnt, ⟨sv, fv, mv, rfl, ?_, ?_, ?_, ?_, ?_⟩, her⟩
    · rw [← hn0]; exact p.srt.esz hle (fun b cs hb hg => hoth 2 b cs (by decide) hb hg)
    · rw [← hn0]; exact p.fns.esz hle (fun b cs hb hg => hoth 4 b cs (by decide) hb hg)
    · rw [← hn0]; exact p.mg.esz hle (fun b cs hb hg => hoth 1 b cs (by decide) hb hg)
    · rw [← hn0]; exact fun x hx => (p.vars x hx).esz hle (fun b cs hb hg => hoth 1 b cs (by decide) hb hg)
    · rw [← hn0]; exact fun x hx => (p.fields x hx).esz hle (fun b cs hb hg => hoth 1 b cs (by decide) hb hg)
end Go.Idl
end
