/- CheckFields: for every description's names and every field's name the law's call answers true and leaves its arguments as they were; the package-level tables that strconv.FormatInt reads are tied to the program's text. -/
import Derived.Test.YtbngfhkhdilfdaaGreatDoorG14
import Derived.Test.YtbngfhkhdilfdaaGreatDoorFlex
import Derived.Test.YtbngfhkhdilfdaaGreatDoorP36
import Derived.Shelf.LaysM
import Derived.Shelf.Strings.Search1
import Derived.Shelf.Strings.Search2
import Derived.Shelf.Strings.Search3
import Derived.Shelf.Strings.Shaped
import Derived.Shelf.Strconv.Itoa4
import Derived.Test.YtbngfhkhdilfdaaGreatDoorProg
import Derived.Test.YtbngfhkhdilfdaaGreatDoorChecked
import Derived.KernelRfl
import Derived.Test.YtbngfhkhdilfdaaGreatDoorCards
import Derived.Test.YtbngfhkhdilfdaaGreatDoorTie
import Derived.WalkKit
import Derived.ProofKit
import Derived.OpenShut
import Derived.Deep.DeepHandedRow
import Derived.Lib.LaidTab
import Derived.Stop.LaidErr
set_option linter.unusedVariables false
set_option linter.unusedSimpArgs false
set_option maxRecDepth 100000
section
namespace Go.Idl
variable {T : Tbl}
theorem iop_nameC {e : Env} {h : Heap} {m b : Nat} {l : List ByteArray} {s : ByteArray} (h1 : e m = .map (some b)) (h2 : h.get b = some (nmap l)) : iop (.lookup (.one .str) (.int .i64 0) false (.t m) (.c (.string s))) e h = some (.int .i64 (numOf l s), h) := by
 simp only [iop, ev, h1, h2, nmap, if_true, keyOf, fit1, find_nmap, numOf]
 cases idxOf l s 0 <;> rfl
theorem JRep.dead {jb : Nat} {l : List Nd} {J : JSt} {h : Heap} {v sv fv mv : Value} {a b c x : Nat} (p : JRep jb l J h v sv fv mv a b c) (hx : h.get x = some .dfr) (hn : J.n0 ≤ x) : JRep jb l J (h.set x .dead) v sv fv mv a b c := by
 have hk : ∀ y bk, h.get y = some bk → bk ≠ .dfr → (h.set x .dead).get y = some bk := fun y bk hy hne => by
  rw [set_get_ne' _ _ (fun e => by subst e; rw [hx] at hy; exact hne (Option.some.inj hy).symm)]; exact hy
 have e1 : ∀ w y cs, y < h.next → h.get y = some (.cells cs true w) → (h.set x .dead).get y = some (.cells cs true w) := fun w y cs _ hg => hk y _ hg (by intro h; cases h)
 exact ⟨p.lt, hk _ _ p.get (by intro h; cases h), base_low p.base (Nat.le_refl _) (fun y hy (hy0 : y < J.n0) => set_get_ne' _ _ (by omega)), hk _ _ p.ga (by intro h; cases h), hk _ _ p.gb (by intro h; cases h), hk _ _ p.gc (by intro h; cases h), p.la, p.lb, p.lc,
  p.srt.esz (Nat.le_refl _) (e1 2), p.fns.esz (Nat.le_refl _) (e1 4), p.mg.esz (Nat.le_refl _) (e1 1), fun y hy => (p.vars y hy).esz (Nat.le_refl _) (e1 1), fun y hy => (p.fields y hy).esz (Nat.le_refl _) (e1 1), p.ne, p.ge, p.mgn⟩
theorem JFr.dead {n0 jb x : Nat} {h h' : Heap} (f : JFr n0 jb h h') (hx : h.next ≤ x) : JFr n0 jb h (h'.set x .dead) :=
 ⟨f.next, fun b hb hb0 => by rw [set_get_ne' _ _ (by omega)]; exact f.old b hb hb0, fun b cs hb hg => by rw [set_get_ne' _ _ (by omega)]; exact f.one b cs hb hg, fun b cs hb hj hg => by rw [set_get_ne' _ _ (by omega)]; exact f.zero b cs hb hj hg⟩
theorem Lv_panic {fn : IFn} {s : St} {v : Value} {K : Out → Heap → Prop} (hd : s.d = some []) (hK : K (.pan v) s.h) : Lv T fn (some v) s K :=
 ⟨0, .pan v, s.h, by simp only [ileave, hd, idefer], hK⟩
structure AFns (T : Tbl) : Prop where
 c : CFns T
 all : T.fn 15 = some C15
 chk : ChkFns T
 walk : T.fn 29 = some C29
 walk1 : T.fn 48 = some C48
theorem mkWalk_ok' (hT : T.fn 29 = some C29) {h : Heap} {v : Value} (hv : cellsOf v = some [v]) : Wk T (.fn 29) [v] h (fun o h' => New1 h h' (.cells [v] true 0) ∧ o = .ret (.func (.func 48) #[] #[ptr h.next 0])) := by
 refine Wk_fn hT (by simp [C29]) ?_
 simp only [C29]
 refine Wc_seq (Wc_ops (Wo_box (cs := [v]) hv fun h1 n1 => (Wo_run (fun _ => by simp only [go_sem, seval]; rfl) ?_)))
 show Wc T _ _ _
 refine Wc_seq (Wc_ops (Wo_run (fun _ => by simp only [go_sem, seval, List.map_nil, List.map_cons]; rfl) ?_))
 exact Wc_ret ⟨.inr rfl, rfl, [.func (.func 48) #[] #[ptr h.next 0]], by simp only [resAll, resV, upd, dstUpd, reduceIte, Nat.reduceEqDiff]; rfl, n1, rfl⟩
def J0n (n0 : Nat) : JSt := ⟨n0, [], [], [], [], [], 0, []⟩
theorem J0n_er (n0 : Nat) : (J0n n0).er = J0 := rfl
def Once (l : List Nd) (told : List Int) : Prop := (∀ k : Nat, k < l.length → told.count (k : Int) = 1) ∧ ∀ k ∈ told, ∃ n : Nat, k = (n : Int) ∧ n < l.length
theorem Once.mg {l : List Nd} {told : List Int} (o : Once l told) : (mgOf l told).length = ((List.range l.length).filter fun k => kindAt l ((k : Nat) : Int) == 13).length := by
 have hp : told.Perm ((List.range l.length).map fun k : Nat => (k : Int)) := by
  refine List.perm_iff_count.2 fun a => ?_
  by_cases ha : ∃ n : Nat, a = n ∧ n < l.length
  ·obtain ⟨n, rfl, hn⟩ := ha
   rw [o.1 n hn]
   have hnd : ((List.range l.length).map fun k : Nat => (k : Int)).Nodup := by
    rw [List.nodup_iff_pairwise_ne, List.pairwise_map]
    exact List.nodup_range.imp fun h e => h (by omega)
   rw [List.Nodup.count hnd, if_pos (List.mem_map.2 ⟨n, List.mem_range.2 hn, rfl⟩)]
  ·rw [List.count_eq_zero.2 (fun h => ha (o.2 a h)), List.count_eq_zero.2 (fun h => ha ?_)]
   obtain ⟨n, hn, rfl⟩ := List.mem_map.1 h
   exact ⟨n, rfl, List.mem_range.1 hn⟩
 rw [mgOf, (hp.filter _).length_eq, List.filter_map, List.length_map]
 rfl
def AllPost (jb n0 : Nat) (l : List Nd) (h : Heap) (o : Out) (h' : Heap) : Prop := JFr n0 jb h h' ∧ match allS l with
 | .error er => o = .pan (wrongC er)
 | .ok Je => o = .ret (tup []) ∧ ∃ told J', Once l told ∧ Jud jb l J' h' ∧ J'.n0 = n0 ∧ J'.er = { Je with mg := mgOf l told }
theorem all_ok (F : AFns T) {jb n0 : Nat} {l : List Nd} (g : GoodT l) (hK : ∀ x ∈ l, x.kids.length ≤ 100000) (hS : ∀ x ∈ l, x.text.size < 4611686018427387904) {h : Heap} (hj : Jud jb l (J0n n0) h) :
 Wk T (.fn 15) [ptr jb 0] h (AllPost jb n0 l h) := by
 have hN := g.len
 have hne := g.ne
 obtain ⟨x, hx⟩ : ∃ x, l[l.length - 1]? = some x := ⟨_, List.getElem?_eq_getElem (by omega)⟩
 have hxm := List.mem_of_getElem? hx
 have hKx := hK x hxm
 refine Wk_fnL F.all (by simp [C15]) ?_
 simp only [C15]
 refine Wc_seq (Wc_ops (Wo_box (cs := [ptr jb 0]) (by rfl) fun h1 n1 => Wo_nil ?_))
 show Wc T _ _ _
 have hj1 := hj.keep n1.kept
 obtain ⟨lv, sv, fv, mv, a, b, c, p⟩ := id hj1
 have hbb := n1.get
 have lbb : h.next < h1.next := by rw [n1.next]; exact Nat.lt_succ_self _
 have hjlt : jb < h.next := by obtain ⟨_, _, _, _, _, _, _, q⟩ := hj; exact q.lt
 have hbj : h.next ≠ jb := by omega
 have fr1 := n1.kept.jfr n0 jb
 obtain ⟨q, cp, o, z, hvb, hgb, hcell⟩ := p.node hx
 obtain ⟨f0, f1, f2, f3⟩ := flatN_at hx
 obtain ⟨ka, kac, hkv⟩ := (p.nodes.2 x hxm).len
 have hw : IntKind.i64.wrap (((l.length : Nat) : Int) - 1) = ((l.length - 1 : Nat) : Int) := by rw [wrap64] <;> omega
 refine Wc_seq (Wc_ops (Wo_run (fun _ => by simp only [go_sem, seval]; rfl) ?_))
 show Wc T _ _ _
 refine Wc_seq (Wc_seq (Wc_draw_still (by decide) ?_))
 have pj : ptr jb 0 = .pointer (some ⟨jb, 0, none⟩) := rfl
 refine (Wo_run (fun _ => by simp only [go_sem, seval, hbb, p.get, hvb, hw, idx_ok (show l.length - 1 < l.length by omega), hgb, f2, hkv]; rfl) ?_)
 refine ⟨rfl, ?_⟩
 show Wc T _ _ _
 refine split_loop (v := lv) g hK hx hj1 hbb lbb (by first | rfl | assumption) (by first | rfl | assumption) (by first | rfl | assumption) (by rw [hkv]; exact (by first | rfl | assumption)) (by first | rfl | assumption) (by first | rfl | assumption) fun e' h2 e1 tw k2 => ?_
 replace e1 : e' 1 = ptr h.next 0 := e1
 show Wc T _ _ _
 have hsub1 : ((rootKids l).filter fun k => kindAt l k == 2).length ≤ 100000 := by
  have := List.length_filter_le (fun k => kindAt l k == 2) (rootKids l)
  have hrk : rootKids l = x.kids := by rw [rootKids, hx]; rfl
  rw [hrk] at this ⊢; omega
 have hsub2 : ((rootKids l).filter fun k => !(kindAt l k == 2)).length ≤ 100000 := by
  have := List.length_filter_le (fun k => !(kindAt l k == 2)) (rootKids l)
  have hrk : rootKids l = x.kids := by rw [rootKids, hx]; rfl
  rw [hrk] at this ⊢; omega
 have hm1 : ∀ k ∈ (rootKids l).filter fun k => kindAt l k == 2, ∃ n : Nat, k = n ∧ n < l.length := fun k hk => by
  obtain ⟨n, _, e, hn, _⟩ := root_kid g (List.mem_filter.1 hk).1
  exact ⟨n, e, hn⟩
 have hm2 : ∀ k ∈ (rootKids l).filter fun k => !(kindAt l k == 2), k ∈ rootKids l ∧ kindAt l k ≠ 2 := fun k hk => by
  obtain ⟨q1, q2⟩ := List.mem_filter.1 hk
  exact ⟨q1, by simpa using q2⟩
 have hall : allS l = if ((rootKids l).filter fun k => kindAt l k == 2).length ≤ 100 ∧ ((rootKids l).filter fun k => !(kindAt l k == 2)).length ≤ 200 then
  match foldS (recordS l) ((rootKids l).filter fun k => kindAt l k == 2) J0 with
  | .error e => .error e
  | .ok J1 => match foldS (faceS l) ((rootKids l).filter fun k => !(kindAt l k == 2)) J1 with
   | .error e => .error e
   | .ok J2 =>
    if 0 < numOf J2.fn mainB ∧ parN J2 (numOf J2.fn mainB - 1) = 0 then
     match J2.fns.findSome? (rowE l J2) with
     | some e => .error e
     | none => .ok { J2 with main := ((numOf J2.fn mainB : Nat) : Int) - 1 }
    else .error (0, 83)
 else .error (0, 2) := rfl
 generalize (rootKids l).filter (fun k => kindAt l k == 2) = rk at *
 generalize (rootKids l).filter (fun k => !(kindAt l k == 2)) = fk at *
 obtain ⟨ra, rc, hra⟩ := tw.fst.ints.len
 obtain ⟨fa, fc, hfa⟩ := tw.snd.ints.len
 have hj2 := hj1.keep k2
 have fr2 : JFr n0 jb h h2 := fr1.trans (k2.jfr _ _)
 have hbb2 : h2.get h.next = some (.cells [ptr jb 0] true 0) := by rw [k2.get _ lbb]; exact hbb
 have lbb2 : h.next < h2.next := Nat.lt_of_lt_of_le lbb k2.next
 have hb1 : decide (((rk.length : Nat) : Int) ≤ 100) = decide (rk.length ≤ 100) := by rw [decide_eq_decide]; omega
 have hb2 : decide (((fk.length : Nat) : Int) ≤ 200) = decide (fk.length ≤ 200) := by rw [decide_eq_decide]; omega
 have ph : posAt l (-1) = 0 := rfl
 refine Wc_mid (fun s => s.h = h2 ∧ s.d = some [] ∧ s.e 1 = e' 1 ∧ s.e 2 = e' 2 ∧ s.e 3 = e' 3 ∧ rk.length ≤ 100 ∧ fk.length ≤ 200) ?_ ?_
 ·by_cases hr : rk.length ≤ 100
  ·refine Wc_ops (Wo_pre 9 (fun _ => by simp only [go_sem, seval, e1, hbb2, hra, hfa, hb1, hb2, decide_eq_true hr]; rfl) ?_)
   refine Wo_call ?_
   simp only [List.map_cons, List.map_nil, ev, upd, dstUpd, reduceIte, Nat.reduceEqDiff]
   refine (must_ok F.c.b.j.must (ok := decide (fk.length ≤ 200)) (n := -1) (e := 2) hj2 (by omega)).mono ?_
   rintro o h' ⟨rfl, rfl⟩
   by_cases hf : fk.length ≤ 200
   ·rw [decide_eq_true hf]
    exact Wo_nil ⟨rfl, rfl, (by first | rfl | assumption), (by first | rfl | assumption), (by first | rfl | assumption), hr, hf⟩
   ·rw [decide_eq_false hf]
    exact Lv_panic rfl ⟨fr2, by rw [hall, if_neg (by omega)]; rfl⟩
  ·refine Wc_ops (Wo_pre 9 (fun _ => by simp only [go_sem, seval, e1, hbb2, hra, hfa, hb1, hb2, decide_eq_false hr]; rfl) ?_)
   refine Wo_call ?_
   simp only [List.map_cons, List.map_nil, ev, upd, dstUpd, reduceIte, Nat.reduceEqDiff]
   refine (must_ok F.c.b.j.must (ok := false) (n := -1) (e := 2) hj2 (by omega)).mono ?_
   rintro o h' ⟨rfl, rfl⟩
   exact Lv_panic rfl ⟨fr2, by rw [hall, if_neg (by omega)]; rfl⟩
 rintro ⟨e3, h2', d'⟩ ⟨hh, hd, g1, g2, g3, hr, hf⟩
 simp only at hh hd g1 g2 g3
 subst hh hd
 rw [if_pos ⟨hr, hf⟩] at hall
 rw [e1] at g1
 show Wc T _ _ _
 refine Wc_seq (Wc_seq (Wc_ops (Wo_run (fun _ => by simp only [go_sem, seval, g2, hra]; rfl) ?_)))
 show Wc T _ _ _
 refine recs_loop (v := e' 2) (m := h1.next) F.c g hK hj2 hbb2 lbb2 hbj tw.fst hm1 hr ⟨rfl, rfl, rfl⟩ (by simp only [go_sem, seval, g1] <;> first | rfl | assumption | (symm; assumption)) (by rw [hra]; exact (by first | rfl | assumption)) (by first | rfl | assumption) (by first | rfl | assumption) (fun e4 h3 J1 k1 k3 hfo i0 i1 i2 i3 hj3 fr3 => ?_) (fun e4 h3 er hfo fr3 => ?_)
 case refine_2 =>
  rw [J0n_er] at hfo
  rw [hfo] at hall
  exact Lv_panic rfl ⟨fr2.trans fr3, by rw [hall]⟩
 rw [J0n_er] at hfo
 rw [hfo] at hall
 simp only at hall
 replace k1 : e4 1 = ptr h.next 0 := k1.trans g1
 replace k3 : e4 3 = e' 3 := k3.trans g3
 replace i0 : J1.n0 = n0 := i0
 show Wc T _ _ _
 have fr13 := fr2.trans fr3
 have hbb3 : h3.get h.next = some (.cells [ptr jb 0] true 0) := fr3.zero _ _ lbb2 hbj hbb2
 have lbb3 : h.next < h3.next := Nat.lt_of_lt_of_le lbb2 fr3.next
 have tf3 := tw.snd.jfr fr3
 refine Wc_seq (Wc_seq (Wc_ops (Wo_run (fun _ => by simp only [go_sem, seval, k3, hfa]; rfl) ?_)))
 show Wc T _ _ _
 refine faces_loop (v := e' 3) (m := h1.next) F.c g hK hj3 hbb3 lbb3 hbj tf3 hm2 hf ⟨i2, i1⟩ (by simp only [go_sem, seval, k1] <;> first | rfl | assumption | (symm; assumption)) (by rw [hfa]; exact (by first | rfl | assumption)) (by first | rfl | assumption) (by first | rfl | assumption) (fun e5 h4 J2 k1' hfo2 j0 j3 j4 j5 j6 hj4 fr4 => ?_) (fun e5 h4 er hfo2 fr4 => ?_)
 case refine_2 =>
  rw [hfo2] at hall
  rw [i0] at fr4
  exact Lv_panic rfl ⟨fr13.trans fr4, by rw [hall]⟩
 rw [hfo2] at hall
 simp only at hall
 replace k1' : e5 1 = ptr h.next 0 := k1'.trans k1
 rw [i0] at j0 fr4
 show Wc T _ _ _
 have fr14 := fr13.trans fr4
 have hbb4 : h4.get h.next = some (.cells [ptr jb 0] true 0) := fr4.zero _ _ lbb3 hbj hbb3
 have lbb4 : h.next < h4.next := Nat.lt_of_lt_of_le lbb3 fr4.next
 have hmg : J2.mg = [] := j3.trans i3
 obtain ⟨lv4, sv4, fv4, mv4, a4, b4, c4, p4⟩ := hj4
 have hnum := numOf_le J2.fn mainB
 have hw2 : IntKind.i64.wrap (((numOf J2.fn mainB : Nat) : Int) - 1) = ((numOf J2.fn mainB : Nat) : Int) - 1 := wrap64 (by omega) (by omega)
 refine Wc_seq (Wc_draw_still (by decide) ?_)
 refine (Wo_pre 5 (fun _ => by simp only [go_sem, seval, k1', hbb4, p4.get]; rfl) ?_)
 refine Wo_op (iop_nameC (s := mainB) (by first | rfl | assumption) p4.gc) ?_
 refine (Wo_pre 4 (fun _ => by simp only [go_sem, seval, hw2]; rfl) ?_)
 refine Wo_op (iop_store_at (k := 3) (v := .int .i64 (((numOf J2.fn mainB : Nat) : Int) - 1)) (by first | rfl | assumption) (by first | rfl | assumption) p4.get (by simp)) (Wo_nil ⟨rfl, ?_⟩)
 show Wc T _ _ _
 have p5 := p4.mgs (h' := h4.set jb (.cells [lv4, sv4, fv4, .int .i64 (((numOf J2.fn mainB : Nat) : Int) - 1), mv4, .map (some a4), .map (some b4), .map (some c4)] true 0)) (mv' := mv4) (L := J2.mg) (m := ((numOf J2.fn mainB : Nat) : Int) - 1) (Nat.le_refl _) (fun y hy hyj => set_get_ne' _ _ hyj) (set_get' _ _ _) (by rw [hmg]; exact .inl ⟨rfl, p4.mgn hmg⟩) (fun _ => p4.mgn hmg)
 have k5 : JFr n0 jb h4 (h4.set jb (.cells [lv4, sv4, fv4, .int .i64 (((numOf J2.fn mainB : Nat) : Int) - 1), mv4, .map (some a4), .map (some b4), .map (some c4)] true 0)) :=
  ⟨Nat.le_refl _, fun y _ hy => set_get_ne' _ _ (by have := p4.ge; omega), fun y cs _ hg => by rw [set_get_ne' _ _ (fun e => by subst e; rw [p4.get] at hg; simp at hg)]; exact hg, fun y cs _ hyj hg => by rw [set_get_ne' _ _ hyj]; exact hg⟩
 have hbb5 : (h4.set jb (.cells [lv4, sv4, fv4, .int .i64 (((numOf J2.fn mainB : Nat) : Int) - 1), mv4, .map (some a4), .map (some b4), .map (some c4)] true 0)).get h.next = some (.cells [ptr jb 0] true 0) := by rw [set_get_ne' _ _ hbj]; exact hbb4
 have n5 : (h4.set jb (.cells [lv4, sv4, fv4, .int .i64 (((numOf J2.fn mainB : Nat) : Int) - 1), mv4, .map (some a4), .map (some b4), .map (some c4)] true 0)).next = h4.next := rfl
 show Wc T _ ⟨_, h4.set jb (.cells [lv4, sv4, fv4, .int .i64 (((numOf J2.fn mainB : Nat) : Int) - 1), mv4, .map (some a4), .map (some b4), .map (some c4)] true 0), _⟩ _
 generalize h4.set jb (.cells [lv4, sv4, fv4, .int .i64 (((numOf J2.fn mainB : Nat) : Int) - 1), mv4, .map (some a4), .map (some b4), .map (some c4)] true 0) = h5 at p5 k5 hbb5 n5 ⊢
 have fr15 := fr14.trans k5
 have lbb5 : h.next < h5.next := by omega
 generalize hJ3 : ({ J2 with main := ((numOf J2.fn mainB : Nat) : Int) - 1, mg := J2.mg } : JSt) = J3 at p5
 have hj5 : Jud jb l J3 h5 := ⟨_, _, _, _, _, _, _, p5⟩
 have h3n : J3.n0 = n0 := by rw [← hJ3]; exact j0
 have h3f : J3.fns = J2.fns := by rw [← hJ3]
 have h3fn : J3.fn = J2.fn := by rw [← hJ3]
 have h3m : J3.mg = [] := by rw [← hJ3]; exact hmg
 have h3mn : J3.main = ((numOf J2.fn mainB : Nat) : Int) - 1 := by rw [← hJ3]
 have hg5 := p5.get
 rw [h3mn] at hg5
 have ef : J2.er.fn = J2.fn := rfl
 have ep : ∀ k, parN J2.er k = parN J2 k := fun k => (JEq.er J2).par k
 have er3 : J2.er.fns.findSome? (rowE l J2.er) = J3.fns.findSome? (rowE l J3) := by
  rw [h3f]
  show (J2.fns.map _).findSome? _ = _
  rw [List.findSome?_map]
  congr 1
  funext r
  have hq : JEq J2.er J3 := by
   rw [← hJ3]
   exact ⟨rfl, rfl, rfl, fun k => (JEq.er J2).par k⟩
  show rowE l J2.er _ = rowE l J3 r
  simp only [rowE]
  cases l[r.node]? with
  | none => rfl
  | some y => exact bodyE_eq hq l _ _ y
 rw [er3, ef, ep] at hall
 refine Wc_mid (fun s => s.h = h5 ∧ s.d = some [] ∧ s.e 1 = ptr h.next 0 ∧ mainQ J2) ?_ ?_
 ·by_cases hm : 0 < numOf J2.fn mainB
  ·have hM : ((numOf J2.fn mainB : Nat) : Int) - 1 = ((numOf J2.fn mainB - 1 : Nat) : Int) := by omega
   obtain ⟨r, hr'⟩ : ∃ r, J3.fns[numOf J2.fn mainB - 1]? = some r := ⟨_, List.getElem?_eq_getElem (by rw [h3f]; omega)⟩
   have hpar : parN J2 (numOf J2.fn mainB - 1) = r.params := by rw [parN, ← h3f, hr']; rfl
   have hMl : numOf J2.fn mainB - 1 < J3.fns.length := by rw [h3f]; omega
   obtain ⟨fb, fcc, hfv, _, hfg, hrow⟩ := p5.fns.cell fnr_len hr'
   have hc1 := hrow 1 (by decide)
   have hg5' := hg5
   rw [hM] at hg5'
   have hmq : mainQ J2 ↔ r.params = 0 := by rw [mainQ, hpar]; exact ⟨fun h => h.2, fun h => ⟨hm, h⟩⟩
   generalize hMM : numOf J2.fn mainB - 1 = M at hg5' hr' hMl hc1
   have hpos : (0 : Int) ≤ ((M : Nat) : Int) := by omega
   have hgt : ¬ ((M : Nat) : Int) < 0 := by omega
   have hc1' : (J3.fns.flatMap Fnr.cells)[M * 4 + 1]? = some (.int .i64 r.params) := hc1
   have hpe : (((r.params : Nat) : Int) == 0) = decide (r.params = 0) := by
    by_cases hp : r.params = 0
    ·rw [hp]; rfl
    ·rw [decide_eq_false hp]; exact beq_eq_false_iff_ne.2 (by omega)
   refine Wc_draw_end 24 rfl (by decide) ?_
   refine (Wo_pre 24 (fun _ => by simp only [go_sem, seval, k1', hbb5, hg5', decide_eq_true hpos, hgt, hfv, idx_ok hMl, hfg, hc1', hpe]; rfl) ?_)
   refine Wo_nil ⟨rfl, ?_⟩
   refine Wo_call ?_
   simp only [List.map_cons, List.map_nil, ev, upd, dstUpd, reduceIte, Nat.reduceEqDiff]
   refine (must_ok F.c.b.j.must (ok := decide (r.params = 0)) (n := -1) (e := 83) hj5 (by omega)).mono ?_
   rintro o h' ⟨rfl, rfl⟩
   by_cases hp : r.params = 0
   ·rw [decide_eq_true hp]
    exact Wo_nil ⟨rfl, rfl, (by simp only [go_sem, seval, k1'] <;> first | rfl | assumption | (symm; assumption)), hmq.2 hp⟩
   ·rw [decide_eq_false hp]
    intro e
    exact Lv_panic rfl ⟨fr15, by rw [hall, if_neg (show ¬ (0 < numOf J2.fn mainB ∧ parN J2 (numOf J2.fn mainB - 1) = 0) from fun h => hp (hmq.1 h))]; rfl⟩
  ·have hz : numOf J2.fn mainB = 0 := by omega
   refine Wc_draw_end 24 rfl (by decide) ?_
   have hneg : ¬ (0 : Int) ≤ ((numOf J2.fn mainB : Nat) : Int) - 1 := by omega
   refine (Wo_pre 24 (fun _ => by simp only [go_sem, seval, k1', hbb5, hg5, decide_eq_false hneg]; rfl) ?_)
   refine Wo_nil ⟨rfl, ?_⟩
   refine Wo_call ?_
   simp only [List.map_cons, List.map_nil, ev, upd, dstUpd, reduceIte, Nat.reduceEqDiff]
   refine (must_ok F.c.b.j.must (ok := false) (n := -1) (e := 83) hj5 (by omega)).mono ?_
   rintro o h' ⟨rfl, rfl⟩
   intro e
   exact Lv_panic rfl ⟨fr15, by rw [hall, if_neg (by omega)]; rfl⟩
 rintro ⟨e6, h6, d6⟩ ⟨hh, hd, k6, hmq⟩
 simp only at hh hd k6
 subst hh hd
 rw [if_pos (show 0 < numOf J2.fn mainB ∧ parN J2 (numOf J2.fn mainB - 1) = 0 from hmq)] at hall
 show Wc T _ _ _
 obtain ⟨va, vc, hfl⟩ := p5.fns.len
 refine Wc_seq (Wc_seq (Wc_ops (Wo_run (fun _ => by simp only [go_sem, seval, k6, hbb5, hg5, hfl]; rfl) ?_)))
 show Wc T _ _ _
 refine bodies_loop F.c g hK p5 hbb5 lbb5 (by rw [h3f, h3fn]; exact j4) (by rw [h3fn]; exact j5) (by rw [h3f]; exact j6) (by simp only [go_sem, seval, k6] <;> first | rfl | assumption | (symm; assumption)) (by rw [hfl]; exact (by first | rfl | assumption)) (by first | rfl | assumption) (by first | rfl | assumption) (fun e7 h7 k7 hno k57 => ?_) (fun e7 h7 er hso k57 => ?_)
 case refine_2 =>
  rw [hso] at hall
  exact Lv_panic rfl ⟨fr15.trans (k57.jfr _ _), by rw [hall]⟩
 rw [hno] at hall
 simp only at hall
 replace k7 : e7 1 = ptr h.next 0 := k7.trans k6
 have p7 := p5.keep k57
 have hbb7 : h7.get h.next = some (.cells [ptr jb 0] true 0) := by rw [k57.get _ lbb5]; exact hbb5
 have fr17 := fr15.trans (k57.jfr n0 jb)
 show Wc T _ _ _
 obtain ⟨na, nc, hlv⟩ := p7.nodes.len
 refine Wc_seq (Wc_ops (Wo_pre 4 (fun _ => by simp only [go_sem, seval, k7, hbb7, p7.get]; rfl) ?_))
 refine Wo_call ((mkWalk_ok' F.walk (v := lv4) (by rw [hlv]; rfl)).mono ?_)
 rintro o h8 ⟨n8, rfl⟩
 refine Wo_nil ?_
 show Wc T _ _ _
 have p8 := p7.keep n8.kept
 have lbb7 : h.next < h7.next := Nat.lt_of_lt_of_le lbb5 k57.next
 have fr18 := fr17.trans (n8.kept.jfr n0 jb)
 have hj7 := p7.lt
 refine Wc_block ?_
 refine merges_loop F.chk F.walk1 g hN hK hS p8 h3m n8.get (by rw [n8.kept.get _ lbb7]; exact hbb7) (by rw [n8.next]; exact Nat.lt_succ_self _) (by rw [n8.next]; omega) (by omega) hbj (by simp only [go_sem, seval, k7] <;> first | rfl | assumption | (symm; assumption)) (by first | rfl | assumption) fun told Z hcnt hin hjZ frZ hdfr hge => ?_
 rw [h3n] at frZ hge
 have nZ := fr18.next
 refine Lv_mark rfl hdfr (by rfl) ⟨(fr18.trans frZ).dead nZ, ?_⟩
 rw [hall]
 obtain ⟨_, _, _, _, _, _, _, pZ⟩ := hjZ
 refine ⟨rfl, told, _, ⟨hcnt, hin⟩, ⟨_, _, _, _, _, _, _, pZ.dead hdfr (by show J3.n0 ≤ _; omega)⟩, h3n, ?_⟩
 rw [← hJ3]
 rfl
end Go.Idl
end

section
namespace Go.Idl
variable {T : Tbl}
def nil4 : List Value := [.slice none 0 0, .slice none 0 0, .int .i64 0, .slice none 0 0]
theorem deferC_none {args : List Value} {h : Heap} {Q : Ex → Option Value → St → Prop} (k : ∀ e, Q .normal none ⟨e, h, some []⟩) : WcD T C14.code none ⟨args0 args, h, some []⟩ Q := by
 simp only [C14]
 refine WcD_seq (WcD_rec rfl rfl ?_)
 show WcD T _ _ _ _
 refine WcD_seq (WcD_ops rfl (Wc_ops (Wo_run (fun _ => by simp only [go_sem, seval]; rfl) ?_)))
 show WcD T _ _ _ _
 refine WcD_cond false (by simp [ev, upd, dstUpd]) nofun (fun _ => WcD_skip (k _))
theorem deferC_some {h : Heap} {n k : Int} {a b c : Nat} {x : List Value} {y z : Value} {Q : Ex → Option Value → St → Prop} (ha : h.get a = some (.cells x true 0)) (hx : x.length = 4) (hb : h.get b = some (.cells [y] true 0)) (hc : h.get c = some (.cells [z] true 0)) (hab : a ≠ b) (hac : a ≠ c) (hbc : b ≠ c) (la : a < h.next) (lb : b < h.next) (lc : c < h.next)
 (q : ∀ e h', (∀ d, d < h.next → d ≠ a → d ≠ b → d ≠ c → h'.get d = h.get d) → h.next ≤ h'.next → h'.get a = some (.cells nil4 true 0) → h'.get b = some (.cells [.int .i64 n] true 0) → h'.get c = some (.cells [.int .i64 k] true 0) → Q .normal none ⟨e, h', some []⟩) :
 WcD T C14.code (some (wrongC (n, k))) ⟨args0 [ptr a 0, ptr b 0, ptr c 0], h, some []⟩ Q := by
 simp only [C14]
 refine WcD_seq (WcD_rec rfl rfl ?_)
 show WcD T _ _ _ _
 refine WcD_seq (WcD_ops rfl (Wc_ops (Wo_run (fun _ => by simp only [go_sem, seval, wrongC]; rfl) ?_)))
 show WcD T _ _ _ _
 refine WcD_cond true (by simp [ev, upd, dstUpd]) (fun _ => ?_) nofun
 refine WcD_seq (WcD_ops rfl (Wc_ops (Wo_pre 6 (fun _ => by simp only [go_sem, seval]; rfl) ?_)))
 refine Wo_op (iop_store (b := h.next) (esz := 0) (cs := [.int .i64 n, .int .i64 k]) (z := [.int .i64 0, .int .i64 0]) (by simp only [upd, dstUpd, reduceIte, Nat.reduceEqDiff, ptr]) (by simp only [upd, dstUpd, reduceIte, Nat.reduceEqDiff]) rfl (new_get' _ _) rfl) ?_
 have hg0 : ∀ d, d < h.next → ((h.new (.cells [.int .i64 0, .int .i64 0] true 0)).set h.next (.cells [.int .i64 n, .int .i64 k] true 0)).get d = h.get d := by
  intro d hd
  rw [set_get_ne' _ _ (by omega), new_get_ne' _ _ (by omega)]
 have hn0 : ((h.new (.cells [.int .i64 0, .int .i64 0] true 0)).set h.next (.cells [.int .i64 n, .int .i64 k] true 0)).next = h.next + 1 := rfl
 have hgm : ((h.new (.cells [.int .i64 0, .int .i64 0] true 0)).set h.next (.cells [.int .i64 n, .int .i64 k] true 0)).get h.next = some (.cells [.int .i64 n, .int .i64 k] true 0) := set_get' _ _ _
 generalize (h.new (.cells [.int .i64 0, .int .i64 0] true 0)).set h.next (.cells [.int .i64 n, .int .i64 k] true 0) = h1 at hg0 hn0 hgm ⊢
 refine (Wo_run (fun _ => by simp only [go_sem, seval]; rfl) ?_)
 show WcD T _ _ _ _
 refine WcD_seq (WcD_seq (WcD_ops rfl (Wc_ops (Wo_run (fun _ => by simp only [go_sem, seval]; rfl) ?_))))
 show WcD T _ _ _ _
 refine WcD_cond false (by simp [ev, upd, dstUpd]) nofun (fun _ => WcD_skip ?_)
 show WcD T _ _ _ _
 refine WcD_draw (Wc_draw ?_)
 refine Wd_P rfl (v := .agg nil4.toArray) (h' := h1) (by rfl) ?_
 refine Wd_P rfl (by simp only [iop, ev, upd, dstUpd, ptr, Nat.reduceEqDiff, reduceIte]; rfl) ?_
 refine Wd_R rfl (v := .int .i64 n) (h' := h1) (by simp only [iop, ev, upd, dstUpd, ptr, Nat.reduceEqDiff, reduceIte, Heap.cell, hgm]; rfl) (by intro p hp; cases hp) ?_
 refine Wd_P rfl (by simp only [iop, ev, upd, dstUpd, ptr, Nat.reduceEqDiff, reduceIte]; rfl) ?_
 refine Wd_R rfl (v := .int .i64 k) (h' := h1) (by simp only [iop, ev, upd, dstUpd, ptr, Nat.reduceEqDiff, reduceIte, Heap.cell, hgm]; rfl) (by intro p hp; cases hp) ?_
 have hL1 : ∀ e : Env, e 18 = ptr h.next 0 → locOp (.load none (.t 18)) e = .cells h.next 0 1 := fun e he => by simp only [locOp, ev, he, ptr]
 have hL2 : ∀ e : Env, e 20 = ptr h.next 1 → locOp (.load none (.t 20)) e = .cells h.next 1 1 := fun e he => by simp only [locOp, ev, he, ptr]
 rw [hL1 _ (by simp only [upd, dstUpd, reduceIte, Nat.reduceEqDiff, ptr]), hL2 _ (by simp only [upd, dstUpd, reduceIte, Nat.reduceEqDiff, ptr])]
 have side : ∀ (hh : Heap) (d i : Nat) (bk : Blk), d < h.next → ∀ p ∈ [(4, Loc.cells h.next 1 1), (2, Loc.cells h.next 0 1)], p.1 ∈ ([[], [], [1], [], [3], [0], [5, 0, 2, 1], [6, 5, 0, 2, 1, 4, 3]] : List (List Nat)).getD i [] ∨ sameAt hh (hh.set d bk) p.2 := by
  intro hh d i bk hd p hp
  rcases List.mem_cons.1 hp with rfl | hp
  ·exact .inr (sameAt_cells (by omega))
  ·rw [List.mem_singleton] at hp; subst hp; exact .inr (sameAt_cells (by omega))
 refine Wd_E rfl (iop_store (b := a) (esz := 0) (cs := nil4) (z := x) (by simp only [upd, dstUpd, reduceIte, Nat.reduceEqDiff, args0]; rfl) (by simp only [upd, dstUpd, reduceIte, Nat.reduceEqDiff]) rfl (by rw [hg0 _ la]; exact ha) hx) (side _ _ 5 _ la) ?_
 refine Wd_E rfl (iop_store1 (b := b) (esz := 0) (v := .int .i64 n) (x := y) (by simp only [upd, dstUpd, reduceIte, Nat.reduceEqDiff, args0]; rfl) (by simp only [upd, dstUpd, reduceIte, Nat.reduceEqDiff, ev, cellsOf]) (by rw [set_get_ne' _ _ hab.symm, hg0 _ lb]; exact hb)) (side _ _ 6 _ lb) ?_
 refine Wd_E rfl (iop_store1 (b := c) (esz := 0) (v := .int .i64 k) (x := z) (by simp only [upd, dstUpd, reduceIte, Nat.reduceEqDiff, args0]; rfl) (by simp only [upd, dstUpd, reduceIte, Nat.reduceEqDiff, ev, cellsOf]) (by rw [set_get_ne' _ _ hbc.symm, set_get_ne' _ _ hac.symm, hg0 _ lc]; exact hc)) (side _ _ 7 _ lc) ?_
 refine Wd_nil ?_
 refine q _ _ (fun d hd d1 d2 d3 => ?_) ?_ ?_ ?_ ?_
 ·rw [set_get_ne' _ _ d3, set_get_ne' _ _ d2, set_get_ne' _ _ d1, hg0 _ hd]
 ·show h.next ≤ h1.next; omega
 ·rw [set_get_ne' _ _ hac, set_get_ne' _ _ hab, set_get']
 ·rw [set_get_ne' _ _ hbc, set_get']
 ·rw [set_get']
def dAt (n0 : Nat) (h : Heap) (v : Value) (J : JSt) : Prop := ∃ sv fv mv, v = .agg #[sv, fv, .int .i64 J.main, mv] ∧ ownL Srt.cells 2 n0 h sv J.srt ∧ ownL Fnr.cells 4 n0 h fv J.fns ∧ ownI n0 h mv J.mg ∧ (∀ x ∈ J.fns, ownL strC 1 n0 h x.vv x.vars) ∧ ∀ x ∈ J.srt, ownL strC 1 n0 h x.fv x.fields
def ChkPost (l : List Nd) (h : Heap) (o : Out) (h' : Heap) : Prop := Kept h h' ∧ match allS l with
 | .error (a, er) => o = .ret (.tuple #[.agg nil4.toArray, .int .i64 a, .int .i64 er])
 | .ok Je => ∃ dv told J', o = .ret (.tuple #[dv, .int .i64 0, .int .i64 0]) ∧ Once l told ∧ dAt h.next h' dv J' ∧ J'.er = { Je with mg := mgOf l told }
structure PFns (T : Tbl) : Prop where
 a : AFns T
 prog : T.fn 10 = some C10
 prog1 : T.fn 14 = some C14
theorem checkProgram_ok (F : PFns T) {l : List Nd} (g : GoodT l) (hK : ∀ x ∈ l, x.kids.length ≤ 100000) (hS : ∀ x ∈ l, x.text.size < 4611686018427387904) {h : Heap} {v : Value} (hn : nodesAt h v l) (hkz : ∀ x ∈ l, kzAt h x.kv) :
 Wk T (.fn 10) [v] h (ChkPost l h) := by
 obtain ⟨va, vc, hvl⟩ := hn.len
 refine Wk_fnL F.prog (by simp [C10]) ?_
 simp only [C10]
 refine Wc_seq (Wc_ops (Wo_alloc fun h1 n1 => Wo_alloc fun h2 n2 => Wo_alloc fun h3 n3 => Wo_nil ?_))
 show Wc T _ _ _
 have k3 := (n1.kept.trans n2.kept).trans n3.kept
 have b1 : h1.next = h.next + 1 := n1.next
 have b2 : h2.next = h.next + 2 := by rw [n2.next, b1]
 have b3 : h3.next = h.next + 3 := by rw [n3.next, b2]
 have ga : h3.get h.next = some (.cells nil4 true 0) := by rw [n3.kept.get _ (by omega), n2.kept.get _ (by omega)]; exact n1.get
 have gb : h3.get h1.next = some (.cells [.int .i64 0] true 0) := by rw [n3.kept.get _ (by omega)]; exact n2.get
 have gc : h3.get h2.next = some (.cells [.int .i64 0] true 0) := n3.get
 refine Wc_seq (Wc_seq (Wc_ops (Wo_pre 1 (fun _ => by simp only [go_sem, seval]; rfl) ?_)))
 refine Wo_call (Wk_kept (check_ok F.a.chk (hn.keep k3) g.len hK hS g) fun h4 k4 => ?_)
 refine (Wo_run (fun _ => by simp only [go_sem, seval]; rfl) ?_)
 show Wc T _ _ _
 refine Wc_seq (Wc_ops (Wo_run (fun _ => by simp only [go_sem, seval, bne]; rfl) ?_))
 show Wc T _ _ _
 refine Wc_cond false (by first | rfl | assumption) nofun (fun _ => Wc_skip ?_)
 show Wc T _ _ _
 refine Wc_seq (Wc_ops (Wo_op rfl (Wo_defer (f := 14) (vs := [ptr h.next 0, ptr h1.next 0, ptr h2.next 0]) (by simp only [ev, upd, dstUpd, reduceIte, Nat.reduceEqDiff, List.map_cons, List.map_nil]; rfl) (Wo_nil ?_))))
 show Wc T _ _ _
 have b4 := k4.next
 have k04 := k3.trans k4
 refine Wc_seq (Wc_ops (Wo_pre 1 (fun _ => by simp only [go_sem, seval]; rfl) ?_))
 refine Wo_new (v := .map (some h4.next)) (B := nmap []) (by rfl) fun h5 n5 => ?_
 refine Wo_new (v := .map (some h5.next)) (B := nmap []) (by rfl) fun h6 n6 => ?_
 refine Wo_new (v := .map (some h6.next)) (B := nmap []) (by rfl) fun h7 n7 => ?_
 have b5 := n5.next
 have b6 := n6.next
 have b7 := n7.next
 refine Wo_op (v := .agg #[v, .slice none 0 0, .slice none 0 0, .int .i64 0, .slice none 0 0, .map (some h4.next), .map (some h5.next), .map (some h6.next)]) (h' := h7) (by rw [hvl]; rfl) ?_
 refine Wo_box (cs := [v, .slice none 0 0, .slice none 0 0, .int .i64 0, .slice none 0 0, .map (some h4.next), .map (some h5.next), .map (some h6.next)]) (by rfl) fun h8 n8 => ?_
 refine (Wo_run (fun _ => by simp only [go_sem, seval]; rfl) ?_)
 show Wc T _ _ _
 have b8 := n8.next
 have k08 := (((k04.trans n5.kept).trans n6.kept).trans n7.kept).trans n8.kept
 have k38 := (((k4.trans n5.kept).trans n6.kept).trans n7.kept).trans n8.kept
 have rep : JRep h7.next l (J0n h.next) h8 v (.slice none 0 0) (.slice none 0 0) (.slice none 0 0) h4.next h5.next h6.next := by
  refine ⟨by omega, n8.get, ⟨h, Nat.le_refl _, hn, hkz, k08⟩, ?_, ?_, ?_, by omega, by omega, by omega, .inl ⟨rfl, rfl⟩, .inl ⟨rfl, rfl⟩, .inl ⟨rfl, rfl⟩, fun x hx => (by cases hx), fun x hx => (by cases hx), ⟨by omega, by omega, by omega⟩, ?_, fun _ => rfl⟩
  ·rw [n8.kept.get _ (by omega), n7.kept.get _ (by omega), n6.kept.get _ (by omega)]; exact n5.get
  ·rw [n8.kept.get _ (by omega), n7.kept.get _ (by omega)]; exact n6.get
  ·rw [n8.kept.get _ (by omega)]; exact n7.get
  ·show h.next ≤ _ ∧ h.next ≤ _ ∧ h.next ≤ _ ∧ h.next ≤ _; omega
 have ga8 : h8.get h.next = some (.cells nil4 true 0) := by rw [k38.get _ (by omega)]; exact ga
 have gb8 : h8.get h1.next = some (.cells [.int .i64 0] true 0) := by rw [k38.get _ (by omega)]; exact gb
 have gc8 : h8.get h2.next = some (.cells [.int .i64 0] true 0) := by rw [k38.get _ (by omega)]; exact gc
 refine Wc_seq (Wc_ops (Wo_pre 1 (fun _ => by simp only [go_sem, seval]; rfl) ?_))
 refine Wo_call ((all_ok F.a (jb := h7.next) (n0 := h.next) g hK hS ⟨_, _, _, _, _, _, _, rep⟩).mono ?_)
 rintro o h9 ⟨fr, ho⟩
 have b9 := fr.next
 have ga9 := fr.zero _ _ (by omega) (by omega) ga8
 have gb9 := fr.zero _ _ (by omega) (by omega) gb8
 have gc9 := fr.zero _ _ (by omega) (by omega) gc8
 have k09 : Kept h h9 := ⟨by have := k08.next; omega, fun b hb => by rw [fr.old b (by omega) hb, k08.get b hb]⟩
 cases hA : allS l with
 | error er =>
  obtain ⟨a, er⟩ := er
  rw [hA] at ho
  simp only at ho
  subst ho
  show Lv T _ (some _) _ _
  refine Lv_one (g := 14) (args := [ptr h.next 0, ptr h1.next 0, ptr h2.next 0]) rfl F.prog1 (by simp [C14]) (deferC_some (n := a) (k := er) ga9 rfl gb9 gc9 (by omega) (by omega) (by omega) (by show _ < h9.next; omega) (by show _ < h9.next; omega) (by show _ < h9.next; omega) fun e h10 hsame hn10 q1 q2 q3 => ?_)
  refine ⟨.inl rfl, rfl, ⟨[], rfl⟩, [.agg nil4.toArray, .int .i64 a, .int .i64 er], ?_, ?_⟩
  ·simp only [resAllP, resVP, resV, upd, dstUpd, Nat.reduceEqDiff, reduceIte, ptr, Heap.cell, Heap.cells, q1, q2, q3, nil4]
   rfl
  ·refine ⟨⟨Nat.le_trans k09.next hn10, fun b hb => by rw [hsame b (by show b < h9.next; omega) (by omega) (by omega) (by omega)]; exact k09.get b hb⟩, ?_⟩
   rw [hA]; rfl
 | ok Je =>
  rw [hA] at ho
  obtain ⟨rfl, told, J', hcnt, ⟨lv, sv, fv, mv, a, b, c, p⟩, hn0, her⟩ := ho
  refine Wo_nil ?_
  show Wc T _ _ _
  have lj := p.lt
  have hcc : h9.cells h7.next 1 4 = some [sv, fv, .int .i64 J'.main, mv] := by
   simp only [Heap.cells, p.get]; rfl
  refine Wc_seq (Wc_ops (Wo_pre 4 (fun _ => by simp only [go_sem, seval, hcc]; rfl) ?_))
  refine Wo_op (iop_store (b := h.next) (esz := 0) (cs := [sv, fv, .int .i64 J'.main, mv]) (z := nil4) (by simp only [upd, dstUpd, reduceIte, Nat.reduceEqDiff]; rfl) (by simp only [upd, dstUpd, reduceIte, Nat.reduceEqDiff]) rfl ga9 rfl) ?_
  refine Wo_op (iop_store1 (b := h1.next) (esz := 0) (v := .int .i64 0) (x := .int .i64 0) (by simp only [upd, dstUpd, reduceIte, Nat.reduceEqDiff]; rfl) rfl (by rw [set_get_ne' _ _ (by omega)]; exact gb9)) ?_
  refine Wo_op (iop_store1 (b := h2.next) (esz := 0) (v := .int .i64 0) (x := .int .i64 0) (by simp only [upd, dstUpd, reduceIte, Nat.reduceEqDiff]; rfl) rfl (by rw [set_get_ne' _ _ (by omega), set_get_ne' _ _ (by omega)]; exact gc9)) (Wo_nil ?_)
  show Wc T _ _ _
  have q1 : (((h9.set h.next (.cells [sv, fv, .int .i64 J'.main, mv] true 0)).set h1.next (.cells [.int .i64 0] true 0)).set h2.next (.cells [.int .i64 0] true 0)).get h.next = some (.cells [sv, fv, .int .i64 J'.main, mv] true 0) := by rw [set_get_ne' _ _ (by omega), set_get_ne' _ _ (by omega), set_get']
  have q2 : (((h9.set h.next (.cells [sv, fv, .int .i64 J'.main, mv] true 0)).set h1.next (.cells [.int .i64 0] true 0)).set h2.next (.cells [.int .i64 0] true 0)).get h1.next = some (.cells [.int .i64 0] true 0) := by rw [set_get_ne' _ _ (by omega), set_get']
  have q3 : (((h9.set h.next (.cells [sv, fv, .int .i64 J'.main, mv] true 0)).set h1.next (.cells [.int .i64 0] true 0)).set h2.next (.cells [.int .i64 0] true 0)).get h2.next = some (.cells [.int .i64 0] true 0) := by rw [set_get']
  have k10 : Kept h (((h9.set h.next (.cells [sv, fv, .int .i64 J'.main, mv] true 0)).set h1.next (.cells [.int .i64 0] true 0)).set h2.next (.cells [.int .i64 0] true 0)) := ((k09.set (Nat.le_refl _) _).set (by omega) _).set (by omega) _
  have hoth : ∀ (w : Nat) (b : Nat) (cs : List Value), w ≠ 0 → b < h9.next → h9.get b = some (.cells cs true w) → (((h9.set h.next (.cells [sv, fv, .int .i64 J'.main, mv] true 0)).set h1.next (.cells [.int .i64 0] true 0)).set h2.next (.cells [.int .i64 0] true 0)).get b = some (.cells cs true w) := fun w b cs hw _ hb => by
   have ne : ∀ c cs', h9.get c = some (.cells cs' true 0) → b ≠ c := fun c cs' hc e => by
    subst e; rw [hb] at hc; simp only [Option.some.injEq, Blk.cells.injEq] at hc; exact hw hc.2.2
   rw [set_get_ne' _ _ (ne _ _ gc9), set_get_ne' _ _ (ne _ _ gb9), set_get_ne' _ _ (ne _ _ ga9)]; exact hb
  have hnx : (((h9.set h.next (.cells [sv, fv, .int .i64 J'.main, mv] true 0)).set h1.next (.cells [.int .i64 0] true 0)).set h2.next (.cells [.int .i64 0] true 0)).next = h9.next := rfl
  refine Wc_ret ?_
  show Lv T _ none ⟨_, (((h9.set h.next (.cells [sv, fv, .int .i64 J'.main, mv] true 0)).set h1.next (.cells [.int .i64 0] true 0)).set h2.next (.cells [.int .i64 0] true 0)), _⟩ _
  generalize ((h9.set h.next (.cells [sv, fv, .int .i64 J'.main, mv] true 0)).set h1.next (.cells [.int .i64 0] true 0)).set h2.next (.cells [.int .i64 0] true 0) = h10 at q1 q2 q3 k10 hoth hnx ⊢
  have hle : h9.next ≤ h10.next := Nat.le_of_eq hnx.symm
  refine Lv_one (g := 14) (args := [ptr h.next 0, ptr h1.next 0, ptr h2.next 0]) rfl F.prog1 (by simp [C14]) (deferC_none fun e => ?_)
  refine ⟨.inl rfl, rfl, ⟨[], rfl⟩, [.agg #[sv, fv, .int .i64 J'.main, mv], .int .i64 0, .int .i64 0], ?_, k10, ?_⟩
  ·simp only [resAll, resV, upd, dstUpd, Nat.reduceEqDiff, reduceIte, ptr, Heap.cell, Heap.cells, q1, q2, q3]
   rfl
  rw [hA]
  refine ⟨_, told, J', rfl, hcnt, ⟨sv, fv, mv, rfl, ?_, ?_, ?_, ?_, ?_⟩, her⟩
  ·rw [← hn0]; exact p.srt.esz hle (fun b cs hb hg => hoth 2 b cs (by decide) hb hg)
  ·rw [← hn0]; exact p.fns.esz hle (fun b cs hb hg => hoth 4 b cs (by decide) hb hg)
  ·rw [← hn0]; exact p.mg.esz hle (fun b cs hb hg => hoth 1 b cs (by decide) hb hg)
  ·rw [← hn0]; exact fun x hx => (p.vars x hx).esz hle (fun b cs hb hg => hoth 1 b cs (by decide) hb hg)
  ·rw [← hn0]; exact fun x hx => (p.fields x hx).esz hle (fun b cs hb hg => hoth 1 b cs (by decide) hb hg)
end Go.Idl
end

section
namespace Go.Idl
def ndOf (p : PN) : Nd := ⟨p.kind, p.text, p.kids, undef, p.pos⟩
def bare (l : List Nd) : List Nd := l.map fun x => ndOf x.pn
theorem bare_at (l : List Nd) (n : Nat) : (bare l)[n]? = l[n]?.map fun x => ndOf x.pn := by rw [bare, List.getElem?_map]
theorem bare_len (l : List Nd) : (bare l).length = l.length := by rw [bare, List.length_map]
theorem posAt_b (l : List Nd) (n : Int) : posAt (bare l) n = posAt l n := by
 simp only [posAt, bare_at]; cases l[n.toNat]? <;> rfl
theorem kindAt_b (l : List Nd) (n : Int) : kindAt (bare l) n = kindAt l n := by
 simp only [kindAt, bare_at]; cases l[n.toNat]? <;> rfl
theorem textAt_b (l : List Nd) (n : Int) : textAt (bare l) n = textAt l n := by
 simp only [textAt, bare_at]; cases l[n.toNat]? <;> rfl
theorem exprE_b (l : List Nd) (J : JSt) (sc : List ByteArray) : ∀ f n, exprE (bare l) J sc f n = exprE l J sc f n
 | 0, _ => rfl
 | f + 1, n => by
  rw [exprE, exprE, bare_at]
  cases l[n]? with
  | none => rfl
  | some x =>
   simp only [Option.map_some]
   have : (fun k : Int => exprE (bare l) J sc f k.toNat) = fun k => exprE l J sc f k.toNat := funext fun k => exprE_b l J sc f _
   rw [this]
   rfl
theorem greensE_b (l : List Nd) (sc : List ByteArray) : ∀ ks seen, greensE (bare l) sc ks seen = greensE l sc ks seen
 | [], _ => rfl
 | k :: ks, seen => by simp only [greensE, textAt_b, posAt_b, greensE_b l sc ks]
theorem mergeE_b (l : List Nd) (sc : List ByteArray) (f : Bool) (x : Nd) : mergeE (bare l) sc f (ndOf x.pn) = mergeE l sc f x := by
 simp only [mergeE, greensE_b]; rfl
theorem kidE_b (l : List Nd) (J : JSt) (bl bl' : Nat → List ByteArray → Bool → Option CE) (hb : ∀ n sc w, bl n sc w = bl' n sc w) (sc : List ByteArray) (wh : Bool) : kidE (bare l) J bl sc wh = kidE l J bl' sc wh := by
 funext c
 simp only [kidE, kindAt_b, exprE_b, bare_len, hb]
theorem stmtsE_b (l : List Nd) (J : JSt) (bl bl' : Nat → List ByteArray → Bool → Option CE) (hb : ∀ n sc w, bl n sc w = bl' n sc w) : ∀ ks sc lf, stmtsE (bare l) J bl ks sc lf = stmtsE l J bl' ks sc lf
 | [], _, _ => rfl
 | k :: ks, sc, lf => by
  rw [stmtsE, stmtsE, bare_at]
  cases l[k.toNat]? with
  | none => rfl
  | some x =>
   simp only [Option.map_some, mergeE_b, exprE_b, bare_len, kidE_b l J bl bl' hb, stmtsE_b l J bl bl' hb ks]
   rfl
theorem blockE_b (l : List Nd) (J : JSt) : ∀ f n sc lp, blockE (bare l) J f n sc lp = blockE l J f n sc lp
 | 0, _, _, _ => rfl
 | f + 1, n, sc, lp => by
  rw [blockE, blockE, bare_at]
  cases l[n]? with
  | none => rfl
  | some x =>
   simp only [Option.map_some]
   exact stmtsE_b l J _ _ (blockE_b l J f) x.kids sc lp
theorem letsL_b (l : List Nd) : ∀ f n, letsL (bare l) f n = letsL l f n
 | 0, _ => rfl
 | f + 1, n => by
  rw [letsL, letsL, bare_at]
  cases l[n]? with
  | none => rfl
  | some x =>
   simp only [Option.map_some]
   have : (fun k : Int => letsL (bare l) f k.toNat) = fun k => letsL l f k.toNat := funext fun k => letsL_b l f _
   rw [this]
   rfl
theorem parsE_b (l : List Nd) : ∀ ks sc, parsE (bare l) ks sc = parsE l ks sc
 | [], _ => rfl
 | k :: ks, sc => by simp only [parsE, textAt_b, posAt_b, parsE_b l ks]
theorem bodyE_b (l : List Nd) (J : JSt) (v p : Nat) (x : Nd) : bodyE (bare l) J v p (ndOf x.pn) = bodyE l J v p x := by
 simp only [bodyE, parsE_b, blockE_b, bare_len]; rfl
theorem fieldsE_b (l : List Nd) : ∀ ks fl, fieldsE (bare l) ks fl = fieldsE l ks fl
 | [], _ => rfl
 | k :: ks, fl => by simp only [fieldsE, textAt_b, posAt_b, fieldsE_b l ks]
theorem recordS_b (l : List Nd) : recordS (bare l) = recordS l := by
 funext k J
 have ht : textAt (bare l) = textAt l := funext (textAt_b l)
 rw [recordS, recordS, bare_at]
 cases l[k.toNat]? with
 | none => rfl
 | some x =>
  simp only [Option.map_some, fieldsE_b, ht]
  rfl
theorem faceS_b (l : List Nd) : faceS (bare l) = faceS l := by
 funext k J
 have ht : textAt (bare l) = textAt l := funext (textAt_b l)
 rw [faceS, faceS, bare_at]
 cases l[k.toNat]? with
 | none => rfl
 | some x =>
  simp only [Option.map_some, faceV, letsL_b, ht, bare_len]
  rfl
theorem rowE_b (l : List Nd) (J : JSt) : rowE (bare l) J = rowE l J := by
 funext r
 rw [rowE, rowE, bare_at]
 cases l[r.node]? with
 | none => rfl
 | some x => exact bodyE_b l J _ _ x
theorem rootKids_b (l : List Nd) : rootKids (bare l) = rootKids l := by
 simp only [rootKids, bare_at, bare_len]; cases l[l.length - 1]? <;> rfl
theorem allS_b (l : List Nd) : allS (bare l) = allS l := by
 have hk : kindAt (bare l) = kindAt l := funext (kindAt_b l)
 simp only [allS, rootKids_b, hk, recordS_b, faceS_b, rowE_b]
theorem allS_pn {l : List Nd} {p : List PN} (h : l.map Nd.pn = p) : allS l = allS (p.map ndOf) := by
 rw [← allS_b, bare, ← h, List.map_map]; rfl
def fuelS (s : ByteArray) : Nat := 12 * (scanS s).1.length + 20
def readS (s : ByteArray) : PO := (progS numS (fuelS s) s).getD (.err 0 0)
theorem read_fine {s : ByteArray} (hsz : s.size < 4611686018427387904) : progS numS (fuelS s) s = some (readS s) ∧ RFine s (readS s) := by
 have key : ∃ r, progS numS (fuelS s) s = some r ∧ RFine s r := by
  rw [progS, fuelS]
  by_cases he : (scanS s).2.2 = 0
  ·rw [if_pos he]
   cases hn : nestL (scanS s).1 0 with
   | some a => exact ⟨_, rfl, (by decide : (51 : Int) ≠ 0)⟩
   | none => exact tree_fine (scan_tok hsz he) numS_fine (Nat.le_refl _)
  ·rw [if_neg he]; exact ⟨_, rfl, he⟩
 obtain ⟨r, h1, h2⟩ := key
 have : readS s = r := by rw [readS, h1]; rfl
 rw [this]; exact ⟨h1, h2⟩
def NZ (o : Option CE) : Prop := ∀ e, o = some e → e.2 ≠ 0
theorem NZ.none : NZ none := fun e h => by cases h
theorem NZ.some {a e : Int} (h : e ≠ 0) : NZ (some (a, e)) := fun x hx => by cases hx; exact h
theorem NZ.find {α : Type} {f : α → Option CE} {l : List α} (h : ∀ x, NZ (f x)) : NZ (l.findSome? f) := fun e he => by
 obtain ⟨x, _, hx⟩ := List.exists_of_findSome?_eq_some he
 exact h x e hx
theorem kindE_nz (J : JSt) (sc : List ByteArray) (x : Nd) : NZ (kindE J sc x) := by
 unfold kindE
 repeat' split
 all_goals first | exact NZ.none | exact NZ.some (by decide)
theorem exprE_nz (l : List Nd) (J : JSt) (sc : List ByteArray) : ∀ f n, NZ (exprE l J sc f n)
 | 0, _ => NZ.none
 | f + 1, n => by
  rw [exprE]
  cases l[n]? with
  | none => exact NZ.none
  | some x =>
   simp only
   cases hk : kindE J sc x with
   | some e => exact fun e' h => by cases h; exact kindE_nz J sc x e hk
   | none => exact NZ.find fun k => exprE_nz l J sc f _
theorem greensE_nz (l : List Nd) (sc : List ByteArray) : ∀ ks seen, NZ (greensE l sc ks seen)
 | [], _ => NZ.none
 | k :: ks, seen => by
  rw [greensE]
  split
  ·exact greensE_nz l sc ks _
  ·exact NZ.some (by decide)
theorem mergeE_nz (l : List Nd) (sc : List ByteArray) (f : Bool) (x : Nd) : NZ (mergeE l sc f x) := by
 rw [mergeE]
 split
 ·exact greensE_nz l sc _ _
 ·exact NZ.some (by decide)
theorem stmtsE_nz (l : List Nd) (J : JSt) (bl : Nat → List ByteArray → Bool → Option CE) (hb : ∀ n sc w, NZ (bl n sc w)) : ∀ ks sc lf, NZ (stmtsE l J bl ks sc lf)
 | [], _, _ => NZ.none
 | k :: ks, sc, lf => by
  have ih := stmtsE_nz l J bl hb ks
  rw [stmtsE]
  cases l[k.toNat]? with
  | none => exact NZ.none
  | some x =>
   simp only
   split
   ·cases hm : mergeE l sc lf x with
    | some e => exact fun e' h => by cases h; exact mergeE_nz l sc lf x e hm
    | none => exact ih _ _
   ·split
    ·split
     ·exact NZ.some (by decide)
     ·cases hm : exprE l J sc l.length (x.kids.getD 0 0).toNat with
      | some e => exact fun e' h => by cases h; exact exprE_nz l J sc _ _ e hm
      | none => exact ih _ _
    ·cases hm : x.kids.findSome? (kidE l J bl sc (x.kind == 8)) with
     | some e =>
      refine fun e' h => ?_
      cases h
      refine NZ.find (fun c => ?_) e hm
      rw [kidE]
      split
      ·exact hb _ _ _
      ·exact exprE_nz l J sc _ _
     | none => exact ih _ _
theorem blockE_nz (l : List Nd) (J : JSt) : ∀ f n sc lp, NZ (blockE l J f n sc lp)
 | 0, _, _, _ => NZ.none
 | f + 1, n, sc, lp => by
  rw [blockE]
  cases l[n]? with
  | none => exact NZ.none
  | some x => exact stmtsE_nz l J _ (blockE_nz l J f) x.kids sc lp
theorem parsE_nz (l : List Nd) : ∀ ks sc, NZ (parsE l ks sc).1
 | [], _ => NZ.none
 | k :: ks, sc => by
  rw [parsE]
  split
  ·exact NZ.some (by decide)
  ·exact parsE_nz l ks _
theorem bodyE_nz (l : List Nd) (J : JSt) (v p : Nat) (x : Nd) : NZ (bodyE l J v p x) := by
 rw [bodyE]
 split
 ·have := parsE_nz l (x.kids.take p) []
  split
  ·rename_i e _ he
   rw [he] at this; exact this
  ·exact blockE_nz l J _ _ _ _
 ·exact NZ.some (by decide)
theorem fieldsE_nz (l : List Nd) : ∀ ks fl, NZ (fieldsE l ks fl).1
 | [], _ => NZ.none
 | k :: ks, fl => by
  rw [fieldsE]
  split
  ·exact fieldsE_nz l ks _
  ·exact NZ.some (by decide)
theorem foldS_nz {f : Int → JSt → Except CE JSt} (hf : ∀ k J e, f k J = .error e → e.2 ≠ 0) : ∀ ks J e, foldS f ks J = .error e → e.2 ≠ 0
 | [], J, e, h => by cases h
 | k :: ks, J, e, h => by
  rw [foldS] at h
  cases hk : f k J with
  | error e' => rw [hk] at h; cases h; exact hf _ _ _ hk
  | ok J' => rw [hk] at h; exact foldS_nz hf ks J' e h
theorem recordS_nz (l : List Nd) (k : Int) (J : JSt) (e : CE) (h : recordS l k J = .error e) : e.2 ≠ 0 := by
 rw [recordS] at h
 cases hx : l[k.toNat]? with
 | none => rw [hx] at h; cases h
 | some x =>
  rw [hx] at h
  simp only at h
  have := fieldsE_nz l x.kids J.fl
  split at h
  ·split at h
   ·split at h
    ·rename_i e' _ he
     rw [he] at this
     cases h; exact this _ rfl
    ·cases h
   ·cases h; exact (by decide : (2 : Int) ≠ 0)
  ·cases h; exact (by decide : (80 : Int) ≠ 0)
theorem faceS_nz (l : List Nd) (k : Int) (J : JSt) (e : CE) (h : faceS l k J = .error e) : e.2 ≠ 0 := by
 rw [faceS] at h
 cases hx : l[k.toNat]? with
 | none => rw [hx] at h; cases h
 | some x =>
  rw [hx] at h
  simp only at h
  split at h
  ·cases h
  ·cases h; exact (by decide : (80 : Int) ≠ 0)
theorem rowE_nz (l : List Nd) (J : JSt) (r : Fnr) : NZ (rowE l J r) := by
 rw [rowE]
 cases l[r.node]? with
 | none => exact NZ.none
 | some x => exact bodyE_nz l J _ _ x
theorem allS_nz {l : List Nd} {e : CE} (h : allS l = .error e) : e.2 ≠ 0 := by
 simp only [allS] at h
 split at h
 ·split at h
  ·rename_i e' he
   cases h; exact foldS_nz (recordS_nz l) _ _ _ he
  ·split at h
   ·rename_i e' he
    cases h; exact foldS_nz (faceS_nz l) _ _ _ he
   ·split at h
    ·split at h
     ·rename_i e' he
      cases h; exact NZ.find (rowE_nz l _) _ he
     ·cases h
    ·cases h; exact (by decide : (83 : Int) ≠ 0)
 ·cases h; exact (by decide : (2 : Int) ≠ 0)
def ckA : ByteArray := ⟨#[102, 110, 32, 109, 97, 105, 110, 40, 41, 32, 123, 32, 109, 101, 114, 103, 101, 40, 41, 59, 32, 114, 101, 116, 117, 114, 110, 32, 48, 59, 32, 125]⟩
def ckB : ByteArray := ⟨#[102, 110, 32, 109, 97, 105, 110, 40, 41, 32, 123, 32, 108, 101, 116, 32, 120, 32, 61, 32, 49, 59, 32, 119, 104, 105, 108, 101, 32, 120, 32, 123, 32, 109, 101, 114, 103, 101, 40, 120, 41, 59, 32, 120, 32, 61, 32, 120, 32, 45, 32, 49, 59, 32, 125, 32, 114, 101, 116, 117, 114, 110, 32, 120, 59, 32, 125]⟩
theorem ckA_run : (match readS ckA with | .ok l => (match allS (l.map ndOf) with | .error (a, e) => decide (a = 12) && decide (e = 82) | _ => false) | _ => false) = true := by kernel_rfl
theorem ckB_run : (match readS ckB with | .ok l => (match allS (l.map ndOf) with | .ok J => decide (5 < l.length) && decide (J.fns.length = 1) && decide (((List.range l.length).filter fun k => kindAt (l.map ndOf) ((k : Nat) : Int) == 13).length = 1) | _ => false) | _ => false) = true := by kernel_rfl
end Go.Idl
end

section
namespace Go.Idl
variable {T : Tbl}
structure SFns (T : Tbl) : Prop where
 read : ReadFns T
 p : PFns T
 source : T.fn 7 = some C7
def SrcPost (s : ByteArray) (h : Heap) (o : Out) (h' : Heap) : Prop := Kept h h' ∧ match readS s with
 | .err a er => o = .ret (.tuple #[.slice none 0 0, .agg nil4.toArray, .int .i64 a, .int .i64 er])
 | .ok lp => match allS (lp.map ndOf) with
  | .error (a, er) => o = .ret (.tuple #[.slice none 0 0, .agg nil4.toArray, .int .i64 a, .int .i64 er])
  | .ok Je => ∃ v nds dv told J', o = .ret (.tuple #[v, dv, .int .i64 0, .int .i64 0]) ∧ nds.map Nd.pn = lp ∧ nodesAt h' v nds ∧ GoodT nds ∧ Once nds told ∧ dAt h.next h' dv J' ∧ J'.er = { Je with mg := mgOf nds told }
theorem kz_of_kids {h : Heap} {v : Value} {l : List Int} (hk : kidsAt (fun _ => False) h v l) : kzAt h v := fun a n c e => by
 rcases hk with ⟨e2, _⟩ | ⟨b, c', e1, e2, e3, _⟩
 ·rw [e2] at e; cases e
 ·rw [e1] at e; cases e; exact ⟨_, _, _, e2, e3, .inr rfl⟩
theorem source_ok (F : SFns T) {s : ByteArray} (hsz : s.size < 4611686018427387904) {h : Heap} : Wk T (.fn 7) [.string s] h (SrcPost s h) := by
 obtain ⟨hs, hr⟩ := read_fine hsz
 refine Wk_fn F.source (by simp [C7]) ?_
 simp only [C7]
 refine Wc_seq (Wc_ops (Wo_pre 1 (fun _ => by simp only [go_sem, seval]; rfl) (Wo_alloc fun h1 n1 => (Wo_run (fun _ => by simp only [go_sem, seval]; rfl) ?_))))
 show Wc T _ _ _
 have g1 := n1.get
 have k1 := n1.kept
 have b1 := n1.next
 refine Wc_seq (Wc_ops (Wo_pre 1 (fun _ => by simp only [go_sem, seval]; rfl) ?_))
 refine Wo_call ((read_at F.read hsz hs).mono ?_)
 unfold SrcPost
 generalize readS s = r at hr ⊢
 cases r with
 | err a er =>
  rintro o h2 ⟨k2, rfl⟩
  have hr0 : er ≠ 0 := hr
  have kb : (er != 0) = true := by simpa using hr0
  have g2 : h2.get h.next = some (.cells nil4 true 0) := by rw [k2.get _ (by omega)]; exact g1
  have k02 := k1.trans k2
  refine (Wo_run (fun _ => by simp only [go_sem, seval]; rfl) ?_)
  show Wc T _ _ _
  refine Wc_seq (Wc_seq (Wc_ops (Wo_run (fun _ => by simp only [go_sem, seval, kb]; rfl) ?_)))
  show Wc T _ _ _
  refine Wc_cond true (by first | rfl | assumption) (fun _ => ?_) nofun
  refine Wc_seq (Wc_ops ?_)
  refine Wo_op (v := .agg nil4.toArray) (h' := h2) (by rfl) ?_
  refine (Wo_pre 3 (fun _ => by simp only [go_sem, seval]; rfl) ?_)
  refine Wo_op (iop_store (b := h.next) (esz := 0) (cs := nil4) (z := nil4) (by simp only [upd, dstUpd, reduceIte, Nat.reduceEqDiff]; rfl) (by simp only [upd, dstUpd, reduceIte, Nat.reduceEqDiff]) rfl g2 rfl) ?_
  refine (Wo_run (fun _ => by simp only [go_sem, seval]; rfl) ?_)
  show Wc T _ _ _
  refine Wc_ret ⟨.inr rfl, rfl, [.slice none 0 0, .agg nil4.toArray, .int .i64 a, .int .i64 er], ?_, k02.set (Nat.le_refl _) _, rfl⟩
  simp only [resAll, resV, upd, dstUpd, Nat.reduceEqDiff, reduceIte, ptr, Heap.cell, Heap.cells, set_get', nil4]
  rfl
 | ok l =>
  rintro o h2 ⟨k2, v, nds, rfl, hown, hkd, hmap⟩
  have hn := nodes_of_own hown hkd
  obtain ⟨seg, kids, kn, hl1, hfor, hkn, hlen, hdeep⟩ := hr
  have hlen' : nds.length ≤ 50000 := by rw [← hmap, List.length_map] at hlen; exact hlen
  have hdeep' : deepOf nds ≤ 200 := by rw [← hmap, deepOf_pn] at hdeep; exact hdeep
  obtain ⟨g, hx⟩ := good_of_forest hfor hkn (by rw [hmap, hl1]) hlen' hdeep'
  have hK : ∀ x ∈ nds, x.kids.length ≤ 100000 := fun x hx => by
   obtain ⟨q1, q2⟩ := hfor.kids_le
   have hll : seg.length + 1 = nds.length := by rw [← List.length_map (f := Nd.pn), hmap, hl1]; simp
   have hm : x.pn ∈ l := by rw [← hmap]; exact List.mem_map_of_mem hx
   rw [hl1] at hm
   rcases List.mem_append.1 hm with hm | hm
   ·have := q1 _ hm
    have e : x.pn.kids = x.kids := rfl
    rw [e] at this; omega
   ·rw [List.mem_singleton] at hm
    have e : x.kids = kids := congrArg PN.kids hm
    rw [e]; omega
  have hS : ∀ x ∈ nds, x.text.size < 4611686018427387904 := fun x hm => (hx x hm).2.2
  have hkz : ∀ x ∈ nds, kzAt h2 x.kv := fun x hm => kz_of_kids (hkd x hm)
  have g2 : h2.get h.next = some (.cells nil4 true 0) := by rw [k2.get _ (by omega)]; exact g1
  have k02 := k1.trans k2
  have b2 := k2.next
  refine (Wo_run (fun _ => by simp only [go_sem, seval]; rfl) ?_)
  show Wc T _ _ _
  refine Wc_seq (Wc_seq (Wc_ops (Wo_run (fun _ => by simp only [go_sem, seval, bne]; rfl) ?_)))
  show Wc T _ _ _
  refine Wc_cond false (by first | rfl | assumption) nofun (fun _ => Wc_skip ?_)
  show Wc T _ _ _
  obtain ⟨va, vc, hvl⟩ := hn.len
  refine Wc_seq (Wc_ops (Wo_pre 1 (fun _ => by simp only [go_sem, seval]; rfl) ?_))
  refine Wo_call ((checkProgram_ok F.p g hK hS hn hkz).mono ?_)
  rintro o h3 ⟨k3, ho⟩
  have k03 := k02.trans k3
  have b3 := k3.next
  have g3 : h3.get h.next = some (.cells nil4 true 0) := by rw [k3.get _ (by omega)]; exact g2
  have hpn := allS_pn hmap
  cases hA : allS nds with
  | error er =>
   obtain ⟨a, er⟩ := er
   have hnz := allS_nz hA
   have kb : (er != 0) = true := by simpa using hnz
   rw [hA] at ho hpn
   simp only at ho
   subst ho
   show Wo T _ _ _
   refine (Wo_pre 4 (fun _ => by simp only [go_sem, seval]; rfl) ?_)
   refine Wo_op (v := ptr h3.next 0) (h' := h3.new (.cells nil4 true 0)) rfl ?_
   refine Wo_op (iop_store (b := h3.next) (esz := 0) (cs := nil4) (z := nil4) (by simp only [upd, dstUpd, reduceIte, Nat.reduceEqDiff]) (by simp only [upd, dstUpd, reduceIte, Nat.reduceEqDiff]) rfl (new_get' _ _) rfl) ?_
   have n4 := New1.of_set h3 (.cells nil4 true 0) (.cells nil4 true 0)
   generalize (h3.new (.cells nil4 true 0)).set h3.next (.cells nil4 true 0) = h4 at n4 ⊢
   have g4 : h4.get h.next = some (.cells nil4 true 0) := by rw [n4.kept.get _ (by omega)]; exact g3
   have k04 := k03.trans n4.kept
   refine (Wo_run (fun _ => by simp only [go_sem, seval]; rfl) ?_)
   show Wc T _ _ _
   refine Wc_seq (Wc_seq (Wc_ops (Wo_run (fun _ => by simp only [go_sem, seval, kb]; rfl) ?_)))
   show Wc T _ _ _
   refine Wc_cond true (by first | rfl | assumption) (fun _ => ?_) nofun
   refine Wc_seq (Wc_ops ?_)
   refine Wo_op (v := .agg nil4.toArray) (h' := h4) (by rfl) ?_
   refine (Wo_pre 3 (fun _ => by simp only [go_sem, seval]; rfl) ?_)
   refine Wo_op (iop_store (b := h.next) (esz := 0) (cs := nil4) (z := nil4) (by simp only [upd, dstUpd, reduceIte, Nat.reduceEqDiff]; rfl) (by simp only [upd, dstUpd, reduceIte, Nat.reduceEqDiff]) rfl g4 rfl) ?_
   refine (Wo_run (fun _ => by simp only [go_sem, seval]; rfl) ?_)
   show Wc T _ _ _
   refine Wc_ret ⟨.inr rfl, rfl, [.slice none 0 0, .agg nil4.toArray, .int .i64 a, .int .i64 er], ?_, k04.set (Nat.le_refl _) _, ?_⟩
   ·simp only [resAll, resV, upd, dstUpd, Nat.reduceEqDiff, reduceIte, ptr, Heap.cell, Heap.cells, set_get', nil4]
    rfl
   ·simp only [← hpn]; rfl
  | ok Je =>
   rw [hA] at ho hpn
   obtain ⟨dv, told, J', rfl, hcnt, ⟨sv, fv, mv, rfl, d1, d2, d3, d4, d5⟩, her⟩ := ho
   show Wo T _ _ _
   refine (Wo_pre 4 (fun _ => by simp only [go_sem, seval]; rfl) ?_)
   refine Wo_op (v := ptr h3.next 0) (h' := h3.new (.cells nil4 true 0)) rfl ?_
   refine Wo_op (iop_store (b := h3.next) (esz := 0) (cs := [sv, fv, .int .i64 J'.main, mv]) (z := nil4) (by simp only [upd, dstUpd, reduceIte, Nat.reduceEqDiff]) (by simp only [upd, dstUpd, reduceIte, Nat.reduceEqDiff]) rfl (new_get' _ _) rfl) ?_
   have n4 := New1.of_set h3 (.cells nil4 true 0) (.cells [sv, fv, .int .i64 J'.main, mv] true 0)
   generalize (h3.new (.cells nil4 true 0)).set h3.next (.cells [sv, fv, .int .i64 J'.main, mv] true 0) = h4 at n4 ⊢
   have g4 : h4.get h.next = some (.cells nil4 true 0) := by rw [n4.kept.get _ (by omega)]; exact g3
   have k04 := k03.trans n4.kept
   have b4 := n4.next
   have hcc : h4.cells h3.next 0 4 = some [sv, fv, .int .i64 J'.main, mv] := cells_all n4.get rfl
   refine (Wo_run (fun _ => by simp only [go_sem, seval]; rfl) ?_)
   show Wc T _ _ _
   refine Wc_seq (Wc_seq (Wc_ops (Wo_run (fun _ => by simp only [go_sem, seval, bne]; rfl) ?_)))
   show Wc T _ _ _
   refine Wc_cond false (by first | rfl | assumption) nofun (fun _ => Wc_skip ?_)
   show Wc T _ _ _
   refine Wc_seq (Wc_draw_still (by decide) ?_)
   refine (Wo_pre 3 (fun _ => by simp only [go_sem, seval, hcc]; rfl) ?_)
   refine Wo_op (iop_store (b := h.next) (esz := 0) (cs := [sv, fv, .int .i64 J'.main, mv]) (z := nil4) (by simp only [upd, dstUpd, reduceIte, Nat.reduceEqDiff]; rfl) (by simp only [upd, dstUpd, reduceIte, Nat.reduceEqDiff]) rfl g4 rfl) ?_
   refine (Wo_run (fun _ => by simp only [go_sem, seval]; rfl) ?_)
   refine ⟨rfl, ?_⟩
   show Wc T _ _ _
   have k5 := k04.set (Nat.le_refl _) (.cells [sv, fv, .int .i64 J'.main, mv] true 0)
   have hoth : ∀ (w : Nat) (b : Nat) (cs : List Value), w ≠ 0 → b < h3.next → h3.get b = some (.cells cs true w) → (h4.set h.next (.cells [sv, fv, .int .i64 J'.main, mv] true 0)).get b = some (.cells cs true w) := fun w b cs hw hb hg => by
    have hg4 : h4.get b = some (.cells cs true w) := by rw [n4.kept.get _ hb]; exact hg
    rw [set_get_ne' _ _ (fun e => by subst e; rw [g4] at hg4; simp only [Option.some.injEq, Blk.cells.injEq] at hg4; exact hw hg4.2.2.symm)]; exact hg4
   have hle : h3.next ≤ (h4.set h.next (.cells [sv, fv, .int .i64 J'.main, mv] true 0)).next := by show h3.next ≤ h4.next; omega
   have hlo : h.next ≤ h2.next := by omega
   refine Wc_ret ⟨.inr rfl, rfl, [v, .agg #[sv, fv, .int .i64 J'.main, mv], .int .i64 0, .int .i64 0], ?_, k5, ?_⟩
   ·simp only [resAll, resV, upd, dstUpd, Nat.reduceEqDiff, reduceIte, ptr, Heap.cell, Heap.cells, set_get']
    rfl
   ·simp only [← hpn]
    refine ⟨v, nds, _, told, J', rfl, hmap, ?_, g, hcnt, ⟨sv, fv, mv, rfl, ?_, ?_, ?_, ?_, ?_⟩, her⟩
    ·refine nodes_of_own (X := fun _ => False) ((hown.kept k3).esz hle (fun b cs hb hg => hoth 4 b cs (by decide) hb hg)) fun x hx => ?_
     rcases hkd x hx with e | ⟨b, c, e1, e2, e3, e4⟩
     ·exact .inl e
     ·exact .inr ⟨b, c, e1, by have := n4.kept.next; show b < h4.next; omega, hoth 1 b _ (by decide) (by omega) (by rw [k3.get _ e2]; exact e3), e4⟩
    ·exact (d1.mono hlo).esz hle (fun b cs hb hg => hoth 2 b cs (by decide) hb hg)
    ·exact (d2.mono hlo).esz hle (fun b cs hb hg => hoth 4 b cs (by decide) hb hg)
    ·have d3' : ownI h.next h3 mv J'.mg := by
      rcases d3 with e | ⟨b, q1, q2⟩
      ·exact .inl e
      ·exact .inr ⟨b, by omega, q2⟩
     exact d3'.esz hle (fun b cs hb hg => hoth 1 b cs (by decide) hb hg)
    ·exact fun x hx => ((d4 x hx).mono hlo).esz hle (fun b cs hb hg => hoth 1 b cs (by decide) hb hg)
    ·exact fun x hx => ((d5 x hx).mono hlo).esz hle (fun b cs hb hg => hoth 1 b cs (by decide) hb hg)
end Go.Idl
end

section
namespace Go.Idl
variable {T : Tbl}
theorem check_awake (F : SFns T) (hT : T.fn 4 = some C4) {h : Heap} : Wk T (.fn 4) [] h (fun o h' => Kept h h' ∧ o = .ret (.bool true)) := by
 have eA := ckA_run
 have eB := ckB_run
 split at eA
 case h_2 => cases eA
 rename_i la hA
 split at eA
 case h_2 => cases eA
 rename_i pa ea hA2
 split at eB
 case h_2 => cases eB
 rename_i lb hB
 split at eB
 case h_2 => cases eB
 rename_i Jb hB2
 simp only [Bool.and_eq_true, decide_eq_true_eq] at eA eB
 obtain ⟨rfl, rfl⟩ := eA
 obtain ⟨⟨eB1, eB2⟩, eB3⟩ := eB
 refine Wk_fn hT (by simp [C4]) ?_
 simp only [C4]
 refine Wc_seq (Wc_ops (Wo_run (fun _ => by simp only [go_sem, seval]; rfl) ?_))
 show Wc T _ _ _
 refine Wc_seq (Wc_ops (Wo_call ((source_ok F (s := ckA) (by decide)).mono ?_)))
 rintro o h1 ⟨k1, ho⟩
 rw [hA] at ho
 simp only at ho
 rw [hA2] at ho
 simp only at ho
 subst ho
 show Wo T _ _ _
 refine (Wo_pre 5 (fun _ => by simp only [go_sem, seval]; rfl) ?_)
 refine Wo_op (v := ptr h1.next 0) (h' := h1.new (.cells nil4 true 0)) rfl ?_
 refine (Wo_pre 1 (fun _ => by simp only [go_sem, seval]; rfl) ?_)
 refine Wo_op (iop_store (b := h1.next) (esz := 0) (cs := nil4) (z := nil4) (by simp only [upd, dstUpd, reduceIte, Nat.reduceEqDiff]; rfl) (by simp only [upd, dstUpd, reduceIte, Nat.reduceEqDiff]) rfl (new_get' _ _) rfl) ?_
 have n2 := New1.of_set h1 (.cells nil4 true 0) (.cells nil4 true 0)
 generalize (h1.new (.cells nil4 true 0)).set h1.next (.cells nil4 true 0) = h2 at n2 ⊢
 have k2 := k1.trans n2.kept
 refine (Wo_run (fun _ => by simp only [go_sem, seval]; rfl) ?_)
 show Wc T _ _ _
 refine Wc_seq (Wc_ops (Wo_call ((source_ok F (s := ckB) (by decide)).mono ?_)))
 rintro o h3 ⟨k3, ho⟩
 rw [hB] at ho
 simp only at ho
 rw [hB2] at ho
 obtain ⟨v, nds, dv, told, J', rfl, hmap, hn, g, honce, ⟨sv, fv, mv, rfl, d1, d2, d3, d4, d5⟩, her⟩ := ho
 have hlen : nds.length = lb.length := by rw [← hmap, List.length_map]
 have hbare : lb.map ndOf = bare nds := by rw [bare, ← hmap, List.map_map]; rfl
 have hmg : J'.mg.length = 1 := by
  have h1 : J'.mg = mgOf nds told := by have := congrArg JSt.mg her; exact this
  rw [h1, honce.mg, hlen, ← eB3, hbare]
  simp only [kindAt_b]
 have hfn : J'.fns.length = 1 := by
  have h1 : J'.er.fns = Jb.fns := by rw [her]
  have h2 : J'.er.fns.length = J'.fns.length := by simp only [JSt.er, List.length_map]
  rw [← h2, h1]; exact eB2
 obtain ⟨va, vc, hvl⟩ := hn.len
 obtain ⟨ma, mc, hml⟩ := d3.ints.len
 obtain ⟨fa, fc, hfl⟩ := d2.len
 rw [hmg] at hml
 rw [hfn] at hfl
 have h5 : (5 : Int) < ((nds.length : Nat) : Int) := by omega
 show Wo T _ _ _
 refine (Wo_pre 5 (fun _ => by simp only [go_sem, seval]; rfl) ?_)
 refine Wo_op (v := ptr h3.next 0) (h' := h3.new (.cells nil4 true 0)) rfl ?_
 refine (Wo_pre 1 (fun _ => by simp only [go_sem, seval]; rfl) ?_)
 refine Wo_op (iop_store (b := h3.next) (esz := 0) (cs := [sv, fv, .int .i64 J'.main, mv]) (z := nil4) (by simp only [upd, dstUpd, reduceIte, Nat.reduceEqDiff]; rfl) (by simp only [upd, dstUpd, reduceIte, Nat.reduceEqDiff]) rfl (new_get' _ _) rfl) ?_
 have n4 := New1.of_set h3 (.cells nil4 true 0) (.cells [sv, fv, .int .i64 J'.main, mv] true 0)
 generalize (h3.new (.cells nil4 true 0)).set h3.next (.cells [sv, fv, .int .i64 J'.main, mv] true 0) = h4 at n4 ⊢
 have k4 := (k2.trans k3).trans n4.kept
 have g4 := n4.get
 refine (Wo_run (fun _ => by simp only [go_sem, seval]; rfl) ?_)
 show Wc T _ _ _
 refine Wc_seq (Wc_ops (Wo_run (fun _ => by simp only [go_sem, seval, hvl, h5, g4, hml, hfl]; rfl) ?_))
 show Wc T _ _ _
 exact Wc_ret ⟨.inr rfl, rfl, [.bool true], by simp only [resAll, resV, ev, upd, dstUpd, reduceIte, Nat.reduceEqDiff], k4, rfl⟩
end Go.Idl
end

section
namespace Go.Idl
def Srt.Ok (h : Heap) (x : Srt) : Prop := strsAt h x.fv x.fields
theorem Srt.cells_len (x : Srt) : x.cells.length = 2 := rfl
theorem Srt.Ok.keep {h h' : Heap} {x : Srt} (hk : Kept h h') (hx : x.Ok h) : x.Ok h' := rowsAt.keep (fun _ _ => trivial) hk hx
def fieldOf : List Srt → ByteArray → Nat → Option (Nat × Nat)
 | [], _, _ => none
 | x :: l, s, i => match idxOf x.fields s 0 with
  | some k => some (i, k)
  | none => fieldOf l s (i + 1)
def fldV : Option (Nat × Nat) → Value
 | some (i, k) => .tuple #[.int .i64 i, .int .i64 k, .bool true]
 | none => .tuple #[.int .i64 0, .int .i64 0, .bool false]
theorem fieldOf_none {s : ByteArray} : ∀ {l : List Srt} {i : Nat}, (∀ x ∈ l, idxOf x.fields s 0 = none) → fieldOf l s i = none
 | [], _, _ => rfl
 | x :: l, i, h => by rw [fieldOf, h x (List.mem_cons_self ..)]; exact fieldOf_none fun y hy => h y (List.mem_cons_of_mem _ hy)
theorem fieldOf_some {s : ByteArray} : ∀ {l : List Srt} {i j : Nat} {x : Srt} {k : Nat}, (∀ m, m < j → ∀ x, l[m]? = some x → idxOf x.fields s 0 = none) → l[j]? = some x → idxOf x.fields s 0 = some k → fieldOf l s i = some (i + j, k)
 | [], _, _, _, _, _, h, _ => by simp at h
 | x :: l, i, 0, y, k, _, h, hk => by simp at h; subst h; simp only [fieldOf, hk, Nat.add_zero]
 | x :: l, i, j + 1, y, k, h1, h2, hk => by
  rw [fieldOf, h1 0 (Nat.succ_pos _) x rfl]
  rw [show i + (j + 1) = (i + 1) + j by omega]
  exact fieldOf_some (j := j) (fun m hm z hz => h1 (m + 1) (Nat.succ_lt_succ hm) z hz) (by simpa using h2) hk
abbrev srtsAt (h : Heap) (v : Value) (l : List Srt) : Prop := rowsAt Srt.cells Srt.Ok h v l
theorem srtsAt.keep {h h' : Heap} (hk : Kept h h') {v : Value} {l : List Srt} (hv : srtsAt h v l) : srtsAt h' v l := rowsAt.keep (inner := Srt.Ok) (fun hk hx => Srt.Ok.keep hk hx) hk hv
theorem field5 {T : Tbl} (hT : T.fn 5 = some C5) (hT8 : T.fn 8 = some C8) {h : Heap} {v f m g : Value} {l : List Srt} {s : ByteArray} (hv : srtsAt h v l) (hl : l.length ≤ 9223372036854775807) (hfl : ∀ x ∈ l, x.fields.length ≤ 9223372036854775807) :
 Wk T (.fn 5) [.agg #[v, f, m, g], .string s] h (fun o h' => Kept h h' ∧ o = .ret (fldV (fieldOf l s 0))) := by
 obtain ⟨va, vc, hvl⟩ := hv.len
 refine Wk_fn hT (by simp [C5]) ?_
 simp only [C5]
 refine Wc_seq (Wc_ops (Wo_box (cs := [v, f, m, g]) rfl fun h1 n1 => (Wo_run (fun _ => by simp only [go_sem, seval]; rfl) ?_)))
 show Wc T _ _ _
 refine Wc_seq (Wc_seq (Wc_ops (Wo_run (fun _ => by simp only [go_sem, seval, n1.get, hvl]; rfl) ?_)))
 show Wc T _ _ _
 refine Wc_range l.length (fun j e h' d => d = some [] ∧ Kept h h' ∧ ∀ i, i < j → ∀ x, l[i]? = some x → idxOf x.fields s 0 = none) (by decide) (by simp only [upd, dstUpd, reduceIte, Nat.reduceEqDiff]) (by simp only [upd, dstUpd, reduceIte, Nat.reduceEqDiff]) hl (by decide) ⟨rfl, n1.kept, fun i hi => by omega⟩ ?_ ?_
 ·rintro j e h' d hj ⟨rfl, hk, hne⟩ hfr h13 h12
  obtain ⟨x, hx⟩ : ∃ x, l[j]? = some x := ⟨_, List.getElem?_eq_getElem hj⟩
  obtain ⟨b, c, hvb, hb, ⟨o, z, hg⟩, hc, hin⟩ := (hv.keep hk).load Srt.cells_len hx
  have e11 : e 11 = v := ((hfr 11 (by decide)).trans (by first | rfl | assumption | (symm; assumption)))
  have e1 : e 1 = .string s := ((hfr 1 (by decide)).trans (by first | rfl | assumption | (symm; assumption)))
  refine Wc_seq (Wc_ops (Wo_pre 5 (fun _ => by simp only [go_sem, seval, h13, e11, hvb, idx_ok hj, hc]; rfl) ?_))
  refine Wo_store_new (cs := x.cells) (h := h') (by first | rfl | assumption) (by first | rfl | assumption) rfl rfl fun h2 n2 => Wo_nil ?_
  show Wc T _ _ _
  refine Wc_seq (Wc_ops (Wo_pre 3 (fun _ => by simp only [go_sem, seval, e1, n2.get, Srt.cells]; rfl) ?_))
  refine Wo_call ((indexS_ok hT8 (v := x.fv) (l := x.fields) (s := s) (hin.keep n2.kept) (hfl x (List.mem_of_getElem? hx))).mono ?_)
  rintro o' h3 ⟨rfl, rfl⟩
  refine (Wo_run (fun _ => by simp only [go_sem, seval]; rfl) ?_)
  show Wc T _ _ _
  refine Wc_seq (Wc_ops (Wo_run (fun _ => by simp only [go_sem, seval]; rfl) ?_))
  show Wc T _ _ _
  cases hxi : idxOf x.fields s 0 with
  | none =>
   refine Wc_cond false (by simp [ev, upd, dstUpd, idxI, hxi]) nofun (fun hd => Wc_skip ?_)
   refine ⟨rfl, hk.trans n2.kept, fun i hi y hy => ?_⟩
   rcases Nat.lt_or_eq_of_le (Nat.le_of_lt_succ hi) with h1 | h1
   ·exact hne i h1 y hy
   ·subst h1; rw [hx] at hy; cases hy; exact hxi
  | some k =>
   refine Wc_cond true (by simp [ev, upd, dstUpd, idxI, hxi]) (fun hd => ?_) nofun
   refine Wc_seq (Wc_ops (Wo_run (fun _ => by simp only [go_sem, seval]; rfl) ?_))
   refine Wc_ret ⟨.inr rfl, rfl, [.int .i64 j, .int .i64 k, .bool true], by simp only [resAll, resV, upd, dstUpd, reduceIte, Nat.reduceEqDiff, idxI, hxi], hk.trans n2.kept, ?_⟩
   rw [fieldOf_some hne hx hxi, Nat.zero_add]; rfl
 ·rintro e h' d ⟨rfl, hk, hne⟩ hfr h13
  show Wc T _ _ _
  refine Wc_seq (Wc_ops (Wo_run (fun _ => by simp only [go_sem, seval]; rfl) ?_))
  refine Wc_ret ⟨.inr rfl, rfl, [.int .i64 0, .int .i64 0, .bool false], by simp only [resAll, resV, upd, dstUpd, reduceIte, Nat.reduceEqDiff], hk, ?_⟩
  rw [fieldOf_none fun x hx => by
   obtain ⟨i, hi⟩ := List.getElem?_of_mem hx
   exact hne i (List.getElem?_eq_some_iff.1 hi).1 x hi]
  rfl
theorem field6 {T : Tbl} (hT : T.fn 6 = some C6) {h : Heap} {v f m g : Value} {l : List Srt} {s : ByteArray} (hv : srtsAt h v l) (hl : l.length ≤ 9223372036854775807) (hfl : ∀ x ∈ l, x.fields.length ≤ 9223372036854775807) :
 Wk T (.fn 6) [.agg #[v, f, m, g], .string s] h (fun o h' => Kept h h' ∧ o = .ret (fldV (fieldOf l s 0))) := by
 obtain ⟨va, vc, hvl⟩ := hv.len
 refine Wk_fn hT (by simp [C6]) ?_
 simp only [C6]
 refine Wc_seq (Wc_ops (Wo_box (cs := [v, f, m, g]) rfl fun h1 n1 => (Wo_run (fun _ => by simp only [go_sem, seval]; rfl) ?_)))
 show Wc T _ _ _
 refine Wc_seq (Wc_seq (Wc_ops (Wo_run (fun _ => by simp only [go_sem, seval, n1.get, hvl]; rfl) ?_)))
 show Wc T _ _ _
 refine Wc_range l.length (fun j e h' d => d = some [] ∧ Kept h h' ∧ ∀ i, i < j → ∀ x, l[i]? = some x → idxOf x.fields s 0 = none) (by decide) (by simp only [upd, dstUpd, reduceIte, Nat.reduceEqDiff]) (by simp only [upd, dstUpd, reduceIte, Nat.reduceEqDiff]) hl (by decide) ⟨rfl, n1.kept, fun i hi => by omega⟩ ?_ ?_
 ·rintro j e h' d hj ⟨rfl, hk, hne⟩ hfr h13 h12
  obtain ⟨x, hx⟩ : ∃ x, l[j]? = some x := ⟨_, List.getElem?_eq_getElem hj⟩
  obtain ⟨b, c, hvb, hb, ⟨o, z, hg⟩, hc, hin⟩ := (hv.keep hk).load Srt.cells_len hx
  have e12 : e 12 = v := ((hfr 12 (by decide)).trans (by first | rfl | assumption | (symm; assumption)))
  have e1 : e 1 = .string s := ((hfr 1 (by decide)).trans (by first | rfl | assumption | (symm; assumption)))
  refine Wc_seq (Wc_ops (Wo_pre 5 (fun _ => by simp only [go_sem, seval, h13, e12, hvb, idx_ok hj, hc]; rfl) ?_))
  refine Wo_store_new (cs := x.cells) (h := h') (by first | rfl | assumption) (by first | rfl | assumption) rfl rfl fun h2 n2 => Wo_nil ?_
  show Wc T _ _ _
  have hin2 : strsAt h2 x.fv x.fields := hin.keep n2.kept
  obtain ⟨fa, fc, hfv⟩ := rowsAt.len hin2
  have hxl := hfl x (List.mem_of_getElem? hx)
  refine Wc_seq (Wc_ops (Wo_run (fun _ => by simp only [go_sem, seval, n2.get, Srt.cells, hfv]; rfl) ?_))
  show Wc T _ _ _
  refine Wc_range x.fields.length (fun k e h' d => d = some [] ∧ h' = h2 ∧ ∀ i, i < k → ∀ y, x.fields[i]? = some y → s ≠ y) (by decide) (by simp only [upd, dstUpd, reduceIte, Nat.reduceEqDiff]) (by simp only [upd, dstUpd, reduceIte, Nat.reduceEqDiff]) hxl (by decide) ⟨rfl, rfl, fun i hi => by omega⟩ ?_ ?_
  ·rintro k e' h'' d hkl ⟨rfl, rfl, hnk⟩ hfr h22 h21
   obtain ⟨y, hy⟩ : ∃ y, x.fields[k]? = some y := ⟨_, List.getElem?_eq_getElem hkl⟩
   obtain ⟨b2, c2, o2, z2, hvb2, hb2, hg2, hcell⟩ := strsAt.load hin2 hy
   have e20 : e' 20 = x.fv := ((hfr 20 (by decide)).trans (by first | rfl | assumption | (symm; assumption)))
   have e1' : e' 1 = .string s := ((hfr 1 (by decide)).trans (by first | rfl | assumption | (symm; assumption)))
   have e7' : e' 7 = .int .i64 j := ((hfr 7 (by decide)).trans (by first | rfl | assumption | (symm; assumption)))
   refine Wc_seq (Wc_ops (Wo_run (fun _ => by simp only [go_sem, seval, h22, e20, hvb2, idx_ok hkl, hg2, hcell]; rfl) ?_))
   show Wc T _ _ _
   refine Wc_seq (Wc_ops (Wo_run (fun _ => by simp only [go_sem, seval, e1']; rfl) ?_))
   show Wc T _ _ _
   refine Wc_cond (decide (y = s)) (by simp [ev, upd, dstUpd]) (fun hd => ?_) (fun hd => Wc_skip ?_)
   ·have hsx : y = s := by simpa using hd
    subst hsx
    refine Wc_seq (Wc_ops (Wo_run (fun _ => by simp only [go_sem, seval, h22, e7']; rfl) ?_))
    have hxi : idxOf x.fields y 0 = some k := by rw [idxOf_some hnk hy, Nat.zero_add]
    refine Wc_ret ⟨.inr rfl, rfl, [.int .i64 j, .int .i64 k, .bool true], by simp only [resAll, resV, upd, dstUpd, reduceIte, Nat.reduceEqDiff], hk.trans n2.kept, ?_⟩
    rw [fieldOf_some hne hx hxi, Nat.zero_add]; rfl
   ·refine ⟨rfl, rfl, fun i hi w hw => ?_⟩
    rcases Nat.lt_or_eq_of_le (Nat.le_of_lt_succ hi) with h1 | h1
    ·exact hnk i h1 w hw
    ·subst h1; rw [hy] at hw; cases hw; exact fun e => by simp [e] at hd
  ·rintro e' h'' d ⟨rfl, rfl, hnk⟩ hfr' h22
   refine ⟨rfl, hk.trans n2.kept, fun i hi y hy => ?_⟩
   rcases Nat.lt_or_eq_of_le (Nat.le_of_lt_succ hi) with h1 | h1
   ·exact hne i h1 y hy
   ·subst h1; rw [hx] at hy; cases hy
    exact idxOf_none fun w hw => by
     obtain ⟨i, hi⟩ := List.getElem?_of_mem hw
     exact hnk i (List.getElem?_eq_some_iff.1 hi).1 w hi
 ·rintro e h' d ⟨rfl, hk, hne⟩ hfr h13
  show Wc T _ _ _
  refine Wc_seq (Wc_ops (Wo_run (fun _ => by simp only [go_sem, seval]; rfl) ?_))
  refine Wc_ret ⟨.inr rfl, rfl, [.int .i64 0, .int .i64 0, .bool false], by simp only [resAll, resV, upd, dstUpd, reduceIte, Nat.reduceEqDiff], hk, ?_⟩
  rw [fieldOf_none fun x hx => by
   obtain ⟨i, hi⟩ := List.getElem?_of_mem hx
   exact hne i (List.getElem?_eq_some_iff.1 hi).1 x hi]
  rfl
structure FldFns (T : Tbl) : Prop where
 s : SFns T
 law : T.fn 3 = some C3
 awake : T.fn 4 = some C4
 field : T.fn 5 = some C5
 rfield : T.fn 6 = some C6
 index : T.fn 8 = some C8
theorem fields_law {T : Tbl} (F : FldFns T)
 {h : Heap} {v f m g : Value} {l : List Srt} {s : ByteArray} (hv : srtsAt h v l) (hl : l.length ≤ 9223372036854775807) (hfl : ∀ x ∈ l, x.fields.length ≤ 9223372036854775807) :
 Wk T (.fn 3) [.agg #[v, f, m, g], .string s] h (fun o h' => o = .ret (.bool true)) := by
 obtain ⟨va, vc, hvl⟩ := hv.len
 refine Wk_fn F.law (by simp [C3]) ?_
 simp only [C3]
 refine Wc_seq (Wc_ops (Wo_box (cs := [v, f, m, g]) rfl fun h1 n1 => (Wo_run (fun _ => by simp only [go_sem, seval]; rfl) ?_)))
 show Wc T _ _ _
 refine Wc_seq (Wc_seq (Wc_ops (Wo_call (Wk_kept (check_awake F.s F.awake) fun h1' k1' => ?_))))
 refine (Wo_run (fun _ => by simp only [go_sem, seval]; rfl) ?_)
 show Wc T _ _ _
 have hv1 := (hv.keep n1.kept).keep k1'
 have hg1 : h1'.get h.next = some (.cells [v, f, m, g] true 0) := by rw [k1'.get _ (by rw [n1.next]; omega)]; exact n1.get
 have hlt : h.next < h1'.next := Nat.lt_of_lt_of_le (by rw [n1.next]; omega) k1'.next
 refine Wc_cond false (by simp [ev, upd, dstUpd]) nofun (fun _ => Wc_skip ?_)
 show Wc T _ _ _
 refine Wc_seq (Wc_seq (Wc_ops (Wo_run (fun _ => by simp only [go_sem, seval, hg1, hvl]; rfl) ?_)))
 show Wc T _ _ _
 refine Wc_cond (decide ((50 : Int) < l.length)) (by simp [ev, upd, dstUpd]) (fun _ => Wc_seq (Wc_ops (Wo_run (fun _ => by simp only [go_sem, seval]; rfl) ?_))) (fun _ => Wc_skip ?_)
 ·exact Wc_ret ⟨.inr rfl, rfl, [.bool true], by simp only [resAll, resV, upd, dstUpd, reduceIte, Nat.reduceEqDiff], rfl⟩
 show Wc T _ _ _
 have hcs := cells_all (n := 4) hg1 rfl
 refine Wc_seq (Wc_ops (Wo_pre 2 (fun _ => by simp only [go_sem, seval, hcs]; rfl) ?_))
 refine Wo_call ((field5 F.field F.index (v := v) (f := f) (m := m) (g := g) (s := s) hv1 hl hfl).mono ?_)
 rintro o h2 ⟨k2, rfl⟩
 have hcs2 : h2.cells h.next 0 4 = some [v, f, m, g] := cells_all (n := 4) (by rw [k2.get _ hlt]; exact hg1) rfl
 obtain ⟨a, b, t, hv5⟩ : ∃ a b t, fldV (fieldOf l s 0) = .tuple #[.int .i64 a, .int .i64 b, .bool t] := by
  cases fieldOf l s 0 with
  | none => exact ⟨_, _, _, rfl⟩
  | some q => exact ⟨_, _, _, rfl⟩
 refine (Wo_run (fun _ => by simp only [go_sem, seval, hv5]; rfl) ?_)
 show Wc T _ _ _
 refine Wc_seq (Wc_ops (Wo_pre 2 (fun _ => by simp only [go_sem, seval, hcs2]; rfl) ?_))
 refine Wo_call ((field6 F.rfield (v := v) (f := f) (m := m) (g := g) (s := s) (hv1.keep k2) hl hfl).mono ?_)
 rintro o h3 ⟨k3, rfl⟩
 refine (Wo_run (fun _ => by simp only [go_sem, seval, hv5]; rfl) ?_)
 show Wc T _ _ _
 refine Wc_seq (Wc_ops (Wo_run (fun _ => by simp only [go_sem, seval]; rfl) ?_))
 exact Wc_ret ⟨.inr rfl, rfl, [.bool true], by simp [resAll, resV, upd, dstUpd], rfl⟩
end Go.Idl
end

section
namespace Go.Idl
theorem list_of_lays {α H : Type} {cells : α → List Value} {inner : Heap → α → Prop} {td : TD} {h : Heap}
 (hone : ∀ {d : DataW H} {vs : List Value}, Lays h td d vs → ∃ x : α, vs = cells x ∧ inner h x)
 {d : DataW H} {vs : List Value} (hl : Lays h (.sl td) d vs) : ∃ l v, vs = [v] ∧ rowsAt cells inner h v l ∧ l.length ≤ maxLen := by
 rw [Lays] at hl
 rcases hl with ⟨_, rfl⟩ | ⟨ds, spare, b, rfl, hb, hm, rfl, hcs⟩
 ·exact ⟨[], _, rfl, ⟨.inl ⟨rfl, rfl⟩, by simp⟩, by simp⟩
 ·rcases hcs with ⟨rfl, _⟩ | ⟨cs, hg, he⟩
  ·exact ⟨[], _, rfl, ⟨.inr ⟨b, _, rfl, hb, .inl rfl⟩, by simp⟩, by simp⟩
  ·have key : ∀ (ds : List (DataW H)) (cs : List Value), LaysEach (Lays h td) ds cs → ∃ l : List α, cs = l.flatMap cells ∧ l.length = ds.length ∧ ∀ x ∈ l, inner h x := by
    intro ds
    induction ds with
    | nil => intro cs hc; exact ⟨[], hc, rfl, by simp⟩
    | cons d ds ih =>
     intro cs hc
     obtain ⟨a, b, rfl, h1, h2⟩ := hc
     obtain ⟨l, rfl, h3, h4⟩ := ih b h2
     obtain ⟨x, rfl, hx⟩ := hone h1
     refine ⟨x :: l, by simp, by simp [h3], fun y hy => ?_⟩
     rcases List.mem_cons.1 hy with rfl | hy
     ·exact hx
     ·exact h4 y hy
   obtain ⟨l, rfl, h1, h2⟩ := key ds cs he
   exact ⟨l, _, rfl, ⟨.inr ⟨b, _, by rw [h1], hb, .inr ⟨_, _, hg⟩⟩, h2⟩, by omega⟩
def srtTD : TD := .st (.cons .str (.cons (.sl .str) .nil))
def fcnTD : TD := .st (.cons .str (.cons (.int .i64) (.cons (.sl .str) (.cons (.int .i64) .nil))))
def dscTD : TD := .st (.cons (.sl srtTD) (.cons (.sl fcnTD) (.cons (.int .i64) (.cons (.sl (.int .i64)) .nil))))
theorem strs_of_lays {H : Type} {h : Heap} {d : DataW H} {vs : List Value} (hl : Lays h (.sl .str) d vs) : ∃ l v, vs = [v] ∧ strsAt h v l ∧ l.length ≤ maxLen :=
 list_of_lays (cells := strC) (inner := fun _ _ => True) (fun {d vs} hd => by
  simp only [Lays] at hd
  obtain ⟨s, _, _, rfl⟩ := hd
  exact ⟨s, rfl, trivial⟩) hl
theorem srt_of_lays {H : Type} {h : Heap} {d : DataW H} {vs : List Value} (hl : Lays h srtTD d vs) : ∃ x : Srt, vs = x.cells ∧ x.Ok h ∧ x.fields.length ≤ maxLen := by
 unfold srtTD at hl
 rw [Lays] at hl
 obtain ⟨ds, rfl, hl⟩ := hl
 simp only [LaysL] at hl
 obtain ⟨d1, r1, a1, b1, rfl, rfl, h1, d2, r2, a2, b2, rfl, rfl, h2, rfl, rfl⟩ := hl
 obtain ⟨l, v, rfl, hs, hm⟩ := strs_of_lays h2
 simp only [Lays] at h1
 obtain ⟨s, _, rfl, rfl⟩ := h1
 exact ⟨⟨s, v, l⟩, rfl, hs, hm⟩
theorem dsc_of_lays {H : Type} {h : Heap} {d : DataW H} {vs : List Value} (hl : Lays h dscTD d vs) : ∃ v f m g l, vs = [v, f, m, g] ∧ srtsAt h v l ∧ l.length ≤ maxLen ∧ ∀ x ∈ l, x.fields.length ≤ maxLen := by
 unfold dscTD at hl
 rw [Lays] at hl
 obtain ⟨ds, rfl, hl⟩ := hl
 simp only [LaysL] at hl
 obtain ⟨d1, r1, a1, b1, rfl, rfl, h1, d2, r2, a2, b2, rfl, rfl, h2, d3, r3, a3, b3, rfl, rfl, h3, d4, r4, a4, b4, rfl, rfl, h4, rfl, rfl⟩ := hl
 obtain ⟨l, v, rfl, hv, hm⟩ := list_of_lays (cells := Srt.cells) (inner := fun h x => Srt.Ok h x ∧ x.fields.length ≤ maxLen) srt_of_lays h1
 have hv' : srtsAt h v l := ⟨hv.1, fun x hx => (hv.2 x hx).1⟩
 obtain ⟨l2, v2, rfl, _⟩ := list_of_lays (cells := fun v : List Value => v) (inner := fun _ _ => True) (fun {d vs} _ => ⟨vs, rfl, trivial⟩) h2
 obtain ⟨l4, v4, rfl, _⟩ := list_of_lays (cells := fun v : List Value => v) (inner := fun _ _ => True) (fun {d vs} _ => ⟨vs, rfl, trivial⟩) h4
 simp only [Lays] at h3
 obtain ⟨n, rfl, _, rfl⟩ := h3
 exact ⟨v, v2, _, v4, l, rfl, hv', hm, fun x hx => (hv.2 x hx).2⟩
end Go.Idl
end

section
namespace Go.Proofs
open Go.Shelf
def Tryz.laysM144_ren : Go.Shelf.Ren := ⟨fun | 144 => 40 | 143 => 59 | 219 => 67 | 217 => 77 | 225 => 78 | 224 => 79 | 267 => 80 | 266 => 86 | 314 => 87 | n => n, fun | 9 => 9 | 4 => 4 | 3 => 3 | 5 => 5 | 46 => 127 | 146 => 133 | 51 => 132 | n => n, fun | 1 => 0 | n => n⟩
theorem Tryz.laysM144 : Go.Proofs.LaysM.n144 Tryz.prog Tryz.laysM144_ren := {
 mixed := by kernel_rfl
 f143 := Tryz.func59.trans (congrArg some (by kernel_rfl))
 f144 := Tryz.func40.trans (congrArg some (by kernel_rfl))
 f217 := Tryz.func77.trans (congrArg some (by kernel_rfl))
 f219 := Tryz.func67.trans (congrArg some (by kernel_rfl))
 f224 := Tryz.func79.trans (congrArg some (by kernel_rfl))
 f225 := Tryz.func78.trans (congrArg some (by kernel_rfl))
 f266 := Tryz.func86.trans (congrArg some (by kernel_rfl))
 f267 := Tryz.func80.trans (congrArg some (by kernel_rfl))
 f314 := Tryz.func87.trans (congrArg some (by kernel_rfl))
 t3 := Tryz.underlying3
 a3 := Tryz.isAgg3
 z3 := Tryz.sizeOf3
 v3 := Tryz.zeroValue3
 t4 := Tryz.underlying4
 a4 := Tryz.isAgg4
 z4 := Tryz.sizeOf4
 v4 := Tryz.zeroValue4
 t5 := Tryz.underlying5
 a5 := Tryz.isAgg5
 z5 := Tryz.sizeOf5
 v5 := Tryz.zeroValue5
 t9 := Tryz.underlying9
 a9 := Tryz.isAgg9
 z9 := Tryz.sizeOf9
 v9 := Tryz.zeroValue9
 t46 := Tryz.underlying127
 a46 := Tryz.isAgg127
 z46 := Tryz.sizeOf127
 v46 := Tryz.zeroValue127
 t51 := Tryz.underlying132
 a51 := Tryz.isAgg132
 z51 := Tryz.sizeOf132
 v51 := Tryz.zeroValue132
 t146 := Tryz.underlying133
 a146 := Tryz.isAgg133
 z146 := Tryz.sizeOf133
 v146 := Tryz.zeroValue133
 g1 := by kernel_rfl
 i3 := by kernel_rfl
 i4 := by kernel_rfl
 i5 := by kernel_rfl
 i9 := by kernel_rfl
 i46 := by kernel_rfl
 i51 := by kernel_rfl
 i146 := by kernel_rfl
 m1 := by kernel_rfl
 s1_3 := fun w h => Go.Proofs.cell_of_shapedOpen_int (zero := #[.int .i64 0]) (t := 3) h (of_decide_eq_true (by kernel_rfl)) (by kernel_rfl) rfl (by kernel_rfl) (by kernel_rfl) Tryz.underlying3 }
open Go.RowKit Go.Lib in
theorem Tryz.strings_Contains_shaped (s sub : ByteArray) (w : World) (h : w.ShapedOpen Tryz.prog) (hs : s.size < 4294967281) :
 Calls Tryz.prog 40 #[.string s, .string sub] w fun e w' => e = .returned (.bool (Lib.contains s.data.toList sub.data.toList)) ∧ w' = w := Any.strings_Contains_shaped Tryz.laysM144 s sub w h hs
def Tryz.laysM173_ren : Go.Shelf.Ren := ⟨fun | 173 => 82 | 246 => 88 | 283 => 98 | 284 => 99 | 285 => 100 | 286 => 101 | 129 => 105 | 317 => 104 | 318 => 106 | 319 => 107 | 320 => 108 | 337 => 109 | 338 => 110 | n => n, fun | 2 => 2 | 3 => 3 | 9 => 9 | 4 => 4 | 171 => 135 | 0 => 0 | 53 => 115 | 37 => 138 | 5 => 5 | 173 => 139 | 212 => 142 | 51 => 132 | 20 => 20 | 213 => 143 | 46 => 127 | 232 => 147 | 233 => 148 | n => n, fun | 17 => 1 | 18 => 2 | 19 => 3 | n => n⟩
theorem Tryz.laysM173 : Go.Proofs.LaysM.n173 Tryz.prog Tryz.laysM173_ren := {
 mixed := by kernel_rfl
 f129 := Tryz.func105.trans (congrArg some (by kernel_rfl))
 f173 := Tryz.func82.trans (congrArg some (by kernel_rfl))
 f246 := Tryz.func88.trans (congrArg some (by kernel_rfl))
 f283 := Tryz.func98.trans (congrArg some (by kernel_rfl))
 f284 := Tryz.func99.trans (congrArg some (by kernel_rfl))
 f285 := Tryz.func100.trans (congrArg some (by kernel_rfl))
 f286 := Tryz.func101.trans (congrArg some (by kernel_rfl))
 f317 := Tryz.func104.trans (congrArg some (by kernel_rfl))
 f318 := Tryz.func106.trans (congrArg some (by kernel_rfl))
 f319 := Tryz.func107.trans (congrArg some (by kernel_rfl))
 f320 := Tryz.func108.trans (congrArg some (by kernel_rfl))
 f337 := Tryz.func109.trans (congrArg some (by kernel_rfl))
 f338 := Tryz.func110.trans (congrArg some (by kernel_rfl))
 t0 := Tryz.underlying0
 a0 := Tryz.isAgg0
 z0 := Tryz.sizeOf0
 v0 := Tryz.zeroValue0
 t2 := Tryz.underlying2
 a2 := Tryz.isAgg2
 z2 := Tryz.sizeOf2
 v2 := Tryz.zeroValue2
 t3 := Tryz.underlying3
 a3 := Tryz.isAgg3
 z3 := Tryz.sizeOf3
 v3 := Tryz.zeroValue3
 t4 := Tryz.underlying4
 a4 := Tryz.isAgg4
 z4 := Tryz.sizeOf4
 v4 := Tryz.zeroValue4
 t5 := Tryz.underlying5
 a5 := Tryz.isAgg5
 z5 := Tryz.sizeOf5
 v5 := Tryz.zeroValue5
 t9 := Tryz.underlying9
 a9 := Tryz.isAgg9
 z9 := Tryz.sizeOf9
 v9 := Tryz.zeroValue9
 t20 := Tryz.underlying20
 a20 := Tryz.isAgg20
 z20 := Tryz.sizeOf20
 v20 := Tryz.zeroValue20
 t37 := Tryz.underlying138
 a37 := Tryz.isAgg138
 z37 := Tryz.sizeOf138
 v37 := Tryz.zeroValue138
 t46 := Tryz.underlying127
 a46 := Tryz.isAgg127
 z46 := Tryz.sizeOf127
 v46 := Tryz.zeroValue127
 t51 := Tryz.underlying132
 a51 := Tryz.isAgg132
 z51 := Tryz.sizeOf132
 v51 := Tryz.zeroValue132
 t53 := Tryz.underlying115
 a53 := Tryz.isAgg115
 z53 := Tryz.sizeOf115
 v53 := Tryz.zeroValue115
 t171 := Tryz.underlying135
 a171 := Tryz.isAgg135
 z171 := Tryz.sizeOf135
 v171 := Tryz.zeroValue135
 t173 := Tryz.underlying139
 a173 := Tryz.isAgg139
 z173 := Tryz.sizeOf139
 v173 := Tryz.zeroValue139
 t212 := Tryz.underlying142
 a212 := Tryz.isAgg142
 z212 := Tryz.sizeOf142
 v212 := Tryz.zeroValue142
 t213 := Tryz.underlying143
 a213 := Tryz.isAgg143
 z213 := Tryz.sizeOf143
 t232 := Tryz.underlying147
 a232 := Tryz.isAgg147
 z232 := Tryz.sizeOf147
 v232 := Tryz.zeroValue147
 t233 := Tryz.underlying148
 a233 := Tryz.isAgg148
 z233 := Tryz.sizeOf148
 v233 := Tryz.zeroValue148
 g17 := by kernel_rfl
 g18 := by kernel_rfl
 g19 := by kernel_rfl
 i0 := by kernel_rfl
 i2 := by kernel_rfl
 i3 := by kernel_rfl
 i4 := by kernel_rfl
 i5 := by kernel_rfl
 i9 := by kernel_rfl
 i20 := by kernel_rfl
 i37 := by kernel_rfl
 i46 := by kernel_rfl
 i51 := by kernel_rfl
 i53 := by kernel_rfl
 i171 := by kernel_rfl
 i173 := by kernel_rfl
 i212 := by kernel_rfl
 i232 := by kernel_rfl
 i233 := by kernel_rfl
 m17 := by kernel_rfl
 m18 := by kernel_rfl
 m19 := by kernel_rfl }
open Go.RowKit Go.Sort Go.Lib in
theorem Tryz.strconv_FormatInt_10 (n : Int) (h0 : -9223372036854775808 ≤ n) (h1 : n ≤ 9223372036854775807) (w : World) (htab : Lib.TabIs Tryz.prog w "internal/strconv.uint64pow10" .u64 Lib.pow10Tab) :
 Calls Tryz.prog 82 #[.int .i64 n, .int .i64 10] w fun e w' => e = .returned (.string ⟨(Lib.itoa n).toArray⟩) ∧ ∃ k os, w' = grow (w.drewN k) os := Any.strconv_FormatInt_10 Tryz.laysM173 n h0 h1 w htab
end Go.Proofs
end

section
namespace Go.Idl
open Go.Proofs
def GoodG (P : Program) (w : World) : Prop := w.ShapedOpen P ∧ Lib.TabIs P w "internal/strconv.uint64pow10" .u64 Lib.pow10Tab
theorem goodG_good (P : Program) : GoodW (GoodG P) := fun w w' hw hs hk => by
 refine ⟨shaped_good P w w' hw.1 hs hk, ?_⟩
 have h := hw.2
 unfold Lib.TabIs World.var? at *
 cases hg : P.globalNamed "internal/strconv.uint64pow10" with
 | none => simp [hg] at h
 | some g =>
  simp only [hg, Option.bind_some] at h ⊢
  have hlt : g < w.heap.size := by
   rcases Nat.lt_or_ge g w.heap.size with h' | h'
   ·exact h'
   ·rw [Array.getElem?_eq_none h'] at h; simp at h
  rw [hk g hlt]
  exact h
noncomputable def Tb0 : Tbl := { fn := fun f => (Tryz.prog.funcs[f]?).bind (cfn Tryz.prog), prim := fun _ => none }
theorem Tb0ok {G : World → Prop} : TblOkG Tryz.prog G Tb0 := ⟨fun f fn h => by
 obtain ⟨F, h1, h2⟩ := Option.bind_eq_some_iff.1 h
 exact ⟨F, h1, h2⟩, fun f p h => by cases h⟩
def conV : List Value → Option Value
 | [.string s, .string t] => if conP s t = true then some (.bool true) else none
 | _ => none
theorem con_all : (opsL.all fun w => Lib.contains opsS.data.toList (⟨#[32]⟩ ++ w ++ ⟨#[32]⟩ : ByteArray).data.toList) = true := by kernel_rfl
theorem con_sgn : ([⟨#[45]⟩, ⟨#[33]⟩, ⟨#[126]⟩] : List ByteArray).all (fun w => Lib.contains sgnS.data.toList w.data.toList) = true := by kernel_rfl
theorem con_ok {s t : ByteArray} (h : conP s t = true) : s.size < 4294967281 ∧ Lib.contains s.data.toList t.data.toList = true := by
 simp only [conP, Bool.or_eq_true, Bool.and_eq_true, decide_eq_true_eq] at h
 rcases h with ⟨rfl, h⟩ | ⟨rfl, h⟩
 ·refine ⟨by decide, ?_⟩
  simp only [sgnB, Bool.or_eq_true, decide_eq_true_eq] at h
  refine List.all_eq_true.1 con_sgn t ?_
  rcases h with (h | h) | h <;> subst h <;> simp
 ·refine ⟨by decide, ?_⟩
  obtain ⟨w, hw, h⟩ := List.any_eq_true.1 h
  rw [of_decide_eq_true h]
  exact List.all_eq_true.1 con_all w hw
theorem conV_ok : PrimOkG Tryz.prog (GoodG Tryz.prog) 40 conV := by
 refine ⟨calleeOk_mk Tryz.func40 (by kernel_rfl) (by kernel_rfl), fun args v h => ?_⟩
 unfold conV at h
 split at h
 case h_2 => cases h
 split at h
 case isFalse => cases h
 rename_i s t hs
 cases h
 obtain ⟨h1, h2⟩ := con_ok hs
 exact ⟨fun ι rargs hr => args_eq hr rfl, fun ι => .bool _, fun w hw => ((Tryz.strings_Contains_shaped _ _ w hw.1 h1).mono fun e w' ⟨h3, h4⟩ => by subst h4; rw [h2] at h3; exact ⟨h3, ⟨Nat.le_refl _, fun _ _ => rfl⟩, rfl, rfl, rfl⟩)⟩
def isV (v : Value) (o : Option (Out × Heap)) : Bool := match o with | some (.ret w, _) => veq2 w v | _ => false
theorem isV_of {v : Value} {o : Option (Out × Heap)} (h : isV v o = true) : ∃ h', o = some (.ret v, h') := by
 unfold isV at h
 split at h
 ·exact ⟨_, by rw [veq2_eq h]⟩
 ·cases h
theorem cls_run : isV clsV (ccall Tb0 60 (.fn 30) [] ⟨fun _ => none, 0⟩) = true := by kernel_rfl
def clsP : List Value → Option Value
 | [] => some clsV
 | _ => none
theorem clsV_pure : pure1 clsV = true := by kernel_rfl
theorem clsP_ok : PrimOkG Tryz.prog (GoodG Tryz.prog) 30 clsP := by
 refine primOk_pureG (goodG_good _) Tb0ok (calleeOk_mk Tryz.func30 (by kernel_rfl) (by kernel_rfl)) fun args v h => ?_
 cases args with
 | cons a r => cases h
 | nil =>
  simp only [clsP, Option.some.injEq] at h
  subst h
  obtain ⟨h', hc⟩ := isV_of cls_run
  exact ⟨rfl, clsV_pure, 60, h', ccall_ideal Tb0 60 _ _ _ _ hc⟩
def numP : List Value → Option Value
 | [.int .i64 n, .int .i64 b] => if 0 ≤ n ∧ n ≤ 9223372036854775807 ∧ b = 10 then some (.string (numS n)) else none
 | _ => none
theorem numP_ok : PrimOkG Tryz.prog (GoodG Tryz.prog) 82 numP := by
 refine ⟨calleeOk_mk Tryz.func82 (by kernel_rfl) (by kernel_rfl), fun args v h => ?_⟩
 unfold numP at h
 split at h
 case h_2 => cases h
 split at h
 case isFalse => cases h
 rename_i n b hs
 cases h
 obtain ⟨h0, h1, rfl⟩ := hs
 refine ⟨fun ι rargs hr => args_eq hr rfl, fun ι => .string _, fun w hw => ((Tryz.strconv_FormatInt_10 n (by omega) h1 w hw.2).mono fun e w' ⟨h3, k, os, h4⟩ => ?_)⟩
 subst h4
 rw [← numS_itoa h0 h1] at h3
 exact ⟨h3, ⟨by simp [Go.Sort.grow, World.drewN], fun b hb => Go.Sort.heap_grow_old (w.drewN k) os hb⟩, rfl, rfl, rfl⟩
noncomputable def T1 : Tbl := setPrim (setPrim (setPrim Tb0 40 conV) 30 clsP) 82 numP
theorem T1ok : TblOkG Tryz.prog (GoodG Tryz.prog) T1 := setPrim_ok (setPrim_ok (setPrim_ok Tb0ok conV_ok) clsP_ok) numP_ok
theorem T1_at {f : FuncId} {F : Func} {C : IFn} (h1 : Tryz.prog.funcs[f]? = some F) (h2 : cfn Tryz.prog F = some C) (n1 : f ≠ 40) (n2 : f ≠ 30) (n3 : f ≠ 82) : T1.fn f = some C := by
 simp only [T1, setPrim, Tb0, if_neg n1, if_neg n2, if_neg n3, h1, Option.bind_some, h2]
theorem T1_18 : T1.fn 18 = some C18 := T1_at Tryz.func18 (by kernel_rfl) (by decide) (by decide) (by decide)
theorem T1_56 : T1.fn 56 = some C56 := T1_at Tryz.func56 (by kernel_rfl) (by decide) (by decide) (by decide)
theorem T1_55 : T1.fn 55 = some C55 := T1_at Tryz.func55 (by kernel_rfl) (by decide) (by decide) (by decide)
theorem T1_32 : T1.fn 32 = some C32 := T1_at Tryz.func32 (by kernel_rfl) (by decide) (by decide) (by decide)
theorem T1_34 : T1.fn 34 = some C34 := T1_at Tryz.func34 (by kernel_rfl) (by decide) (by decide) (by decide)
theorem T1_33 : T1.fn 33 = some C33 := T1_at Tryz.func33 (by kernel_rfl) (by decide) (by decide) (by decide)
theorem T1_20 : T1.fn 20 = some C20 := T1_at Tryz.func20 (by kernel_rfl) (by decide) (by decide) (by decide)
theorem T1_63 : T1.fn 63 = some C63 := T1_at Tryz.func63 (by kernel_rfl) (by decide) (by decide) (by decide)
theorem T1_8 : T1.fn 8 = some C8 := T1_at Tryz.func8 (by kernel_rfl) (by decide) (by decide) (by decide)
theorem T1_89 : T1.fn 89 = some C89 := T1_at Tryz.func89 (by kernel_rfl) (by decide) (by decide) (by decide)
theorem T1_90 : T1.fn 90 = some C90 := T1_at Tryz.func90 (by kernel_rfl) (by decide) (by decide) (by decide)
theorem T1_91 : T1.fn 91 = some C91 := T1_at Tryz.func91 (by kernel_rfl) (by decide) (by decide) (by decide)
theorem T1_92 : T1.fn 92 = some C92 := T1_at Tryz.func92 (by kernel_rfl) (by decide) (by decide) (by decide)
theorem T1_93 : T1.fn 93 = some C93 := T1_at Tryz.func93 (by kernel_rfl) (by decide) (by decide) (by decide)
theorem T1_94 : T1.fn 94 = some C94 := T1_at Tryz.func94 (by kernel_rfl) (by decide) (by decide) (by decide)
theorem T1_95 : T1.fn 95 = some C95 := T1_at Tryz.func95 (by kernel_rfl) (by decide) (by decide) (by decide)
theorem T1_96 : T1.fn 96 = some C96 := T1_at Tryz.func96 (by kernel_rfl) (by decide) (by decide) (by decide)
theorem T1_97 : T1.fn 97 = some C97 := T1_at Tryz.func97 (by kernel_rfl) (by decide) (by decide) (by decide)
theorem T1_103 : T1.fn 103 = some C103 := T1_at Tryz.func103 (by kernel_rfl) (by decide) (by decide) (by decide)
theorem T1_102 : T1.fn 102 = some C102 := T1_at Tryz.func102 (by kernel_rfl) (by decide) (by decide) (by decide)
theorem T1_83 : T1.fn 83 = some C83 := T1_at Tryz.func83 (by kernel_rfl) (by decide) (by decide) (by decide)
theorem T1_35 : T1.fn 35 = some C35 := T1_at Tryz.func35 (by kernel_rfl) (by decide) (by decide) (by decide)
theorem T1_75 : T1.fn 75 = some C75 := T1_at Tryz.func75 (by kernel_rfl) (by decide) (by decide) (by decide)
theorem T1_65 : T1.fn 65 = some C65 := T1_at Tryz.func65 (by kernel_rfl) (by decide) (by decide) (by decide)
theorem T1_85 : T1.fn 85 = some C85 := T1_at Tryz.func85 (by kernel_rfl) (by decide) (by decide) (by decide)
theorem T1_76 : T1.fn 76 = some C76 := T1_at Tryz.func76 (by kernel_rfl) (by decide) (by decide) (by decide)
theorem T1_84 : T1.fn 84 = some C84 := T1_at Tryz.func84 (by kernel_rfl) (by decide) (by decide) (by decide)
theorem T1_66 : T1.fn 66 = some C66 := T1_at Tryz.func66 (by kernel_rfl) (by decide) (by decide) (by decide)
theorem T1_68 : T1.fn 68 = some C68 := T1_at Tryz.func68 (by kernel_rfl) (by decide) (by decide) (by decide)
theorem T1_69 : T1.fn 69 = some C69 := T1_at Tryz.func69 (by kernel_rfl) (by decide) (by decide) (by decide)
theorem T1_70 : T1.fn 70 = some C70 := T1_at Tryz.func70 (by kernel_rfl) (by decide) (by decide) (by decide)
theorem T1_71 : T1.fn 71 = some C71 := T1_at Tryz.func71 (by kernel_rfl) (by decide) (by decide) (by decide)
theorem T1_72 : T1.fn 72 = some C72 := T1_at Tryz.func72 (by kernel_rfl) (by decide) (by decide) (by decide)
theorem T1_73 : T1.fn 73 = some C73 := T1_at Tryz.func73 (by kernel_rfl) (by decide) (by decide) (by decide)
theorem T1_74 : T1.fn 74 = some C74 := T1_at Tryz.func74 (by kernel_rfl) (by decide) (by decide) (by decide)
theorem T1_81 : T1.fn 81 = some C81 := T1_at Tryz.func81 (by kernel_rfl) (by decide) (by decide) (by decide)
theorem T1_36 : T1.fn 36 = some C36 := T1_at Tryz.func36 (by kernel_rfl) (by decide) (by decide) (by decide)
theorem T1_64 : T1.fn 64 = some C64 := T1_at Tryz.func64 (by kernel_rfl) (by decide) (by decide) (by decide)
theorem T1_31 : T1.fn 31 = some C31 := T1_at Tryz.func31 (by kernel_rfl) (by decide) (by decide) (by decide)
theorem T1_50 : T1.fn 50 = some C50 := T1_at Tryz.func50 (by kernel_rfl) (by decide) (by decide) (by decide)
theorem T1_51 : T1.fn 51 = some C51 := T1_at Tryz.func51 (by kernel_rfl) (by decide) (by decide) (by decide)
theorem T1_52 : T1.fn 52 = some C52 := T1_at Tryz.func52 (by kernel_rfl) (by decide) (by decide) (by decide)
theorem T1_54 : T1.fn 54 = some C54 := T1_at Tryz.func54 (by kernel_rfl) (by decide) (by decide) (by decide)
theorem T1_53 : T1.fn 53 = some C53 := T1_at Tryz.func53 (by kernel_rfl) (by decide) (by decide) (by decide)
theorem T1_62 : T1.fn 62 = some C62 := T1_at Tryz.func62 (by kernel_rfl) (by decide) (by decide) (by decide)
theorem T1_39 : T1.fn 39 = some C39 := T1_at Tryz.func39 (by kernel_rfl) (by decide) (by decide) (by decide)
theorem T1_58 : T1.fn 58 = some C58 := T1_at Tryz.func58 (by kernel_rfl) (by decide) (by decide) (by decide)
theorem T1_24 : T1.fn 24 = some C24 := T1_at Tryz.func24 (by kernel_rfl) (by decide) (by decide) (by decide)
theorem T1_43 : T1.fn 43 = some C43 := T1_at Tryz.func43 (by kernel_rfl) (by decide) (by decide) (by decide)
theorem T1_42 : T1.fn 42 = some C42 := T1_at Tryz.func42 (by kernel_rfl) (by decide) (by decide) (by decide)
theorem T1_41 : T1.fn 41 = some C41 := T1_at Tryz.func41 (by kernel_rfl) (by decide) (by decide) (by decide)
theorem T1_57 : T1.fn 57 = some C57 := T1_at Tryz.func57 (by kernel_rfl) (by decide) (by decide) (by decide)
theorem T1_37 : T1.fn 37 = some C37 := T1_at Tryz.func37 (by kernel_rfl) (by decide) (by decide) (by decide)
theorem T1_19 : T1.fn 19 = some C19 := T1_at Tryz.func19 (by kernel_rfl) (by decide) (by decide) (by decide)
theorem T1_17 : T1.fn 17 = some C17 := T1_at Tryz.func17 (by kernel_rfl) (by decide) (by decide) (by decide)
theorem T1_12 : T1.fn 12 = some C12 := T1_at Tryz.func12 (by kernel_rfl) (by decide) (by decide) (by decide)
theorem T1_16 : T1.fn 16 = some C16 := T1_at Tryz.func16 (by kernel_rfl) (by decide) (by decide) (by decide)
theorem T1_21 : T1.fn 21 = some C21 := T1_at Tryz.func21 (by kernel_rfl) (by decide) (by decide) (by decide)
theorem T1_9 : T1.fn 9 = some C9 := T1_at Tryz.func9 (by kernel_rfl) (by decide) (by decide) (by decide)
theorem T1_11 : T1.fn 11 = some C11 := T1_at Tryz.func11 (by kernel_rfl) (by decide) (by decide) (by decide)
theorem T1_13 : T1.fn 13 = some C13 := T1_at Tryz.func13 (by kernel_rfl) (by decide) (by decide) (by decide)
theorem T1_22 : T1.fn 22 = some C22 := T1_at Tryz.func22 (by kernel_rfl) (by decide) (by decide) (by decide)
theorem T1_23 : T1.fn 23 = some C23 := T1_at Tryz.func23 (by kernel_rfl) (by decide) (by decide) (by decide)
theorem T1_38 : T1.fn 38 = some C38 := T1_at Tryz.func38 (by kernel_rfl) (by decide) (by decide) (by decide)
theorem T1_25 : T1.fn 25 = some C25 := T1_at Tryz.func25 (by kernel_rfl) (by decide) (by decide) (by decide)
theorem T1_44 : T1.fn 44 = some C44 := T1_at Tryz.func44 (by kernel_rfl) (by decide) (by decide) (by decide)
theorem T1_46 : T1.fn 46 = some C46 := T1_at Tryz.func46 (by kernel_rfl) (by decide) (by decide) (by decide)
theorem T1_61 : T1.fn 61 = some C61 := T1_at Tryz.func61 (by kernel_rfl) (by decide) (by decide) (by decide)
theorem T1_60 : T1.fn 60 = some C60 := T1_at Tryz.func60 (by kernel_rfl) (by decide) (by decide) (by decide)
theorem T1_47 : T1.fn 47 = some C47 := T1_at Tryz.func47 (by kernel_rfl) (by decide) (by decide) (by decide)
theorem T1_45 : T1.fn 45 = some C45 := T1_at Tryz.func45 (by kernel_rfl) (by decide) (by decide) (by decide)
theorem T1_27 : T1.fn 27 = some C27 := T1_at Tryz.func27 (by kernel_rfl) (by decide) (by decide) (by decide)
theorem T1_26 : T1.fn 26 = some C26 := T1_at Tryz.func26 (by kernel_rfl) (by decide) (by decide) (by decide)
theorem T1_28 : T1.fn 28 = some C28 := T1_at Tryz.func28 (by kernel_rfl) (by decide) (by decide) (by decide)
theorem T1_15 : T1.fn 15 = some C15 := T1_at Tryz.func15 (by kernel_rfl) (by decide) (by decide) (by decide)
theorem T1_29 : T1.fn 29 = some C29 := T1_at Tryz.func29 (by kernel_rfl) (by decide) (by decide) (by decide)
theorem T1_48 : T1.fn 48 = some C48 := T1_at Tryz.func48 (by kernel_rfl) (by decide) (by decide) (by decide)
theorem T1_10 : T1.fn 10 = some C10 := T1_at Tryz.func10 (by kernel_rfl) (by decide) (by decide) (by decide)
theorem T1_14 : T1.fn 14 = some C14 := T1_at Tryz.func14 (by kernel_rfl) (by decide) (by decide) (by decide)
theorem T1_7 : T1.fn 7 = some C7 := T1_at Tryz.func7 (by kernel_rfl) (by decide) (by decide) (by decide)
theorem T1_5 : T1.fn 5 = some C5 := T1_at Tryz.func5 (by kernel_rfl) (by decide) (by decide) (by decide)
theorem T1_6 : T1.fn 6 = some C6 := T1_at Tryz.func6 (by kernel_rfl) (by decide) (by decide) (by decide)
theorem T1_3 : T1.fn 3 = some C3 := T1_at Tryz.func3 (by kernel_rfl) (by decide) (by decide) (by decide)
theorem T1_4 : T1.fn 4 = some C4 := T1_at Tryz.func4 (by kernel_rfl) (by decide) (by decide) (by decide)
theorem clsT (h : Heap) (K : Out → Heap → Prop) (k : K (.ret clsV) h) : Wk T1 (.fn 30) [] h K := Wk_prim (p := clsP) (v := clsV) rfl rfl rfl k
theorem saysF : SaysFns T1 := ⟨T1_23, T1_38, clsT, T1_51, T1_52, T1_53, T1_62, T1_39, T1_58, fun s t h K hc k => Wk_prim (p := conV) (v := .bool true) rfl rfl (by simp only [conV, hc, if_true]) k⟩
theorem chkF : ChkFns T1 := ⟨T1_13, T1_22, T1_21, saysF, ⟨T1_24, T1_43, T1_42, T1_41⟩⟩
theorem stF : StFns T1 := ⟨⟨⟨T1_18, T1_56, T1_55, T1_32, T1_34, T1_33, T1_20, T1_63, T1_8⟩, ⟨T1_89, T1_90, T1_91, T1_92, T1_93, T1_94, T1_95, T1_96, T1_97, T1_103, T1_102, T1_83⟩, T1_35, T1_75, T1_65, T1_85, T1_76, T1_84, T1_66⟩, ⟨T1_68, T1_69, T1_70, T1_71, T1_72, T1_73, T1_74, T1_81, T1_35, T1_36, T1_64⟩, T1_57, T1_37⟩
theorem readF : ReadFns T1 := ⟨⟨stF, T1_19, T1_17, T1_12, ⟨T1_31, T1_50, T1_51, T1_52, T1_54, T1_53, T1_62, T1_39, T1_58⟩, T1_16, clsT, T1_21⟩, T1_9, T1_11, fun n h0 h1 h K k => Wk_prim (p := numP) (v := .string (numS n)) rfl rfl (if_pos ⟨h0, h1, rfl⟩) k⟩
theorem cF : CFns T1 := ⟨⟨⟨T1_25, T1_44, T1_46, T1_61⟩, T1_60, T1_47⟩, T1_45, T1_27, T1_26, T1_28⟩
theorem pF : PFns T1 := ⟨⟨cF, T1_15, chkF, T1_29, T1_48⟩, T1_10, T1_14⟩
theorem fldF : FldFns T1 := ⟨⟨readF, pF, T1_7⟩, T1_3, T1_4, T1_5, T1_6, T1_8⟩
end Go.Idl
end

section
namespace Go.Proofs.YtbngfhkhdilfdaaGreatDoor.checkFields
open Go.ChangeShapes Go.WideShapes Go.ChangeAt Go.RowKit Go.Idl
theorem own : ownKnob Tryz.prog.godebug = none := by kernel_rfl
theorem gTab : Tryz.prog.globalNamed "internal/strconv.uint64pow10" = some 1 := by kernel_rfl
theorem gTabType : (Tryz.prog.globals[1]?).map (·.type) = some 142 := by kernel_rfl
theorem cellsA : Tryz.prog.cellsOf 142 = 20 := by kernel_rfl
theorem cellsU : Tryz.prog.cellsOf 115 = 1 := by kernel_rfl
theorem tabEq : (Rows.laid_internal_strconv_uint64pow10 : DataW Unit) = Lib.tabData .u64 Lib.pow10Tab := by kernel_rfl
theorem table {W : World} (h : laidMetH Tryz.prog Rows.checkFieldsRow.laid W) : Lib.TabIs Tryz.prog W "internal/strconv.uint64pow10" .u64 Lib.pow10Tab := by
 have h1 : laidMet Tryz.prog [("math/bits.deBruijn32tab", Rows.laid_math_bits_deBruijn32tab), ("math/bits.deBruijn64tab", Rows.laid_math_bits_deBruijn64tab), ("internal/strconv.uint64pow10", Rows.laid_internal_strconv_uint64pow10)] W := h
 have h2 := laidMet.tail (laidMet.tail h1)
 rw [tabEq] at h2
 exact Lib.tabIs_of_head (rest := []) gTab gTabType Tryz.underlying142 Tryz.underlying115 cellsU cellsA h2
theorem kids : Kids Tryz.prog (· < Tryz.prog.types.size) := kids_rows (by kernel_rfl) (by kernel_rfl)
theorem full : ∀ t e, t < Tryz.prog.types.size → Tryz.prog.underlying t = some (.slice e) → 0 < Tryz.prog.cellsOf e := slices_full_of Tryz.prog (by kernel_rfl)
theorem rowed : ∀ t ∈ [26, 9], t < Tryz.prog.types.size := by
 intro t ht
 simp only [List.mem_cons, List.not_mem_nil, or_false] at ht
 have h : (26 : Nat) < Tryz.prog.types.size := of_decide_eq_true (by kernel_rfl)
 rcases ht with rfl | rfl
 ·exact h
 ·exact Nat.lt_trans (by decide) h
theorem strTy : Ty Tryz.prog .str 9 := by rw [Ty]; exact Tryz.underlying9
theorem intTy : Ty Tryz.prog (.int .i64) 3 := by rw [Ty]; exact Tryz.underlying3
theorem strsTy : Ty Tryz.prog (.sl .str) 35 := by
 rw [Ty]
 exact ⟨9, Tryz.underlying35, strTy, by kernel_rfl, by decide⟩
theorem intsTy : Ty Tryz.prog (.sl (.int .i64)) 24 := by
 rw [Ty]
 exact ⟨3, Tryz.underlying24, intTy, by kernel_rfl, by decide⟩
theorem srtTy : Ty Tryz.prog srtTD 37 := by
 unfold srtTD
 rw [Ty]
 simp only [TyL]
 exact ⟨_, Tryz.underlying37, ⟨_, _, rfl, rfl, strTy, by kernel_rfl, ⟨_, _, rfl, rfl, strsTy, by kernel_rfl, rfl⟩⟩, by kernel_rfl⟩
theorem fcnTy : Ty Tryz.prog fcnTD 80 := by
 unfold fcnTD
 rw [Ty]
 simp only [TyL]
 exact ⟨_, Tryz.underlying80, ⟨_, _, rfl, rfl, strTy, by kernel_rfl, ⟨_, _, rfl, rfl, intTy, by kernel_rfl, ⟨_, _, rfl, rfl, strsTy, by kernel_rfl, ⟨_, _, rfl, rfl, intTy, by kernel_rfl, rfl⟩⟩⟩⟩, by kernel_rfl⟩
theorem dscTy : Ty Tryz.prog dscTD 26 := by
 have h1 : Ty Tryz.prog (.sl srtTD) 22 := by
  rw [Ty]
  exact ⟨37, Tryz.underlying22, srtTy, by kernel_rfl, by decide⟩
 have h2 : Ty Tryz.prog (.sl fcnTD) 23 := by
  rw [Ty]
  exact ⟨80, Tryz.underlying23, fcnTy, by kernel_rfl, by decide⟩
 unfold dscTD
 rw [Ty]
 simp only [TyL]
 exact ⟨_, Tryz.underlying26, ⟨_, _, rfl, rfl, h1, by kernel_rfl, ⟨_, _, rfl, rfl, h2, by kernel_rfl, ⟨_, _, rfl, rfl, intTy, by kernel_rfl, ⟨_, _, rfl, rfl, intsTy, by kernel_rfl, rfl⟩⟩⟩⟩, by kernel_rfl⟩
theorem contract (H : Type) (enc : TypeId × Value → H) (W : World) (base : Nat) (args : Array Value) (ds gs : List (DataW H)) (before : List MemPlace)
 (hval : ∀ (j : Nat) t v, Tryz.f3.params[j]? = some t → args[j]? = some v → Value.okWide Tryz.prog W .any base t v)
 (hW : DataW.Whole enc Tryz.prog Tryz.f3.params.toList Rows.checkFieldsSpec.vars false W args.toList ds gs before) (hL : laidMetH Tryz.prog Rows.checkFieldsRow.laid W) (hsh : W.ShapedOpen Tryz.prog) :
 Calls Tryz.prog 3 args W fun e W' => ∃ v, e = .returned v ∧ Rows.checkFieldsSpec.post enc Tryz.prog Tryz.f3 false true false false W args v W' := by
 have hW' := hW
 obtain ⟨p, q, hA, hV, rfl, hfz, hnd⟩ := hW
 have hpar : Tryz.f3.params.toList = [26, 9] := by rw [Tryz.params3]
 rw [hpar] at hA
 have hagg : ∀ (j : Nat) t v, [26, 9][j]? = some t → args.toList[j]? = some v → ((∃ fs, Tryz.prog.underlying t = some (.struct fs)) ↔ ∃ cs, v = .agg cs) := by
  intro j t v ht hv
  have hok := hval j t v (by rw [Tryz.params3]; rw [← Array.getElem?_toList]; exact ht) (by simpa using hv)
  rcases j with _ | _ | j
  ·simp at ht
   subst ht
   refine ⟨fun _ => ?_, fun _ => ⟨_, Tryz.underlying26⟩⟩
   cases v <;> first | exact ⟨_, rfl⟩ | (exfalso; simp [Value.okWide, Cell.okWide, Cell.ok, Tryz.underlying26] at hok)
  ·simp at ht
   subst ht
   refine ⟨fun ⟨fs, h⟩ => (by rw [Tryz.underlying9] at h; cases h), fun ⟨cs, h⟩ => ?_⟩
   subst h
   exfalso; simp [Value.okWide, Cell.okWide, Cell.ok, Tryz.underlying9] at hok
  ·simp at ht
 obtain ⟨ι, h, iargs, hok, hro, hla, hrep⟩ := layArgs0 [dscTD, .str] ⟨26, [9], rfl, dscTy, ⟨9, [], rfl, strTy, rfl⟩⟩ hA hagg
 simp only [LaysArgs] at hla
 obtain ⟨d, r, v, vr, rfl, rfl, ⟨cs, hl, hcs⟩, d2, r2, v2, vr2, rfl, rfl, ⟨cs2, hl2, hcs2⟩, rfl, rfl⟩ := hla
 obtain ⟨va, fa, ma, ga, l, rfl, hv, hlen, hfl⟩ := dsc_of_lays hl
 have hvv : v = .agg #[va, fa, ma, ga] := hcs
 subst hvv
 simp only [Lays] at hl2
 obtain ⟨t, htw, rfl, rfl⟩ := hl2
 have hvv2 : v2 = .string t := by
  have : [Value.string t] = [v2] := hcs2
  cases this; rfl
 subst hvv2
 have hmx : maxLen ≤ 9223372036854775807 := by decide
 obtain ⟨n, out, h', hi, rfl⟩ := fields_law fldF (s := t) (f := fa) (m := ma) (g := ga) hv (Nat.le_trans hlen hmx) fun x hx => Nat.le_trans (hfl x hx) hmx
 have hc := calls_oldG (goodG_good _) T1ok hi ⟨hsh, table hL⟩ hok hrep
 rw [show args.toList.toArray = args by simp] at hc
 refine hc.mono fun e W' ⟨⟨w, he, ι', hr⟩, h1, h2, h3, h4, h5⟩ => ?_
 have hw : w = .bool true := rep_ofbool hr
 subst hw
 exact ⟨_, he, post_old (tb := 4) hW' rfl (by kernel_rfl) Tryz.underlying4 rfl kids full (fun t ht => by rw [hpar] at ht; exact rowed t ht) h1 h2 h3 h5⟩
def setC (cs : Array Value) : Obj → Obj
 | .cells _ t frozen => .cells cs t frozen
 | o => o
noncomputable def laidWorld (os : Os) : World :=
 { World.holding Tryz.prog os ⟨#[], #[], []⟩ with heap := (((World.holding Tryz.prog os ⟨#[], #[], []⟩).heap.modify 1 (setC (#[1, 10, 100, 1000, 10000, 100000, 1000000, 10000000, 100000000, 1000000000, 10000000000, 100000000000, 1000000000000, 10000000000000, 100000000000000, 1000000000000000, 10000000000000000, 100000000000000000, 1000000000000000000, 10000000000000000000].map fun n : Int => Value.int .u64 n))).modify 2 (setC (#[0, 1, 28, 2, 29, 14, 24, 3, 30, 22, 20, 15, 25, 17, 4, 8, 31, 27, 13, 23, 21, 19, 16, 7, 26, 12, 18, 6, 11, 5, 10, 9].map fun n : Int => Value.int .u8 n))).modify 3 (setC (#[0, 1, 56, 2, 57, 49, 28, 3, 61, 58, 42, 50, 38, 29, 17, 4, 62, 47, 59, 36, 45, 43, 51, 22, 53, 39, 33, 30, 24, 18, 12, 5, 63, 55, 48, 27, 60, 41, 37, 16, 46, 35, 44, 21, 52, 32, 23, 11, 54, 26, 40, 15, 34, 20, 31, 10, 25, 14, 19, 9, 13, 8, 7, 6].map fun n : Int => Value.int .u8 n)) }
theorem laid_met (os : Os) : laidMet Tryz.prog Rows.checkFieldsRow.laid ((laidWorld os).forCall (fun _ _ => 0) ⟨#[], #[.agg #[.slice none 0 0, .slice none 0 0, .int .i64 0, .slice none 0 0], .string ⟨#[]⟩], []⟩).memory :=
 laidMet_of_run' 8 (by kernel_rfl) (by kernel_rfl)
theorem reads (os : Os) {H : Type} (enc : TypeId × Value → H) : ∃ places, DataW.whole enc Tryz.prog ((laidWorld os).forCall (fun _ _ => 0) ⟨#[], #[.agg #[.slice none 0 0, .slice none 0 0, .int .i64 0, .slice none 0 0], .string ⟨#[]⟩], []⟩).memory Tryz.f3.params.toList Rows.checkFieldsSpec.vars false #[Value.agg #[.slice none 0 0, .slice none 0 0, .int .i64 0, .slice none 0 0], .string ⟨#[]⟩].toList 8 = some ([.agg [.nil, .nil, .lit (.int .i64 0), .nil], .lit (.string [])], [], places) :=
 ⟨[], by kernel_rfl⟩
theorem lifted (os : Os) (started : os.Started) (H : Type) (enc : TypeId × Value → H) (F : Stop.Interp) :
 ReturnsInHanded {} Tryz.checked os 3 .any ((OpenSpec.ofChange Rows.checkFieldsSpec).preRow enc Tryz.prog Tryz.f3 Rows.checkFieldsRow.domain false Rows.checkFieldsRow.laid) (((OpenSpec.ofChange Rows.checkFieldsSpec).at F).post enc Tryz.prog Tryz.f3 false true false false) := by
 obtain ⟨places, hx⟩ := reads os enc
 refine returnsInHanded_of_row (C := Tryz.checked) (s := OpenSpec.ofChange Rows.checkFieldsSpec) own started (by kernel_rfl) Tryz.func3
  (witness_row_at (enc := enc) (C := Tryz.checked) false (laidWorld os) #[.agg #[.slice none 0 0, .slice none 0 0, .int .i64 0, .slice none 0 0], .string ⟨#[]⟩] rfl (by kernel_rfl) (by kernel_rfl) (by kernel_rfl)
   (OpenSpec.preRow_of_cond 8 hx (by kernel_rfl) (fun k hk => by cases hk) (by kernel_rfl) (laid_met os))) ?_
 intro W base args ds gs before hval hW _ _ _ hL hsh _
 exact contract H enc W base args ds gs before hval hW hL hsh
theorem said : Rows.CheckFieldsSaid :=
 OpenClaim.holds_of_cond 3 Tryz.f3 rfl rfl rfl rfl rfl rfl rfl ⟨rfl, rfl, rfl, rfl, rfl⟩ rfl rfl rfl rfl rfl (by kernel_rfl) Tryz.func3 (by kernel_rfl)
  (of_decide_eq_true (by kernel_rfl)) (by unfold Func.isWrapper; first | (rw [if_pos (by decide +kernel)]; kernel_rfl) | (rw [if_neg (by decide +kernel)]; exact ⟨rfl, rfl⟩))
  (fun os started H enc _ F => by rw [OpenClaim.pre_eq_preRow]; exact lifted os started H enc F)
theorem plain (f : FuncId) (fn : Func) (hf : Tryz.pinned.checked.prog.funcNamed "swath/swathlaw08.CheckFields" = some f) (hfn : Tryz.pinned.checked.prog.funcs[f]? = some fn) :
 true = Tryz.pinned.checked.prog.looks [] ∧ ∀ (j : Nat) t, fn.params[j]? = some t → Tryz.pinned.checked.prog.wantsStandIn t = false := by
 obtain rfl : f = 3 := Option.some.inj ((show Tryz.prog.funcNamed "swath/swathlaw08.CheckFields" = some 3 by kernel_rfl).symm.trans hf) |>.symm
 obtain rfl : fn = Tryz.f3 := (Option.some.inj (Tryz.func3.symm.trans hfn)).symm
 refine ⟨by kernel_rfl, fun j t ht => ?_⟩
 rw [Tryz.params3] at ht
 have hm := Array.mem_of_getElem? ht
 simp only [List.mem_toArray, List.mem_cons, List.not_mem_nil, or_false] at hm
 rcases hm with rfl | rfl
 ·exact (show Tryz.prog.wantsStandIn 26 = false by kernel_rfl)
 ·exact (show Tryz.prog.wantsStandIn 9 = false by kernel_rfl)
theorem proved : Rows.CheckFieldsCardSaid :=
 Claim7.holds_tied_plain_at .later [] _ _ _ _ said (nofun) (by kernel_rfl) (nofun) checkFields_row_tie rfl ⟨rfl, rfl⟩ (by kernel_rfl) rfl plain (by kernel_rfl)
end Go.Proofs.YtbngfhkhdilfdaaGreatDoor.checkFields
end
