/- A reading that can be computed; what it comes to, the ideal one comes to. (Written by gen10.py.) -/
import Derived.Test.YtfdpknfndjllgaaI9
namespace Go.Idl
set_option linter.unusedVariables false
set_option linter.unusedSimpArgs false

def veq : Value → Value → Bool
  | .bool a, .bool b => a == b
  | .int k a, .int k' b => k == k' && a == b
  | .string a, .string b => decide (a = b)
  | .pointer a, .pointer b => decide (a = b)
  | .slice a l c, .slice b l' c' => decide (a = b) && l == l' && c == c'
  | .map a, .map b => decide (a = b)
  | .nilFunc, .nilFunc => true
  | .nilIface, .nilIface => true
  | .iface t v, .iface t' v' => t == t' && veq v v'
  | .func (.func f) a b, .func (.func g) a' b' => f == g && a.isEmpty && a'.isEmpty && b.isEmpty && b'.isEmpty
  | _, _ => false

theorem veq_eq : ∀ {a b : Value}, veq a b = true → a = b
  | .bool a, b, h => by cases b <;> simp_all [veq]
  | .int k a, b, h => by cases b <;> simp_all [veq]
  | .string a, b, h => by cases b <;> simp_all [veq]
  | .pointer a, b, h => by cases b <;> simp_all [veq]
  | .slice a l c, b, h => by cases b <;> simp_all [veq]
  | .map a, b, h => by cases b <;> simp_all [veq]
  | .nilFunc, b, h => by cases b <;> simp_all [veq]
  | .nilIface, b, h => by cases b <;> simp_all [veq]
  | .iface t v, b, h => by
    cases b <;> first | (simp [veq] at h; done) | skip
    simp only [veq, Bool.and_eq_true, beq_iff_eq] at h
    rw [h.1, veq_eq h.2]
  | .func f x y, b, h => by
    cases b <;> first | (simp [veq] at h; done) | skip
    rename_i g _ _
    cases f <;> cases g <;> simp_all [veq]
  | .agg _, b, h => by cases b <;> simp [veq] at h
  | .tuple _, b, h => by cases b <;> simp [veq] at h
  | .chan _, b, h => by cases b <;> simp [veq] at h
  | .float _ _, b, h => by cases b <;> simp [veq] at h
  | .complex _ _ _, b, h => by cases b <;> simp [veq] at h

def leq : List Value → List Value → Bool
  | [], [] => true
  | a :: as, b :: bs => veq a b && leq as bs
  | _, _ => false

theorem leq_eq : ∀ {a b : List Value}, leq a b = true → a = b
  | [], [], _ => rfl
  | [], _ :: _, h => by simp [leq] at h
  | _ :: _, [], h => by simp [leq] at h
  | a :: as, b :: bs, h => by
    simp only [leq, Bool.and_eq_true] at h
    rw [veq_eq h.1, leq_eq h.2]

def peq : List (Value × Value) → List (Value × Value) → Bool
  | [], [] => true
  | a :: as, b :: bs => veq a.1 b.1 && veq a.2 b.2 && peq as bs
  | _, _ => false

theorem peq_eq : ∀ {a b : List (Value × Value)}, peq a b = true → a = b
  | [], [], _ => rfl
  | [], _ :: _, h => by simp [peq] at h
  | _ :: _, [], h => by simp [peq] at h
  | (a, a') :: as, (b, b') :: bs, h => by
    simp only [peq, Bool.and_eq_true] at h
    rw [veq_eq h.1.1, veq_eq h.1.2, peq_eq h.2]

def blkEq : Option Blk → Option Blk → Bool
  | some (.cells a o e), some (.cells b o' e') => leq a b && o == o' && e == e'
  | some (.map k a), some (.map k' b) => decide (k = k') && peq a b
  | some (.siter s p), some (.siter s' p') => decide (s = s') && p == p'
  | none, none => true
  | _, _ => false

theorem blkEq_eq {a b : Option Blk} (h : blkEq a b = true) : a = b := by
  unfold blkEq at h
  split at h
  · simp only [Bool.and_eq_true, beq_iff_eq] at h
    obtain ⟨⟨h1, rfl⟩, rfl⟩ := h
    rw [leq_eq h1]
  · simp only [Bool.and_eq_true, decide_eq_true_eq] at h
    obtain ⟨rfl, h1⟩ := h
    rw [peq_eq h1]
  · simp only [Bool.and_eq_true, decide_eq_true_eq, beq_iff_eq] at h
    obtain ⟨rfl, rfl⟩ := h
    rfl
  · rfl
  · cases h

def lopt : Option (List Value) → Option (List Value) → Bool
  | some a, some b => leq a b
  | none, none => true
  | _, _ => false
theorem lopt_eq {a b : Option (List Value)} (h : lopt a b = true) : a = b := by
  unfold lopt at h
  split at h
  · rw [leq_eq h]
  · rfl
  · cases h

def sameC (h h' : Heap) : Loc → Bool
  | .cells b o n => lopt (h.cells b o n) (h'.cells b o n)
  | .blk b => blkEq (h.get b) (h'.get b)
  | .sz b size => okSz h b size == okSz h' b size
  | .none => true

theorem sameC_at {h h' : Heap} {l : Loc} (hh : sameC h h' l = true) : sameAt h h' l := by
  cases l with
  | cells b o n => exact lopt_eq hh
  | blk b => exact blkEq_eq hh
  | sz b n => simpa [sameC, sameAt] using hh
  | none => trivial

/-- Each read's place must be as it was behind each effect that may come on its other side; so must be what was made new ahead of an effect that doesn't hang on it. -/
def cdraw (call : CallF) (anc : List (List Nat)) (ds : List Nat) : List Step → Nat → List (Nat × Loc) → List (Nat × Heap × Heap) → St → Option (Option Value × St)
  | [], _, _, _, s => some (none, s)
  | x :: rest, i, rs, es, s =>
    if wantedE s.e x.grd then
      match istm call x.dst x.stm s with
      | some (none, s') =>
        match kdStm x.stm with
        | .P => cdraw call anc ds rest (i + 1) rs es s'
        | .R => if (es.all fun p => (anc.getD i []).contains p.1 || sameC p.2.1 p.2.2 (locStm x.stm s.e)) then cdraw call anc ds rest (i + 1) ((i, locStm x.stm s.e) :: rs) es s' else none
        | .A => cdraw call anc ds rest (i + 1) ((i, .blk s.h.next) :: rs) es s'
        | .E => if (rs.all fun p => (anc.getD i []).contains p.1 || sameC s.h s'.h p.2) then cdraw call anc ds rest (i + 1) rs ((i, s.h, s'.h) :: es) s' else none
      | some (some v, s') => if allAnc i anc rest (i + 1) then some (some v, { s' with e := forget s.e ds }) else none
      | none => none
    else cdraw call anc ds rest (i + 1) rs es { s with e := dstUpd s.e x.dst undef }


def ccode (call : CallF) (n : Nat) : IC → St → Option (Ex × St)
  | .skip, s => some (.normal, s)
  | .ops l, s => exOf (iops call l s)
  | .draw l anc, s => exOf (cdraw call anc (l.filterMap (·.dst)) l 0 [] [] s)
  | .seq a b, s => match ccode call n a s with
    | some (.normal, s') => ccode call n b s'
    | r => r
  | .cond c a b, s => match ev s.e c with
    | .bool true => ccode call n a s
    | .bool false => ccode call n b s
    | _ => none
  | .block id b, s => match ccode call n b s with
    | some (.brk i, s') => if i = id then some (.normal, s') else some (.brk i, s')
    | r => r
  | .loop b, s => loopCode (fun _ s => ccode call n b s) b n s
  | .exit id, s => some (.brk id, s)
  | .ret, s => some (.ret, s)
  | .rangeF f ps asg body, s => match s.d with
    | none => none
    | some ds => match target (ev s.e f) [.func (.yield (s.h.next + 1)) #[] #[]] with
      | some (.fn g, vs) => match call (.fn g) vs ((s.h.new .dfr).new (.loop ⟨.ready, none, s.e, ps, asg, body⟩)) with
        | some (.ret _, h') => match h'.get (s.h.next + 1) with
          | some (.loop L) => if L.st = LSt.busy then none else
            match L.pend with
            | none => some (.normal, { s with h := h'.set (s.h.next + 1) (.loop { L with st := .gone }), d := some (Dfr.mark s.h.next :: ds) })
            | some j => some (jmpEx j, { s with h := h'.set (s.h.next + 1) (.loop { L with st := .gone }), d := some (Dfr.mark s.h.next :: ds) })
          | _ => none
        | some (.pan v, h') => some (.pan v, { s with h := h', d := some (Dfr.mark s.h.next :: ds) })
        | none => none
      | _ => none

def ccodeD (call : CallF) (n : Nat) : IC → Option Value → St → Option (Ex × Option Value × St)
  | .ops l, m, s => if hasRec l then (iopsD l m s).map fun r => (.normal, r.1, r.2) else (ccode call n (.ops l) s).map fun r => (r.1, m, r.2)
  | .seq a b, m, s => match ccodeD call n a m s with
    | some (.normal, m', s') => ccodeD call n b m' s'
    | r => r
  | .cond c a b, m, s => match ev s.e c with
    | .bool true => ccodeD call n a m s
    | .bool false => ccodeD call n b m s
    | _ => none
  | c, m, s => (ccode call n c s).map fun r => (r.1, m, r.2)

def cdefer (call : CallF) (T : Tbl) (n : Nat) : List Dfr → Option Value → Heap → Option (Option Value × Heap)
  | [], m, h => some (m, h)
  | .mark b :: ds, m, h => match h.get b with
    | some .dfr => cdefer call T n ds m (h.set b .dead)
    | _ => none
  | .fn f args :: ds, m, h => match T.fn f with
    | none => none
    | some fn => if fn.nt < args.length then none else match ccodeD call n fn.code m ⟨args0 args, h, some []⟩ with
      | some (.normal, m', ⟨e', h', some []⟩) => match resAll e' h' fn.res with
        | some _ => cdefer call T n ds m' h'
        | none => none
      | some (.ret, m', ⟨e', h', some []⟩) => match resAll e' h' fn.res with
        | some _ => cdefer call T n ds m' h'
        | none => none
      | _ => none

def cleave (call : CallF) (T : Tbl) (n : Nat) (fn : IFn) (m : Option Value) (s : St) : Option (Out × Heap) :=
  match s.d with
  | none => none
  | some ds => match cdefer call T n ds m s.h with
    | some (none, h) => (match m with
      | none => resAll s.e h fn.res
      | some _ => resAllP s.e h fn.res).map fun vs => (.ret (tup vs), h)
    | some (some v, h) => some (.pan v, h)
    | none => none

def ccall (T : Tbl) : Nat → CallF
  | 0, _, _, _ => none
  | n + 1, .fn f, args, h =>
    match T.fn f with
    | some fn => if fn.nt < args.length then none else match ccode (ccall T n) n fn.code ⟨args0 args, h, some []⟩ with
      | some (.normal, s) => cleave (ccall T n) T n fn none s
      | some (.ret, s) => cleave (ccall T n) T n fn none s
      | some (.pan v, s) => cleave (ccall T n) T n fn (some v) s
      | _ => none
    | none => match T.prim f with
      | some p => (p args).map fun v => (.ret v, h)
      | none => none
  | n + 1, .yld l, args, h =>
    match h.get l with
    | some (.loop L) =>
      if args.length = L.ps.length then
        match ccode (ccall T n) n L.asg ⟨setPs L.e L.ps args, h, none⟩ with
        | some (.normal, s) => match s.h.get l with
          | some (.loop L1) =>
            if L1.st = LSt.ready then
              match ccode (ccall T n) n L.body { s with h := s.h.set l (.loop { L1 with st := .busy }) } with
              | some (.pan _, _) => none
              | some (x, s2) => match s2.h.get l with
                | some (.loop L2) => match x with
                  | .normal => some (.ret (.bool true), s2.h.set l (.loop { L2 with st := .ready, pend := none }))
                  | .ret => some (.ret (.bool false), s2.h.set l (.loop { L2 with st := .done, pend := some .ret }))
                  | .brk id => some (.ret (.bool false), s2.h.set l (.loop { L2 with st := .done, pend := some (.brk id) }))
                  | .pan _ => none
                | _ => none
              | none => none
            else none
          | _ => none
        | _ => none
      else none
    | _ => none

theorem all_es {l : List (Nat × Heap × Heap)} {L : List Nat} {lc : Loc} (h : (l.all fun p => L.contains p.1 || sameC p.2.1 p.2.2 lc) = true) : ∀ p ∈ l, p.1 ∈ L ∨ sameAt p.2.1 p.2.2 lc := by
  intro p hp
  have := List.all_eq_true.1 h p hp
  simp only [Bool.or_eq_true, List.contains_iff_mem] at this
  exact this.imp id sameC_at
theorem all_rs {l : List (Nat × Loc)} {L : List Nat} {h0 h1 : Heap} (h : (l.all fun p => L.contains p.1 || sameC h0 h1 p.2) = true) : ∀ p ∈ l, p.1 ∈ L ∨ sameAt h0 h1 p.2 := by
  intro p hp
  have := List.all_eq_true.1 h p hp
  simp only [Bool.or_eq_true, List.contains_iff_mem] at this
  exact this.imp id sameC_at

theorem cdraw_ideal {f g : CallF} (hc : CallLe f g) {anc : List (List Nat)} {ds : List Nat} : ∀ {l : List Step} {i : Nat} {rs : List (Nat × Loc)} {es : List (Nat × Heap × Heap)} {s : St} {r : Option Value × St}, cdraw f anc ds l i rs es s = some r → idraw g anc ds l i rs es s = some r
  | [], i, rs, es, s, r, h => h
  | x :: rest, i, rs, es, s, r, h => by
    simp only [cdraw] at h
    simp only [idraw]
    by_cases hw : wantedE s.e x.grd = true
    · rw [if_pos hw] at h ⊢
      cases hm : istm f x.dst x.stm s with
      | none => rw [hm] at h; cases h
      | some q =>
        rw [hm] at h
        rw [istm_mono hc hm]
        obtain ⟨v, s1⟩ := q
        cases v with
        | none =>
          simp only at h ⊢
          cases hk : kdStm x.stm <;> rw [hk] at h <;> simp only at h ⊢
          · exact cdraw_ideal hc h
          · split at h
            · rename_i h1; rw [if_pos (all_es h1)]; exact cdraw_ideal hc h
            · cases h
          · exact cdraw_ideal hc h
          · split at h
            · rename_i h1; rw [if_pos (all_rs h1)]; exact cdraw_ideal hc h
            · cases h
        | some v => exact h
    · rw [if_neg hw] at h ⊢
      exact cdraw_ideal hc h

theorem ccode_ideal {f g : CallF} (hc : CallLe f g) {n m : Nat} (hl : n ≤ m) : ∀ {c : IC} {s : St} {r : Ex × St}, ccode f n c s = some r → icode g m c s = some r := by
  intro c
  induction c with
  | skip => intro s r h; exact h
  | exit id => intro s r h; exact h
  | ret => intro s r h; exact h
  | ops l =>
    intro s r h
    simp only [ccode] at h
    simp only [icode]
    cases hm : iops f l s with
    | none => rw [hm] at h; cases h
    | some q => rw [hm] at h; rw [iops_mono hc hm]; exact h
  | draw l anc =>
    intro s r h
    simp only [ccode] at h
    simp only [icode]
    cases hm : cdraw f anc (l.filterMap (·.dst)) l 0 [] [] s with
    | none => rw [hm] at h; cases h
    | some q => rw [hm] at h; rw [cdraw_ideal hc hm]; exact h
  | seq a b iha ihb =>
    intro s r h
    simp only [ccode] at h
    simp only [icode]
    cases hm : ccode f n a s with
    | none => rw [hm] at h; cases h
    | some q =>
      rw [hm] at h
      rw [iha hm]
      obtain ⟨x, s1⟩ := q
      cases x with
      | normal => exact ihb h
      | _ => exact h
  | cond c a b iha ihb =>
    intro s r h
    simp only [ccode] at h
    simp only [icode]
    split at h
    · rename_i hb; rw [hb]; exact iha h
    · rename_i hb; rw [hb]; exact ihb h
    · cases h
  | block id b ih =>
    intro s r h
    simp only [ccode] at h
    simp only [icode]
    cases hm : ccode f n b s with
    | none => rw [hm] at h; cases h
    | some q => rw [hm] at h; rw [ih hm]; exact h
  | loop b ih =>
    intro s r h
    simp only [ccode] at h
    simp only [icode]
    exact loopCode_mono (f := fun _ s => ccode f n b s) (g := fun _ s => icode g m b s) (fun s r h => ih h) hl h
  | rangeF fo ps asg body _ _ =>
    intro s r h
    simp only [ccode] at h
    simp only [icode]
    split at h
    · cases h
    · rename_i hds
      split at h
      · rename_i k vs htg
        simp only [hds, htg]
        cases hm : f (.fn k) vs ((s.h.new .dfr).new (.loop ⟨.ready, none, s.e, ps, asg, body⟩)) with
        | none => rw [hm] at h; cases h
        | some q => rw [hm] at h; rw [hc _ _ _ _ hm]; exact h
      · cases h

theorem ccodeD_ideal {f g : CallF} (hc : CallLe f g) {n m : Nat} (hl : n ≤ m) : ∀ {c : IC} {v : Option Value} {s : St} {r : Ex × Option Value × St}, ccodeD f n c v s = some r → icodeD g m c v s = some r := by
  have plain : ∀ {c : IC} {v : Option Value} {s : St} {r : Ex × Option Value × St}, (ccode f n c s).map (fun r => (r.1, v, r.2)) = some r → (icode g m c s).map (fun r => (r.1, v, r.2)) = some r := by
    intro c v s r h
    cases hm : ccode f n c s with
    | none => rw [hm] at h; cases h
    | some q => rw [hm] at h; rw [ccode_ideal hc hl hm]; exact h
  intro c
  induction c with
  | ops l =>
    intro v s r h
    simp only [ccodeD] at h
    simp only [icodeD]
    split at h
    · rename_i h1; rw [if_pos h1]; exact h
    · rename_i h1; rw [if_neg h1]; exact plain h
  | seq a b iha ihb =>
    intro v s r h
    simp only [ccodeD] at h
    simp only [icodeD]
    cases hm : ccodeD f n a v s with
    | none => rw [hm] at h; cases h
    | some q =>
      rw [hm] at h
      rw [iha hm]
      obtain ⟨x, v1, s1⟩ := q
      cases x with
      | normal => exact ihb h
      | _ => exact h
  | cond c a b iha ihb =>
    intro v s r h
    simp only [ccodeD] at h
    simp only [icodeD]
    split at h
    · rename_i hb; rw [hb]; exact iha h
    · rename_i hb; rw [hb]; exact ihb h
    · cases h
  | _ => intro v s r h; simp only [ccodeD] at h; simp only [icodeD]; exact plain h

theorem cdefer_ideal {f g : CallF} (hc : CallLe f g) {T : Tbl} {n m : Nat} (hl : n ≤ m) : ∀ {ds : List Dfr} {v : Option Value} {h : Heap} {r : Option Value × Heap}, cdefer f T n ds v h = some r → idefer g T m ds v h = some r
  | [], v, h, r, hh => hh
  | .mark b :: ds, v, h, r, hh => by
    simp only [cdefer] at hh
    simp only [idefer]
    split at hh
    · rename_i hb; rw [hb]; exact cdefer_ideal hc hl hh
    · cases hh
  | .fn k args :: ds, v, h, r, hh => by
    simp only [cdefer] at hh
    simp only [idefer]
    split at hh
    · cases hh
    · rename_i fn hfn
      rw [hfn]
      split at hh
      · cases hh
      rename_i hlen
      simp only [if_neg hlen]
      cases hm : ccodeD f n fn.code v ⟨args0 args, h, some []⟩ with
      | none => rw [hm] at hh; cases hh
      | some q =>
        rw [hm] at hh
        rw [ccodeD_ideal hc hl hm]
        split at hh
        · rename_i heq
          cases heq
          simp only
          split at hh
          · rename_i h1; rw [h1]; exact cdefer_ideal hc hl hh
          · cases hh
        · rename_i heq
          cases heq
          simp only
          split at hh
          · rename_i h1; rw [h1]; exact cdefer_ideal hc hl hh
          · cases hh
        · cases hh

theorem cleave_ideal {f g : CallF} (hc : CallLe f g) {T : Tbl} {n m : Nat} (hl : n ≤ m) {fn : IFn} {v : Option Value} {s : St} {r : Out × Heap} (h : cleave f T n fn v s = some r) : ileave g T m fn v s = some r := by
  unfold cleave at h
  unfold ileave
  split at h
  · cases h
  · rename_i ds hds
    rw [hds]
    simp only
    cases hm : cdefer f T n ds v s.h with
    | none => rw [hm] at h; cases h
    | some q => rw [hm] at h; rw [cdefer_ideal hc hl hm]; exact h

theorem ccall_ideal (T : Tbl) : ∀ n, CallLe (ccall T n) (icall T n)
  | 0 => fun c a h r hh => by cases hh
  | n + 1 => by
    have ih := ccall_ideal T n
    have hl : n ≤ n := Nat.le_refl n
    intro c a h r hh
    cases c with
    | fn k =>
      rw [ccall] at hh
      rw [icall]
      split at hh
      · rename_i fn hfn
        rw [hfn]
        simp only
        split at hh
        · cases hh
        rename_i hlen
        rw [if_neg hlen]
        cases hm : ccode (ccall T n) n fn.code ⟨args0 a, h, some []⟩ with
        | none => rw [hm] at hh; cases hh
        | some q =>
          rw [hm] at hh
          rw [ccode_ideal ih hl hm]
          obtain ⟨x, s⟩ := q
          cases x with
          | brk i => cases hh
          | _ => exact cleave_ideal ih hl hh
      · rename_i hfn; rw [hfn]; exact hh
    | yld l =>
      rw [ccall] at hh
      rw [icall]
      split at hh
      · rename_i L hL
        rw [hL]
        simp only
        split at hh
        · rename_i hlen
          rw [if_pos hlen]
          cases hm : ccode (ccall T n) n L.asg ⟨setPs L.e L.ps a, h, none⟩ with
          | none => rw [hm] at hh; cases hh
          | some q =>
            rw [hm] at hh
            rw [ccode_ideal ih hl hm]
            obtain ⟨x, s⟩ := q
            cases x with
            | normal =>
              simp only at hh ⊢
              split at hh
              · rename_i L1 hL1
                rw [hL1]
                simp only
                split at hh
                · rename_i hst
                  rw [if_pos hst]
                  cases hb : ccode (ccall T n) n L.body { s with h := s.h.set l (.loop { L1 with st := .busy }) } with
                  | none => rw [hb] at hh; cases hh
                  | some q =>
                    rw [hb] at hh
                    rw [ccode_ideal ih hl hb]
                    exact hh
                · cases hh
              · cases hh
            | _ => cases hh
        · cases hh
      · cases hh


end Go.Idl
