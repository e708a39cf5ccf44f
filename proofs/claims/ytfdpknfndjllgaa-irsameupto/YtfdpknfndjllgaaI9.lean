/- More fuel comes to the same. -/
import Derived.Test.YtfdpknfndjllgaaI0b
namespace Go.Idl
set_option linter.unusedVariables false
set_option linter.unusedSimpArgs false

def CallLe (f g : CallF) : Prop := ∀ c a h r, f c a h = some r → g c a h = some r

theorem afterCall_mono {dst : Option Nat} {s : St} {o o' : Option (Out × Heap)} {r : Option Value × St} (ho : ∀ q, o = some q → o' = some q) (h : afterCall dst s o = some r) : afterCall dst s o' = some r := by
  cases o with
  | none => simp [afterCall] at h
  | some q => rw [ho q rfl]; exact h

theorem istm_mono {f g : CallF} (hc : CallLe f g) {dst : Option Nat} {m : Stm} {s : St} {r : Option Value × St} (h : istm f dst m s = some r) : istm g dst m s = some r := by
  cases m with
  | op o => exact h
  | call k args => exact afterCall_mono (fun q hq => hc _ _ _ _ hq) h
  | callv x args =>
    simp only [istm] at h ⊢
    split at h
    · exact afterCall_mono (fun q hq => hc _ _ _ _ hq) h
    · cases h
  | defer x args => exact h
  | panic x => exact h

theorem iops_mono {f g : CallF} (hc : CallLe f g) : ∀ {l : List Step} {s : St} {r : Option Value × St}, iops f l s = some r → iops g l s = some r
  | [], s, r, h => h
  | x :: rest, s, r, h => by
    simp only [iops] at h ⊢
    split
    · rename_i hw
      rw [if_pos hw] at h
      cases hm : istm f x.dst x.stm s with
      | none => rw [hm] at h; cases h
      | some q =>
        rw [hm] at h
        rw [istm_mono hc hm]
        obtain ⟨v, s1⟩ := q
        cases v with
        | none => exact iops_mono hc h
        | some v => exact h
    · rename_i hw
      rw [if_neg hw] at h
      exact iops_mono hc h

theorem idraw_mono {f g : CallF} (hc : CallLe f g) {anc : List (List Nat)} {ds : List Nat} : ∀ {l : List Step} {i : Nat} {rs : List (Nat × Loc)} {es : List (Nat × Heap × Heap)} {s : St} {r : Option Value × St}, idraw f anc ds l i rs es s = some r → idraw g anc ds l i rs es s = some r
  | [], i, rs, es, s, r, h => h
  | x :: rest, i, rs, es, s, r, h => by
    simp only [idraw] at h ⊢
    by_cases hw : wantedE s.e x.grd = true
    · rw [if_pos hw] at h ⊢
      cases hm : istm f x.dst x.stm s with
      | none => rw [hm] at h; cases h
      | some q =>
        rw [hm] at h
        rw [istm_mono hc hm]
        obtain ⟨v, s1⟩ := q
        cases v with
        | none =>
          simp only at h ⊢
          cases hk : kdStm x.stm <;> rw [hk] at h <;> simp only at h ⊢
          · exact idraw_mono hc h
          · split at h
            · rename_i h1; rw [if_pos h1]; exact idraw_mono hc h
            · cases h
          · exact idraw_mono hc h
          · split at h
            · rename_i h1; rw [if_pos h1]; exact idraw_mono hc h
            · cases h
        | some v => exact h
    · rw [if_neg hw] at h ⊢
      exact idraw_mono hc h

theorem loopCode_mono {f g : IC → St → Option (Ex × St)} {b : IC} (hf : ∀ s r, f b s = some r → g b s = some r) : ∀ {n m : Nat} {s : St} {r : Ex × St}, n ≤ m → loopCode f b n s = some r → loopCode g b m s = some r
  | 0, _, s, r, _, h => by cases h
  | n + 1, 0, s, r, hl, _ => by omega
  | n + 1, m + 1, s, r, hl, h => by
    simp only [loopCode] at h ⊢
    cases hm : f b s with
    | none => rw [hm] at h; cases h
    | some q =>
      rw [hm] at h
      rw [hf _ _ hm]
      obtain ⟨x, s1⟩ := q
      cases x with
      | normal => exact loopCode_mono hf (by omega) h
      | _ => exact h

theorem icode_mono {f g : CallF} (hc : CallLe f g) {n m : Nat} (hl : n ≤ m) : ∀ {c : IC} {s : St} {r : Ex × St}, icode f n c s = some r → icode g m c s = some r := by
  intro c
  induction c with
  | skip => intro s r h; exact h
  | exit id => intro s r h; exact h
  | ret => intro s r h; exact h
  | ops l =>
    intro s r h
    simp only [icode] at h ⊢
    cases hm : iops f l s with
    | none => rw [hm] at h; cases h
    | some q => rw [hm] at h; rw [iops_mono hc hm]; exact h
  | draw l anc =>
    intro s r h
    simp only [icode] at h ⊢
    cases hm : idraw f anc (l.filterMap (·.dst)) l 0 [] [] s with
    | none => rw [hm] at h; cases h
    | some q => rw [hm] at h; rw [idraw_mono hc hm]; exact h
  | seq a b iha ihb =>
    intro s r h
    simp only [icode] at h ⊢
    cases hm : icode f n a s with
    | none => rw [hm] at h; cases h
    | some q =>
      rw [hm] at h
      rw [iha hm]
      obtain ⟨x, s1⟩ := q
      cases x with
      | normal => exact ihb h
      | _ => exact h
  | cond c a b iha ihb =>
    intro s r h
    simp only [icode] at h ⊢
    split at h
    · exact iha h
    · exact ihb h
    · cases h
  | block id b ih =>
    intro s r h
    simp only [icode] at h ⊢
    cases hm : icode f n b s with
    | none => rw [hm] at h; cases h
    | some q => rw [hm] at h; rw [ih hm]; exact h
  | loop b ih =>
    intro s r h
    simp only [icode] at h ⊢
    exact loopCode_mono (f := fun _ s => icode f n b s) (g := fun _ s => icode g m b s) (fun s r h => ih h) hl h
  | rangeF fo ps asg body _ _ =>
    intro s r h
    simp only [icode] at h ⊢
    split at h
    · cases h
    · split at h
      · rename_i k vs htg
        cases hm : f (.fn k) vs ((s.h.new .dfr).new (.loop ⟨.ready, none, s.e, ps, asg, body⟩)) with
        | none => rw [hm] at h; cases h
        | some q => rw [hm] at h; rw [hc _ _ _ _ hm]; exact h
      · cases h

theorem icodeD_mono {f g : CallF} (hc : CallLe f g) {n m : Nat} (hl : n ≤ m) : ∀ {c : IC} {v : Option Value} {s : St} {r : Ex × Option Value × St}, icodeD f n c v s = some r → icodeD g m c v s = some r := by
  have plain : ∀ {c : IC} {v : Option Value} {s : St} {r : Ex × Option Value × St}, (icode f n c s).map (fun r => (r.1, v, r.2)) = some r → (icode g m c s).map (fun r => (r.1, v, r.2)) = some r := by
    intro c v s r h
    cases hm : icode f n c s with
    | none => rw [hm] at h; cases h
    | some q => rw [hm] at h; rw [icode_mono hc hl hm]; exact h
  intro c
  induction c with
  | ops l =>
    intro v s r h
    simp only [icodeD] at h ⊢
    split at h
    · rename_i h1; rw [if_pos h1]; exact h
    · rename_i h1; rw [if_neg h1]; exact plain h
  | seq a b iha ihb =>
    intro v s r h
    simp only [icodeD] at h ⊢
    cases hm : icodeD f n a v s with
    | none => rw [hm] at h; cases h
    | some q =>
      rw [hm] at h
      rw [iha hm]
      obtain ⟨x, v1, s1⟩ := q
      cases x with
      | normal => exact ihb h
      | _ => exact h
  | cond c a b iha ihb =>
    intro v s r h
    simp only [icodeD] at h ⊢
    split at h
    · exact iha h
    · exact ihb h
    · cases h
  | _ => intro v s r h; simp only [icodeD] at h ⊢; exact plain h

theorem idefer_mono {f g : CallF} (hc : CallLe f g) {T : Tbl} {n m : Nat} (hl : n ≤ m) : ∀ {ds : List Dfr} {v : Option Value} {h : Heap} {r : Option Value × Heap}, idefer f T n ds v h = some r → idefer g T m ds v h = some r
  | [], v, h, r, hh => hh
  | .mark b :: ds, v, h, r, hh => by
    simp only [idefer] at hh ⊢
    split at hh
    · exact idefer_mono hc hl hh
    · cases hh
  | .fn k args :: ds, v, h, r, hh => by
    simp only [idefer] at hh ⊢
    split at hh
    · cases hh
    · split at hh
      · cases hh
      rename_i fn hfn hlen
      cases hm : icodeD f n fn.code v ⟨args0 args, h, some []⟩ with
      | none => rw [hm] at hh; cases hh
      | some q =>
        rw [hm] at hh
        rw [icodeD_mono hc hl hm]
        simp only [if_neg hlen]
        split at hh
        · split at hh
          · exact idefer_mono hc hl hh
          · cases hh
        · split at hh
          · exact idefer_mono hc hl hh
          · cases hh
        · cases hh

theorem ileave_mono {f g : CallF} (hc : CallLe f g) {T : Tbl} {n m : Nat} (hl : n ≤ m) {fn : IFn} {v : Option Value} {s : St} {r : Out × Heap} (h : ileave f T n fn v s = some r) : ileave g T m fn v s = some r := by
  unfold ileave at h ⊢
  split at h
  · cases h
  · rename_i ds hds
    cases hm : idefer f T n ds v s.h with
    | none => rw [hm] at h; cases h
    | some q => rw [hm] at h; rw [idefer_mono hc hl hm]; exact h

theorem icall_mono1 (T : Tbl) : ∀ n, CallLe (icall T n) (icall T (n + 1))
  | 0 => fun c a h r hh => by cases hh
  | n + 1 => by
    have ih := icall_mono1 T n
    have hl : n ≤ n + 1 := Nat.le_succ n
    intro c a h r hh
    cases c with
    | fn k =>
      rw [icall] at hh ⊢
      split at hh
      · split at hh
        · cases hh
        rename_i fn hfn hlen
        rw [if_neg hlen]
        cases hm : icode (icall T n) n fn.code ⟨args0 a, h, some []⟩ with
        | none => rw [hm] at hh; cases hh
        | some q =>
          rw [hm] at hh
          rw [icode_mono ih hl hm]
          obtain ⟨x, s⟩ := q
          cases x with
          | brk i => cases hh
          | _ => exact ileave_mono ih hl hh
      · exact hh
    | yld l =>
      rw [icall] at hh ⊢
      split at hh
      · split at hh
        · rename_i L hL hlen
          rw [if_pos hlen]
          cases hm : icode (icall T n) n L.asg ⟨setPs L.e L.ps a, h, none⟩ with
          | none => rw [hm] at hh; cases hh
          | some q =>
            rw [hm] at hh
            rw [icode_mono ih hl hm]
            obtain ⟨x, s⟩ := q
            cases x with
            | normal =>
              simp only at hh ⊢
              split at hh
              · split at hh
                · rename_i L1 hL1 hst
                  rw [if_pos hst]
                  cases hb : icode (icall T n) n L.body { s with h := s.h.set l (.loop { L1 with st := .busy }) } with
                  | none => rw [hb] at hh; cases hh
                  | some q =>
                    rw [hb] at hh
                    rw [icode_mono ih hl hb]
                    exact hh
                · cases hh
              · cases hh
            | _ => cases hh
        · cases hh
      · cases hh

theorem icall_mono (T : Tbl) {n m : Nat} (h : n ≤ m) : CallLe (icall T n) (icall T m) := by
  induction m with
  | zero => have : n = 0 := by omega
            subst this; exact fun _ _ _ _ h => h
  | succ m ih =>
    by_cases e : n = m + 1
    · subst e; exact fun _ _ _ _ h => h
    · exact fun c a hh r hr => icall_mono1 T m c a hh r (ih (by omega) c a hh r hr)

end Go.Idl
