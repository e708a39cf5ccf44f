/- Numbers: what a text is, and the functions that tell it. -/
import Derived.Test.YtlphecjgkknpnaaI21
import Derived.Test.YtlphecjgkknpnaaI3f
section
/- Temporaries that code leaves as they are; loops over a range; ranges over a function. -/
namespace Go.Idl
set_option linter.unusedVariables false
set_option linter.unusedSimpArgs false

variable {T : Tbl}

def dsts (l : List Step) : List Nat := l.filterMap (·.dst)
def mods : IC → List Nat
  | .ops l => dsts l
  | .draw l _ => dsts l
  | .seq a b => mods a ++ mods b
  | .cond _ a b => mods a ++ mods b
  | .block _ b => mods b
  | .loop b => mods b
  | _ => []

/-- All temporaries stay but these. -/
def FrE (ms : List Nat) (e e' : Env) : Prop := ∀ t, ms.contains t = false → e' t = e t
theorem FrE.refl (ms : List Nat) (e : Env) : FrE ms e e := fun _ _ => rfl
theorem FrE.trans {ms : List Nat} {a b c : Env} (x : FrE ms a b) (y : FrE ms b c) : FrE ms a c := fun t h => (y t h).trans (x t h)
theorem FrE.sub {ms ns : List Nat} {a b : Env} (x : FrE ms a b) (h : ∀ t, t ∈ ms → t ∈ ns) : FrE ns a b := fun t ht => x t (by
  cases hc : ms.contains t with
  | false => rfl
  | true => exact absurd (h t (List.contains_iff_mem.1 hc)) (fun hm => by rw [List.contains_iff_mem.2 hm] at ht; cases ht))
theorem FrE.dst {ms : List Nat} {e e' : Env} (h : FrE ms e e') {dst : Option Nat} (hd : ∀ d, dst = some d → d ∈ ms) (v : Value) : FrE ms e (dstUpd e' dst v) := fun t ht => by
  cases dst with
  | none => exact h t ht
  | some d =>
    simp only [dstUpd, upd]
    rw [if_neg (fun e => by rw [e, List.contains_iff_mem.2 (hd d rfl)] at ht; cases ht)]
    exact h t ht
theorem FrE.dst1 {ms : List Nat} {e e' : Env} {dst : Option Nat} {v : Value} (h : FrE ms (dstUpd e dst v) e') (hd : ∀ d, dst = some d → d ∈ ms) : FrE ms e e' := fun t ht => by
  rw [h t ht]
  exact (FrE.refl ms e).dst hd v t ht

theorem istm_fr {call : CallF} {dst : Option Nat} {m : Stm} {s s' : St} {r : Option Value} (h : istm call dst m s = some (r, s')) : s'.e = s.e ∨ ∃ v, s'.e = dstUpd s.e dst v := by
  have after : ∀ q : Option (Out × Heap), afterCall dst s q = some (r, s') → s'.e = s.e ∨ ∃ v, s'.e = dstUpd s.e dst v := by
    intro q hq
    unfold afterCall at hq
    split at hq
    · cases hq; exact .inr ⟨_, rfl⟩
    · cases hq; exact .inl rfl
    · cases hq
  unfold istm at h
  split at h
  · split at h
    · cases h; exact .inr ⟨_, rfl⟩
    · cases h
  · exact after _ h
  · split at h
    · exact after _ h
    · cases h
  · split at h
    · cases h; exact .inr ⟨_, rfl⟩
    · cases h
  · split at h
    · cases h; exact .inl rfl
    · cases h

theorem dsts_head {x : Step} {l : List Step} {d : Nat} (h : x.dst = some d) : d ∈ dsts (x :: l) := by simp [dsts, h]
theorem dsts_tail {x : Step} {l : List Step} {d : Nat} (h : d ∈ dsts l) : d ∈ dsts (x :: l) := by
  simp only [dsts, List.mem_filterMap] at h ⊢
  obtain ⟨a, h1, h2⟩ := h
  exact ⟨a, List.mem_cons_of_mem _ h1, h2⟩

theorem istm_frE {call : CallF} {x : Step} {l : List Step} {s s' : St} {r : Option Value} (h : istm call x.dst x.stm s = some (r, s')) : FrE (dsts (x :: l)) s.e s'.e := by
  rcases istm_fr h with h | ⟨v, h⟩
  · rw [h]; exact .refl _ _
  · rw [h]; exact (FrE.refl _ _).dst (fun d hd => dsts_head hd) v

theorem iops_frE {call : CallF} : ∀ {l : List Step} {s s' : St} {r : Option Value}, iops call l s = some (r, s') → FrE (dsts l) s.e s'.e
  | [], s, s', r, h => by simp only [iops, Option.some.injEq, Prod.mk.injEq] at h; rw [h.2]; exact .refl _ _
  | x :: l, s, s', r, h => by
    simp only [iops] at h
    split at h
    · split at h
      · rename_i s1 hs
        exact (istm_frE (l := l) hs).trans ((iops_frE h).sub fun t ht => dsts_tail ht)
      · exact istm_frE h
    · exact ((iops_frE h).sub fun t ht => dsts_tail ht).dst1 (fun d hd => dsts_head hd)

theorem forget_frE (e : Env) (ds : List Nat) : FrE ds e (forget e ds) := fun t ht => by
  simp only [forget, ht]; rfl

theorem idraw_frE {call : CallF} {anc : List (List Nat)} {ds : List Nat} : ∀ {l : List Step} {i : Nat} {rs : List (Nat × Loc)} {es : List (Nat × Heap × Heap)} {s s' : St} {r : Option Value}, (∀ t, t ∈ dsts l → t ∈ ds) → idraw call anc ds l i rs es s = some (r, s') → FrE ds s.e s'.e
  | [], i, rs, es, s, s', r, _, h => by simp only [idraw, Option.some.injEq, Prod.mk.injEq] at h; rw [h.2]; exact .refl _ _
  | x :: l, i, rs, es, s, s', r, hs, h => by
    have ht : ∀ t, t ∈ dsts l → t ∈ ds := fun t ht => hs t (dsts_tail ht)
    simp only [idraw] at h
    split at h
    · split at h
      · rename_i s1 hm
        have h1 := (istm_frE (l := l) hm).sub hs
        split at h
        · exact h1.trans (idraw_frE ht h)
        · split at h
          · exact h1.trans (idraw_frE ht h)
          · cases h
        · exact h1.trans (idraw_frE ht h)
        · split at h
          · exact h1.trans (idraw_frE ht h)
          · cases h
      · rename_i v s1 hm
        split at h
        · cases h
          exact forget_frE s.e ds
        · cases h
      · cases h
    · exact (idraw_frE (s := ⟨dstUpd s.e x.dst undef, s.h, s.d⟩) ht h).dst1 (fun d hd => hs d (dsts_head hd))

theorem loopCode_frE {f : IC → St → Option (Ex × St)} {b : IC} {ms : List Nat} (hf : ∀ s x s', f b s = some (x, s') → FrE ms s.e s'.e) : ∀ {n : Nat} {s s' : St} {x : Ex}, loopCode f b n s = some (x, s') → FrE ms s.e s'.e
  | 0, s, s', x, h => by cases h
  | n + 1, s, s', x, h => by
    simp only [loopCode] at h
    split at h
    · rename_i s1 h1
      exact (hf _ _ _ h1).trans (loopCode_frE hf h)
    · exact hf _ _ _ h

theorem icode_frE {call : CallF} {n : Nat} : ∀ {c : IC} {s s' : St} {x : Ex}, icode call n c s = some (x, s') → FrE (mods c) s.e s'.e := by
  intro c
  induction c with
  | skip => intro s s' x h; cases h; exact .refl _ _
  | ops l =>
    intro s s' x h
    simp only [icode] at h
    cases hi : iops call l s with
    | none => rw [hi] at h; cases h
    | some q =>
      obtain ⟨r, s1⟩ := q
      have := iops_frE hi
      rw [hi] at h
      cases r <;> (cases h; exact this)
  | draw l anc =>
    intro s s' x h
    simp only [icode] at h
    cases hi : idraw call anc (l.filterMap (·.dst)) l 0 [] [] s with
    | none => rw [hi] at h; cases h
    | some q =>
      obtain ⟨r, s1⟩ := q
      have := idraw_frE (l := l) (ds := dsts l) (fun t ht => ht) hi
      rw [hi] at h
      cases r <;> (cases h; exact this)
  | seq a b iha ihb =>
    intro s s' x h
    simp only [icode] at h
    have sa : ∀ t, t ∈ mods a → t ∈ mods (.seq a b) := fun t ht => List.mem_append_left _ ht
    have sb : ∀ t, t ∈ mods b → t ∈ mods (.seq a b) := fun t ht => List.mem_append_right _ ht
    split at h
    · rename_i s1 h1
      exact ((iha h1).sub sa).trans ((ihb h).sub sb)
    · exact (iha h).sub sa
  | cond c a b iha ihb =>
    intro s s' x h
    simp only [icode] at h
    split at h
    · exact (iha h).sub fun t ht => List.mem_append_left _ ht
    · exact (ihb h).sub fun t ht => List.mem_append_right _ ht
    · cases h
  | block id b ih =>
    intro s s' x h
    simp only [icode] at h
    split at h
    · rename_i i s1 h1
      split at h <;> (cases h; exact ih h1)
    · exact ih h
  | loop b ih =>
    intro s s' x h
    simp only [icode] at h
    exact loopCode_frE (f := fun _ s => icode call n b s) (fun s x s' h => ih h) h
  | exit id => intro s s' x h; cases h; exact .refl _ _
  | ret => intro s s' x h; cases h; exact .refl _ _
  | rangeF f ps asg body _ _ =>
    intro s s' x h
    have he : s'.e = s.e := by
      simp only [icode] at h
      repeat' (split at h)
      all_goals (cases h <;> rfl)
    rw [he]; exact .refl _ _

/-- In what is to hold behind code, the temporaries that it never lays are as they were. -/
theorem Wc_fr {c : IC} {s : St} {Q : Ex → St → Prop} (h : Wc T c s (fun x s' => FrE (mods c) s.e s'.e → Q x s')) : Wc T c s Q := by
  obtain ⟨n, x, s', h1, h2⟩ := h
  exact ⟨n, x, s', h1, h2 (icode_frE h1)⟩

/-- A loop. -/
theorem Wc_loopF {b : IC} {s0 : St} {Q : Ex → St → Prop} (I : Env → Heap → Option (List Dfr) → Prop) (μ : Env → Heap → Nat) (h0 : I s0.e s0.h s0.d)
    (hr : ∀ e h d, I e h d → FrE (mods b) s0.e e → Wc T b ⟨e, h, d⟩ (fun x s' => match x with | .normal => I s'.e s'.h s'.d ∧ μ s'.e s'.h < μ e h | x => Q x s')) : Wc T (.loop b) s0 Q := by
  refine Wc_loop (fun s => I s.e s.h s.d ∧ FrE (mods b) s0.e s.e) (fun s => μ s.e s.h) ⟨h0, .refl _ _⟩ ?_
  rintro ⟨e, h, d⟩ ⟨hI, hF⟩
  refine Wc_fr ((hr e h d hI hF).mono fun x s' hx hfr => ?_)
  cases x with
  | normal => exact ⟨⟨hx.1, hF.trans hfr⟩, hx.2⟩
  | _ => exact hx

/-- What holds behind a round of a range. -/
def Rnd (blk idl i k : Nat) (N : Value) (I : Env → Heap → Option (List Dfr) → Prop) (Q : Ex → St → Prop) : Ex → St → Prop
  | .normal, s => I (upd (upd s.e k N) i N) s.h s.d
  | .brk b, s => if b = blk then I (upd (upd s.e k N) i N) s.h s.d else if b = idl then Q .normal s else Q (.brk b) s
  | x, s => Q x s

def sideG (c i : Nat) (ms : List Nat) : Bool := !ms.contains i && c != i

/-- A range up to what stays as it is. -/
theorem Wc_rangeG {idl blk c i k : Nat} {n : Opd} {B : IC} {s0 : St} {Q : Ex → St → Prop} (N : Nat) (I : Nat → Env → Heap → Option (List Dfr) → Prop) (hs : sideG c i (mods B) = true) (hi : s0.e i = .int .i64 0) (hn : ∀ e, FrE (c :: k :: i :: mods B) s0.e e → ev e n = .int .i64 N) (hN : N < 9223372036854775807) (hb : blk ≠ idl)
    (h0 : I 0 s0.e s0.h s0.d)
    (hr : ∀ (j : Nat) e h d, j < N → I j e h d → FrE (c :: k :: i :: mods B) s0.e e → e i = .int .i64 j → Wc T B ⟨upd e c (.bool true), h, d⟩ (Rnd blk idl i k (.int .i64 ((j + 1 : Nat) : Int)) (I (j + 1)) Q))
    (he : ∀ e h d, I N e h d → FrE (c :: k :: i :: mods B) s0.e e → e i = .int .i64 N → Q .normal ⟨upd e c (.bool false), h, d⟩) :
    Wc T (.block idl (.loop (.seq (.ops [⟨some c, .op (.bin .lss (.t i) n), none⟩]) (.seq (.cond (.t c) .skip (.exit idl)) (.seq (.block blk B) (.ops [⟨some k, .op (.bin .add (.t i) (.c (.int .i64 1))), none⟩, ⟨some i, .op (.mov (.t k)), none⟩])))))) s0 Q := by
  simp only [sideG, Bool.and_eq_true, Bool.not_eq_true', bne_iff_ne, ne_eq] at hs
  obtain ⟨s1, s3⟩ := hs
  refine Wc_block (Wc_loop (fun s => ∃ j : Nat, j ≤ N ∧ s.e i = .int .i64 j ∧ FrE (c :: k :: i :: mods B) s0.e s.e ∧ I j s.e s.h s.d) (fun s => match s.e i with | .int _ q => (N - q).toNat | _ => 0) ⟨0, Nat.zero_le _, hi, .refl _ _, h0⟩ ?_)
  rintro ⟨e, h, d⟩ ⟨j, hj, hei, hfr, hI⟩
  simp only at hei hfr hI
  have hen := hn e hfr
  refine Wc_seq (Wc_ops (Wo_op (v := .bool (decide ((j : Int) < N))) (h' := h) (by simp only [iop, ev.eq_1, hei, hen, binV, binI, if_true, Option.map_some]) (Wo_nil ?_)))
  show Wc T _ _ _
  refine Wc_seq (Wc_cond (decide ((j : Int) < N)) (by simp only [ev, dstUpd, upd, if_true]) (fun hlt => Wc_skip ?_) (fun hge => Wc_exit ?_))
  case refine_2 =>
    have hjN : j = N := by simp at hge; omega
    subst hjN
    rw [hge]
    simp only [Tb, Tn, if_true]
    exact he e h d hI hfr hei
  show Wc T _ _ _
  have hjN : j < N := by simpa using hlt
  rw [hlt]
  refine Wc_seq (Wc_block (Wc_fr ((hr j e h d hjN hI hfr hei).mono fun x s' hx hf => ?_)))
  have gi : s'.e i = .int .i64 j := by rw [hf i s1]; simp only [dstUpd, upd]; rw [if_neg (fun e => s3 e.symm)]; exact hei
  have e1 : IntKind.i64.wrap ((j : Int) + 1) = ((j + 1 : Nat) : Int) := by rw [wrap64] <;> omega
  have go : I (j + 1) (upd (upd s'.e k (.int .i64 ((j + 1 : Nat) : Int))) i (.int .i64 ((j + 1 : Nat) : Int))) s'.h s'.d → Wc T (.ops [⟨some k, .op (.bin .add (.t i) (.c (.int .i64 1))), none⟩, ⟨some i, .op (.mov (.t k)), none⟩]) s' (fun x s'' => match x with
      | .normal => (∃ j : Nat, j ≤ N ∧ s''.e i = .int .i64 j ∧ FrE (c :: k :: i :: mods B) s0.e s''.e ∧ I j s''.e s''.h s''.d) ∧ (match s''.e i with | .int _ q => (N - q).toNat | _ => 0) < (match e i with | .int _ q => (N - q).toNat | _ => 0)
      | x => Tb idl Q x s'') := by
    intro hI'
    obtain ⟨e', h', d'⟩ := s'
    simp only at gi hI'
    refine Wc_ops (Wo_op (v := .int .i64 ((j + 1 : Nat) : Int)) (h' := h') (by simp only [iop, ev, gi, binV, binI, e1, if_true, Option.map_some]) (Wo_op (v := .int .i64 ((j + 1 : Nat) : Int)) (h' := h') (by simp only [iop, ev, dstUpd, upd, if_true]) (Wo_nil ?_)))
    refine ⟨⟨j + 1, hjN, by simp only [dstUpd, upd, if_true], ?_, hI'⟩, ?_⟩
    · have f1 : FrE (c :: k :: i :: mods B) e e' := FrE.trans (b := upd e c (.bool true)) ((FrE.refl _ e).dst (dst := some c) (fun d hd => by cases hd; exact List.mem_cons_self ..) _) (hf.sub fun t ht => List.mem_cons_of_mem _ (List.mem_cons_of_mem _ (List.mem_cons_of_mem _ ht)))
      exact ((hfr.trans f1).dst (dst := some k) (fun d hd => by cases hd; exact List.mem_cons_of_mem _ (List.mem_cons_self ..)) _).dst (dst := some i) (fun d hd => by cases hd; exact List.mem_cons_of_mem _ (List.mem_cons_of_mem _ (List.mem_cons_self ..))) _
    · simp only [dstUpd, upd, if_true, hei]
      exact (Int.toNat_lt_toNat (by omega)).2 (by omega)
  cases x with
  | normal => exact go hx
  | brk b =>
    simp only [Rnd] at hx
    simp only [Tb]
    by_cases hbb : b = blk
    · rw [if_pos hbb] at hx ⊢
      exact go hx
    · rw [if_neg hbb] at hx ⊢
      simp only [Tn, Tb]
      exact hx
  | ret => exact hx
  | pan v => exact hx

def sideR (c i n k : Nat) (ms : List Nat) : Bool := sideG c i ms && !(c :: k :: i :: ms).contains n
/-- A range over a slice, or over a number. -/
theorem Wc_range {idl blk c i n k : Nat} {B : IC} {s0 : St} {Q : Ex → St → Prop} (N : Nat) (I : Nat → Env → Heap → Option (List Dfr) → Prop) (hs : sideR c i n k (mods B) = true) (hi : s0.e i = .int .i64 0) (hn : s0.e n = .int .i64 N) (hN : N < 9223372036854775807) (hb : blk ≠ idl)
    (h0 : I 0 s0.e s0.h s0.d)
    (hr : ∀ (j : Nat) e h d, j < N → I j e h d → FrE (c :: k :: i :: mods B) s0.e e → e i = .int .i64 j → e n = .int .i64 N → Wc T B ⟨upd e c (.bool true), h, d⟩ (Rnd blk idl i k (.int .i64 ((j + 1 : Nat) : Int)) (I (j + 1)) Q))
    (he : ∀ e h d, I N e h d → FrE (c :: k :: i :: mods B) s0.e e → e i = .int .i64 N → Q .normal ⟨upd e c (.bool false), h, d⟩) :
    Wc T (.block idl (.loop (.seq (.ops [⟨some c, .op (.bin .lss (.t i) (.t n)), none⟩]) (.seq (.cond (.t c) .skip (.exit idl)) (.seq (.block blk B) (.ops [⟨some k, .op (.bin .add (.t i) (.c (.int .i64 1))), none⟩, ⟨some i, .op (.mov (.t k)), none⟩])))))) s0 Q := by
  simp only [sideR, Bool.and_eq_true, Bool.not_eq_true'] at hs
  have hn' : ∀ e, FrE (c :: k :: i :: mods B) s0.e e → e n = .int .i64 N := fun e hf => (hf n hs.2).trans hn
  exact Wc_rangeG N I hs.1 hi hn' hN hb h0 (fun j e h d hj hI hf he => hr j e h d hj hI hf he (hn' e hf)) he
/-- A range over an array. -/
theorem Wc_rangeC {idl blk c i k : Nat} {B : IC} {s0 : St} {Q : Ex → St → Prop} (N : Nat) (I : Nat → Env → Heap → Option (List Dfr) → Prop) (hs : sideG c i (mods B) = true) (hi : s0.e i = .int .i64 0) (hN : N < 9223372036854775807) (hb : blk ≠ idl)
    (h0 : I 0 s0.e s0.h s0.d)
    (hr : ∀ (j : Nat) e h d, j < N → I j e h d → FrE (c :: k :: i :: mods B) s0.e e → e i = .int .i64 j → Wc T B ⟨upd e c (.bool true), h, d⟩ (Rnd blk idl i k (.int .i64 ((j + 1 : Nat) : Int)) (I (j + 1)) Q))
    (he : ∀ e h d, I N e h d → FrE (c :: k :: i :: mods B) s0.e e → e i = .int .i64 N → Q .normal ⟨upd e c (.bool false), h, d⟩) :
    Wc T (.block idl (.loop (.seq (.ops [⟨some c, .op (.bin .lss (.t i) (.c (.int .i64 N))), none⟩]) (.seq (.cond (.t c) .skip (.exit idl)) (.seq (.block blk B) (.ops [⟨some k, .op (.bin .add (.t i) (.c (.int .i64 1))), none⟩, ⟨some i, .op (.mov (.t k)), none⟩])))))) s0 Q :=
  Wc_rangeG (n := .c (.int .i64 N)) N I hs hi (fun _ _ => rfl) hN hb h0 hr he

/-- What holds behind a round of a loop that counts. -/
def Rnd3 (blk idl i a k : Nat) (M N : Value) (I : Env → Heap → Option (List Dfr) → Prop) (Q : Ex → St → Prop) : Ex → St → Prop
  | .normal, s => I (upd (upd (upd s.e a M) k N) i N) s.h s.d
  | .brk b, s => if b = blk then I (upd (upd (upd s.e a M) k N) i N) s.h s.d else if b = idl then Q .normal s else Q (.brk b) s
  | x, s => Q x s
def sideF (i a k : Nat) (ms : List Nat) : Bool := !ms.contains i && a != i && k != i && a != k

/-- A loop that counts from 0 on. -/
theorem Wc_for {idl blk c i a k : Nat} {C : List Step} {B : IC} {s0 : St} {Q : Ex → St → Prop} (N : Nat) (I : Nat → Env → Heap → Option (List Dfr) → Prop) (hs : sideF i a k (dsts C ++ mods B) = true) (hi : s0.e i = .int .i64 0) (hN : N < 9223372036854775807) (hb : blk ≠ idl)
    (h0 : I 0 s0.e s0.h s0.d)
    (hr : ∀ (j : Nat) e h d, j ≤ N → I j e h d → FrE (a :: k :: i :: (dsts C ++ mods B)) s0.e e → e i = .int .i64 j → Wo T C ⟨e, h, d⟩ (fun r s' => r = none ∧ ∃ p, s'.e c = .bool p ∧ (p = true → j < N ∧ Wc T B s' (Rnd3 blk idl i a k (.int .i64 j) (.int .i64 ((j + 1 : Nat) : Int)) (I (j + 1)) Q)) ∧ (p = false → Q .normal s'))) :
    Wc T (.block idl (.loop (.seq (.seq (.ops C) (.cond (.t c) .skip (.exit idl))) (.seq (.block blk B) (.ops [⟨some a, .op (.mov (.t i)), none⟩, ⟨some k, .op (.bin .add (.t a) (.c (.int .i64 1))), none⟩, ⟨some i, .op (.mov (.t k)), none⟩]))))) s0 Q := by
  simp only [sideF, Bool.and_eq_true, Bool.not_eq_true', bne_iff_ne, ne_eq] at hs
  obtain ⟨⟨⟨s1, s2⟩, s3⟩, s4⟩ := hs
  refine Wc_block (Wc_loop (fun s => ∃ j : Nat, j ≤ N ∧ s.e i = .int .i64 j ∧ FrE (a :: k :: i :: (dsts C ++ mods B)) s0.e s.e ∧ I j s.e s.h s.d) (fun s => match s.e i with | .int _ q => (N - q).toNat | _ => 0) ⟨0, Nat.zero_le _, hi, .refl _ _, h0⟩ ?_)
  rintro ⟨e, h, d⟩ ⟨j, hj, hei, hfr, hI⟩
  simp only at hei hfr hI
  have frC : ∀ (s' : St), FrE (dsts C) e s'.e → FrE (dsts C ++ mods B) e s'.e := fun s' hf => hf.sub fun t ht => List.mem_append_left _ ht
  refine Wc_seq (Wc_seq (Wc_fr (Wc_ops ((hr j e h d hj hI hfr hei).mono ?_))))
  rintro r s1' ⟨rfl, p, hp, ht, hf⟩ hfC
  simp only [mods] at hfC
  refine Wc_cond p hp (fun hpt => Wc_skip ?_) (fun hpf => Wc_exit ?_)
  case refine_2 =>
    simp only [Tb, Tn, if_true]
    exact hf hpf
  obtain ⟨hjN, hB⟩ := ht hpt
  refine Wc_seq (Wc_block (Wc_fr (hB.mono fun x s' hx hfB => ?_)))
  have fr1 : FrE (dsts C ++ mods B) e s'.e := FrE.trans (frC s1' hfC) (hfB.sub fun t ht => List.mem_append_right _ ht)
  have gi : s'.e i = .int .i64 j := by rw [fr1 i s1]; exact hei
  have e1 : IntKind.i64.wrap ((j : Int) + 1) = ((j + 1 : Nat) : Int) := by rw [wrap64] <;> omega
  have go : I (j + 1) (upd (upd (upd s'.e a (.int .i64 j)) k (.int .i64 ((j + 1 : Nat) : Int))) i (.int .i64 ((j + 1 : Nat) : Int))) s'.h s'.d → Wc T (.ops [⟨some a, .op (.mov (.t i)), none⟩, ⟨some k, .op (.bin .add (.t a) (.c (.int .i64 1))), none⟩, ⟨some i, .op (.mov (.t k)), none⟩]) s' (fun x s'' => match x with
      | .normal => (∃ j : Nat, j ≤ N ∧ s''.e i = .int .i64 j ∧ FrE (a :: k :: i :: (dsts C ++ mods B)) s0.e s''.e ∧ I j s''.e s''.h s''.d) ∧ (match s''.e i with | .int _ q => (N - q).toNat | _ => 0) < (match e i with | .int _ q => (N - q).toNat | _ => 0)
      | x => Tb idl Q x s'') := by
    intro hI'
    obtain ⟨e', h', d'⟩ := s'
    simp only at gi hI' fr1
    refine Wc_ops (Wo_op (v := .int .i64 j) (h' := h') (by simp only [iop, ev, gi]) (Wo_op (v := .int .i64 ((j + 1 : Nat) : Int)) (h' := h') (by simp only [iop, ev, dstUpd, upd, if_true, binV, binI, e1, Option.map_some]) (Wo_op (v := .int .i64 ((j + 1 : Nat) : Int)) (h' := h') (by simp only [iop, ev, dstUpd, upd, if_true]) (Wo_nil ?_))))
    refine ⟨⟨j + 1, hjN, by simp only [dstUpd, upd, if_true], ?_, hI'⟩, ?_⟩
    · have f1 : FrE (a :: k :: i :: (dsts C ++ mods B)) e e' := fr1.sub fun t ht => List.mem_cons_of_mem _ (List.mem_cons_of_mem _ (List.mem_cons_of_mem _ ht))
      exact (((hfr.trans f1).dst (dst := some a) (fun d hd => by cases hd; exact List.mem_cons_self ..) _).dst (dst := some k) (fun d hd => by cases hd; exact List.mem_cons_of_mem _ (List.mem_cons_self ..)) _).dst (dst := some i) (fun d hd => by cases hd; exact List.mem_cons_of_mem _ (List.mem_cons_of_mem _ (List.mem_cons_self ..))) _
    · simp only [dstUpd, upd, if_true, hei]
      exact (Int.toNat_lt_toNat (by omega)).2 (by omega)
  cases x with
  | normal => exact go hx
  | brk b =>
    simp only [Rnd3] at hx
    simp only [Tb]
    by_cases hbb : b = blk
    · rw [if_pos hbb] at hx ⊢
      exact go hx
    · rw [if_neg hbb] at hx ⊢
      simp only [Tn, Tb]
      exact hx
  | ret => exact hx
  | pan v => exact hx

/-- A range over a function. -/
theorem Wc_rangeF {f : Opd} {ps : List Nat} {asg body : IC} {e : Env} {h : Heap} {ds : List Dfr} {Q : Ex → St → Prop} {g : FuncId} {vs : List Value} (ht : target (ev e f) [.func (.yield (h.next + 1)) #[] #[]] = some (.fn g, vs))
    (hk : Wk T (.fn g) vs ((h.new .dfr).new (.loop ⟨.ready, none, e, ps, asg, body⟩)) (fun o h' => match o with
      | .ret _ => ∃ L, h'.get (h.next + 1) = some (.loop L) ∧ L.st ≠ .busy ∧ match L.pend with
        | none => Q .normal ⟨e, h'.set (h.next + 1) (.loop { L with st := .gone }), some (.mark h.next :: ds)⟩
        | some j => Q (jmpEx j) ⟨e, h'.set (h.next + 1) (.loop { L with st := .gone }), some (.mark h.next :: ds)⟩
      | .pan v => Q (.pan v) ⟨e, h', some (.mark h.next :: ds)⟩)) : Wc T (.rangeF f ps asg body) ⟨e, h, some ds⟩ Q := by
  obtain ⟨n, o, h', h1, h2⟩ := hk
  cases o with
  | pan v => exact ⟨n, .pan v, _, by simp only [icode, ht, h1], h2⟩
  | ret v =>
    obtain ⟨L, hL, hb, hp⟩ := h2
    cases hq : L.pend with
    | none =>
      rw [hq] at hp
      exact ⟨n, .normal, _, by simp only [icode, ht, h1, hL, if_neg hb, hq], hp⟩
    | some j =>
      rw [hq] at hp
      exact ⟨n, jmpEx j, _, by simp only [icode, ht, h1, hL, if_neg hb, hq], hp⟩

/-- A round. -/
theorem Wk_yld {l : Nat} {args : List Value} {h : Heap} {L : LoopB} {K : Out → Heap → Prop} (hl : h.get l = some (.loop L)) (hlen : args.length = L.ps.length)
    (ha : Wc T L.asg ⟨setPs L.e L.ps args, h, none⟩ (fun x s => x = .normal ∧ ∃ L1, s.h.get l = some (.loop L1) ∧ L1.st = .ready ∧ Wc T L.body ⟨s.e, s.h.set l (.loop { L1 with st := .busy }), s.d⟩ (fun x s2 => ∃ L2, s2.h.get l = some (.loop L2) ∧ match x with
      | .normal => K (.ret (.bool true)) (s2.h.set l (.loop { L2 with st := .ready, pend := none }))
      | .ret => K (.ret (.bool false)) (s2.h.set l (.loop { L2 with st := .done, pend := some .ret }))
      | .brk id => K (.ret (.bool false)) (s2.h.set l (.loop { L2 with st := .done, pend := some (.brk id) }))
      | .pan _ => False))) : Wk T (.yld l) args h K := by
  obtain ⟨n, x, s, h1, rfl, L1, h2, h3, m, y, s2, h4, L2, h5, h6⟩ := ha
  have h1' := icode_le (Nat.le_max_left n m) h1
  have h4' := icode_le (Nat.le_max_right n m) h4
  cases y with
  | pan v => exact h6.elim
  | normal => exact ⟨max n m + 1, _, _, by simp only [icall, hl, hlen, if_true, h1', h2, h3, h4', h5], h6⟩
  | ret => exact ⟨max n m + 1, _, _, by simp only [icall, hl, hlen, if_true, h1', h2, h3, h4', h5], h6⟩
  | brk id => exact ⟨max n m + 1, _, _, by simp only [icall, hl, hlen, if_true, h1', h2, h3, h4', h5], h6⟩

/-- Leaving a function behind one range over a function. -/
theorem Lv_mark {fn : IFn} {s : St} {b : Nat} {K : Out → Heap → Prop} {vs : List Value} (hd : s.d = some [.mark b]) (hb : s.h.get b = some .dfr) (hv : resAll s.e (s.h.set b .dead) fn.res = some vs) (hK : K (.ret (tup vs)) (s.h.set b .dead)) : Lv T fn none s K :=
  ⟨0, .ret (tup vs), s.h.set b .dead, by simp only [ileave, hd, idefer, hb, hv, Option.map_some], hK⟩
theorem Lv_nil {fn : IFn} {s : St} {K : Out → Heap → Prop} {vs : List Value} (hd : s.d = some []) (hv : resAll s.e s.h fn.res = some vs) (hK : K (.ret (tup vs)) s.h) : Lv T fn none s K :=
  ⟨0, .ret (tup vs), s.h, by simp only [ileave, hd, idefer, hv, Option.map_some], hK⟩

end Go.Idl
end

section
/- Rules by which new memory is known by what stands there; texts in a row. -/
namespace Go.Idl
set_option linter.unusedVariables false
set_option linter.unusedSimpArgs false

variable {T : Tbl}

section
variable {dst : Option Nat} {l : List Step} {e : Env} {h : Heap} {d : Option (List Dfr)} {Q : Option Value → St → Prop}

/-- What came of laying one new block. -/
structure New1 (h h' : Heap) (o : Blk) : Prop where
  kept : Kept h h'
  next : h'.next = h.next + 1
  get : h'.get h.next = some o
theorem New1.of_new (h : Heap) (o : Blk) : New1 h (h.new o) o := ⟨(Kept.refl h).new o, rfl, new_get' _ _⟩
theorem New1.of_set (h : Heap) (o o' : Blk) : New1 h ((h.new o).set h.next o') o' := ⟨((Kept.refl h).new o).set (Nat.le_refl _) _, rfl, set_get' _ _ _⟩

theorem Wo_new {o : IOp} {v : Value} {B : Blk} (hi : iop o e h = some (v, h.new B)) (k : ∀ h', New1 h h' B → Wo T l ⟨dstUpd e dst v, h', d⟩ Q) : Wo T (⟨dst, .op o, none⟩ :: l) ⟨e, h, d⟩ Q :=
  Wo_op hi (k _ (.of_new _ _))
theorem Wo_box {x : Opd} {cs : List Value} (hc : cellsOf (ev e x) = some cs) (k : ∀ h', New1 h h' (.cells cs true 0) → Wo T l ⟨dstUpd e dst (ptr h.next 0), h', d⟩ Q) : Wo T (⟨dst, .op (.box x), none⟩ :: l) ⟨e, h, d⟩ Q :=
  Wo_new (by simp only [iop, hc, Option.map_some]) k
theorem Wo_alloc {z : List Value} (k : ∀ h', New1 h h' (.cells z true 0) → Wo T l ⟨dstUpd e dst (ptr h.next 0), h', d⟩ Q) : Wo T (⟨dst, .op (.alloc z), none⟩ :: l) ⟨e, h, d⟩ Q :=
  Wo_new rfl k
/-- A row is laid into memory that has just been made. -/
theorem Wo_store_new {n p q : Nat} {cs z : List Value} (h1 : e p = ptr h.next 0) (h2 : e q = .agg cs.toArray) (h3 : cs.length = n) (h5 : z.length = n) (k : ∀ h', New1 h h' (.cells cs true 0) → Wo T l ⟨e, h', d⟩ Q) :
    Wo T (⟨none, .op (.store n (.t p) (.t q)), none⟩ :: l) ⟨e, h.new (.cells z true 0), d⟩ Q :=
  Wo_op (iop_store (b := h.next) (esz := 0) (cs := cs) (z := z) h1 h2 h3 (new_get' _ _) h5) (k _ (.of_set _ _ _))
end

/-- A call that leaves the heap as it was. -/
theorem Wk_pure {c : Cal} {args : List Value} {h : Heap} {v : Value} {K : Out → Heap → Prop} (hk : Wk T c args h (fun o h' => h' = h ∧ o = .ret v)) (k : K (.ret v) h) : Wk T c args h K := hk.mono fun o h' ⟨e1, e2⟩ => by rw [e1, e2]; exact k
/-- A call that leaves what was there. -/
theorem Wk_kept {c : Cal} {args : List Value} {h : Heap} {v : Value} {K : Out → Heap → Prop} (hk : Wk T c args h (fun o h' => Kept h h' ∧ o = .ret v)) (k : ∀ h', Kept h h' → K (.ret v) h') : Wk T c args h K := hk.mono fun o h' ⟨e1, e2⟩ => by rw [e2]; exact k h' e1

/-- Texts, in a row. -/
def strC (s : ByteArray) : List Value := [.string s]
abbrev strsAt (h : Heap) (v : Value) (l : List ByteArray) : Prop := rowsAt strC (fun _ _ => True) h v l
theorem strC_len (s : ByteArray) : (strC s).length = 1 := rfl
theorem strsAt.keep {h h' : Heap} (hk : Kept h h') {v : Value} {l : List ByteArray} (hv : strsAt h v l) : strsAt h' v l := rowsAt.keep (fun _ _ => trivial) hk hv
theorem strsAt.load {h : Heap} {v : Value} {l : List ByteArray} (hv : strsAt h v l) {j : Nat} {x : ByteArray} (hx : l[j]? = some x) : ∃ b c o z, v = .slice (some ⟨b, 0, none⟩) l.length c ∧ b < h.next ∧ h.get b = some (.cells (l.flatMap strC) o z) ∧ (l.flatMap strC)[j * 1]? = some (.string x) := by
  obtain ⟨b, c, hvb, hb, ⟨o, z, hg⟩, hc, _⟩ := rowsAt.load strC_len hv hx
  refine ⟨b, c, o, z, hvb, hb, hg, ?_⟩
  simp only [Heap.cells, hg] at hc
  split at hc
  · simp only [Option.some.injEq] at hc
    have h2 := congrArg (fun q => q[0]?) hc
    simp only [strC, List.getElem?_cons_zero, List.getElem?_take, List.getElem?_drop] at h2
    simpa using h2
  · cases hc

end Go.Idl
end

section
/- Ranges over a text of plain bytes. -/
namespace Go.Idl
set_option linter.unusedVariables false
set_option linter.unusedSimpArgs false

variable {T : Tbl}

theorem decode1 {s : ByteArray} {k : Nat} {c : UInt8} (h : s.data.toList[k]? = some c) (hc : c.toNat < 128) : Utf8.decode s k = (c.toNat, 1) := by
  obtain ⟨⟨l⟩⟩ := s
  have h : l[k]? = some c := h
  have hlt : k < l.length := (List.getElem?_eq_some_iff.1 h).1
  have hs : k < (⟨l.toArray⟩ : ByteArray).size := by simpa [ByteArray.size] using hlt
  have he : (⟨l.toArray⟩ : ByteArray)[k]'hs = c := by
    have : l[k] = c := (List.getElem?_eq_some_iff.1 h).2
    simpa [ByteArray.getElem_eq_getElem_data] using this
  rw [decode_ascii _ _ hs (by rw [he]; exact hc), he]

/-- What holds behind a round of a range over a text. -/
def RndS (blk idl bi : Nat) (s : ByteArray) (j : Nat) (I : Env → Heap → Option (List Dfr) → Prop) (Q : Ex → St → Prop) : Ex → St → Prop
  | .normal, t => t.h.get bi = some (.siter s j) ∧ I t.e t.h t.d
  | .brk b, t => if b = blk then t.h.get bi = some (.siter s j) ∧ I t.e t.h t.d else if b = idl then Q .normal t else Q (.brk b) t
  | x, t => Q x t
def sideS (q c it : Nat) (ms : List Nat) : Bool := !ms.contains it && q != it && c != it && q != c

theorem Wc_rangeStr {idl blk q c it bi : Nat} {B : IC} {s : ByteArray} {s0 : St} {Q : Ex → St → Prop} (I : Nat → Env → Heap → Option (List Dfr) → Prop) (hasc : ∀ b ∈ s.data.toList, b.toNat < 128) (hs : sideS q c it (mods B) = true) (hb : blk ≠ idl) (hit : s0.e it = ptr bi 0) (hst : s0.h.get bi = some (.siter s 0))
    (h0 : I 0 s0.e s0.h s0.d)
    (hr : ∀ (j : Nat) (b : UInt8) e h d, s.data.toList[j]? = some b → I j e h d → FrE (q :: c :: mods B) s0.e e → h.get bi = some (.siter s j) → Wc T B ⟨upd (upd e q (.tuple #[.bool true, .int .i64 j, .int .i32 b.toNat])) c (.bool true), h.set bi (.siter s (j + 1)), d⟩ (RndS blk idl bi s (j + 1) (I (j + 1)) Q))
    (he : ∀ e h d, I s.size e h d → FrE (q :: c :: mods B) s0.e e → Q .normal ⟨upd (upd e q (.tuple #[.bool false])) c (.bool false), h, d⟩) :
    Wc T (.block idl (.loop (.seq (.ops [⟨some q, .op (.next (.t it)), none⟩, ⟨some c, .op (.extract (.t q) 0), none⟩]) (.seq (.cond (.t c) .skip (.exit idl)) (.block blk B))))) s0 Q := by
  simp only [sideS, Bool.and_eq_true, Bool.not_eq_true', bne_iff_ne, ne_eq] at hs
  obtain ⟨⟨⟨s1, s2⟩, s3⟩, s4⟩ := hs
  have hsz : s.size = s.data.toList.length := (Array.length_toList).symm
  refine Wc_block (Wc_loop (fun t => ∃ j : Nat, j ≤ s.size ∧ t.h.get bi = some (.siter s j) ∧ FrE (q :: c :: mods B) s0.e t.e ∧ I j t.e t.h t.d) (fun t => match t.h.get bi with | some (.siter _ p) => s.size - p | _ => 0) ⟨0, Nat.zero_le _, hst, .refl _ _, h0⟩ ?_)
  rintro ⟨e, h, d⟩ ⟨j, hj, hg, hfr, hI⟩
  simp only at hg hfr hI
  have eit : e it = ptr bi 0 := by
    rw [hfr it (by
      have : (q :: c :: mods B).contains it = (it == q || (it == c || (mods B).contains it)) := by simp only [List.contains_cons]
      rw [this, s1, Bool.or_false, beq_eq_false_iff_ne.2 (Ne.symm s2), beq_eq_false_iff_ne.2 (Ne.symm s3)]; rfl)]
    exact hit
  by_cases hlt : j < s.size
  case neg =>
    have hjs : j = s.size := by omega
    subst hjs
    refine Wc_seq (Wc_ops (Wo_op (v := .tuple #[.bool false]) (h' := h) (by simp only [iop, ev, eit, ptr, hg, Nat.lt_irrefl, if_false]) (Wo_op (v := .bool false) (h' := h) (by simp only [iop, ev, dstUpd, upd, if_true]; rfl) (Wo_nil ?_))))
    show Wc T _ _ _
    refine Wc_seq (Wc_cond false (by simp only [ev, dstUpd, upd, if_true]) (fun e => by cases e) (fun _ => Wc_exit ?_))
    simp only [Tb, Tn, if_true]
    exact he e h d hI hfr
  obtain ⟨b, hb'⟩ : ∃ b, s.data.toList[j]? = some b := ⟨_, List.getElem?_eq_getElem (by rw [← hsz]; exact hlt)⟩
  have hdec := decode1 hb' (hasc b (List.mem_of_getElem? hb'))
  refine Wc_seq (Wc_ops (Wo_op (v := .tuple #[.bool true, .int .i64 j, .int .i32 b.toNat]) (h' := h.set bi (.siter s (j + 1))) (by simp only [iop, ev, eit, ptr, hg, hlt, if_true, hdec]) (Wo_op (v := .bool true) (h' := h.set bi (.siter s (j + 1))) (by simp only [iop, ev, dstUpd, upd, if_true]; rfl) (Wo_nil ?_))))
  show Wc T _ _ _
  refine Wc_seq (Wc_cond true (by simp only [ev, dstUpd, upd, if_true]) (fun _ => Wc_skip ?_) (fun e => by cases e))
  show Wc T _ _ _
  refine Wc_block (Wc_fr ((hr j b e h d hb' hI hfr hg).mono fun x t hx hf => ?_))
  have f1 : FrE (q :: c :: mods B) s0.e t.e := (((hfr.dst (dst := some q) (fun d hd => by cases hd; exact List.mem_cons_self ..) _).dst (dst := some c) (fun d hd => by cases hd; exact List.mem_cons_of_mem _ (List.mem_cons_self ..)) _)).trans (hf.sub fun t ht => List.mem_cons_of_mem _ (List.mem_cons_of_mem _ ht))
  have go : t.h.get bi = some (.siter s (j + 1)) ∧ I (j + 1) t.e t.h t.d → (∃ j : Nat, j ≤ s.size ∧ t.h.get bi = some (.siter s j) ∧ FrE (q :: c :: mods B) s0.e t.e ∧ I j t.e t.h t.d) ∧ (match t.h.get bi with | some (.siter _ p) => s.size - p | _ => 0) < (match h.get bi with | some (.siter _ p) => s.size - p | _ => 0) := fun hh =>
    ⟨⟨j + 1, hlt, hh.1, f1, hh.2⟩, by rw [hh.1, hg]; simp only; omega⟩
  cases x with
  | normal => exact go hx
  | brk i =>
    simp only [RndS] at hx
    simp only [Tb]
    by_cases hbb : i = blk
    · rw [if_pos hbb] at hx ⊢
      exact go hx
    · rw [if_neg hbb] at hx ⊢
      exact hx
  | ret => exact hx
  | pan v => exact hx

end Go.Idl
end

section
/- Nodes of a tree in the ideal heap. -/
namespace Go.Idl
set_option linter.unusedVariables false
set_option linter.unusedSimpArgs false

structure Nd where
  kind : Int
  text : ByteArray
  kids : List Int
  kv : Value
  pos : Int

def flatN : List Nd → List Value
  | [] => []
  | x :: l => .int .i64 x.kind :: .string x.text :: x.kv :: .int .i64 x.pos :: flatN l

def nodesAt (h : Heap) (v : Value) (l : List Nd) : Prop :=
  ((v = .slice none 0 0 ∧ l = []) ∨ ∃ b c, v = .slice (some ⟨b, 0, none⟩) l.length c ∧ b < h.next ∧ (l = [] ∨ ∃ o z, h.get b = some (.cells (flatN l) o z))) ∧ ∀ x ∈ l, intsAt h x.kv x.kids

theorem nodesAt.keep {h h' : Heap} (hk : Kept h h') {v : Value} {l : List Nd} (hh : nodesAt h v l) : nodesAt h' v l := by
  refine ⟨?_, fun x hx => (hh.2 x hx).keep hk⟩
  rcases hh.1 with hh | ⟨b, c, h1, h2, h3⟩
  · exact .inl hh
  · exact .inr ⟨b, c, h1, Nat.lt_of_lt_of_le h2 hk.next, h3.imp id fun ⟨o, z, h⟩ => ⟨o, z, by rw [hk.get b h2]; exact h⟩⟩

theorem flatN_length : ∀ l : List Nd, (flatN l).length = l.length * 4
  | [] => rfl
  | x :: l => by simp [flatN, flatN_length l]; omega

theorem flatN_drop : ∀ (l : List Nd) (i : Nat) (x : Nd), l[i]? = some x → ((flatN l).drop (i * 4)).take 4 = [.int .i64 x.kind, .string x.text, x.kv, .int .i64 x.pos]
  | [], i, x, h => by simp at h
  | y :: l, 0, x, h => by simp at h; subst h; simp [flatN]
  | y :: l, i + 1, x, h => by
    have := flatN_drop l i x (by simpa using h)
    rw [show (i + 1) * 4 = i * 4 + 4 by omega]
    simpa [flatN] using this

/-- A node that is read. -/
theorem nodesAt.load {h : Heap} {v : Value} {l : List Nd} (hh : nodesAt h v l) {i : Nat} {x : Nd} (hi : l[i]? = some x) : ∃ b c, v = .slice (some ⟨b, 0, none⟩) l.length c ∧ b < h.next ∧ (∃ o z, h.get b = some (.cells (flatN l) o z)) ∧ h.cells b (0 + i * 4) 4 = some [.int .i64 x.kind, .string x.text, x.kv, .int .i64 x.pos] := by
  have hlt : i < l.length := (List.getElem?_eq_some_iff.1 hi).1
  rcases hh.1 with ⟨_, rfl⟩ | ⟨b, c, h1, h2, h3⟩
  · simp at hlt
  · rcases h3 with rfl | h3
    · simp at hlt
    · refine ⟨b, c, h1, h2, h3, ?_⟩
      obtain ⟨o, z, h3⟩ := h3
      simp only [Heap.cells, h3, flatN_length, Nat.zero_add]
      rw [if_pos (by omega), flatN_drop l i x hi]

def weight (l : List Nd) : Nat := (l.map fun x => x.kids.length + x.text.size / 20).sum

/-- Of what kind the type of nodes is. -/
def nodeTD : TD := .sl (.st (.cons (.int .i64) (.cons .str (.cons (.sl (.int .i64)) (.cons (.int .i64) .nil)))))

theorem nodes_of_lays {H : Type} {h : Heap} {d : DataW H} {vs : List Value} (hl : Lays h nodeTD d vs) : ∃ l v, vs = [v] ∧ nodesAt h v l ∧ l.length ≤ maxLen ∧ (∀ x ∈ l, (∀ n ∈ x.kids, -9223372036854775808 ≤ n ∧ n ≤ 9223372036854775807) ∧ x.kids.length ≤ maxLen ∧ x.text.size ≤ maxLen ∧
    (-9223372036854775808 ≤ x.kind ∧ x.kind ≤ 9223372036854775807) ∧ (-9223372036854775808 ≤ x.pos ∧ x.pos ≤ 9223372036854775807)) ∧ ∀ f : DataW H → Nat, Meas f → l.length + weight l ≤ f d := by
  unfold nodeTD at hl
  simp only [Lays] at hl
  rcases hl with ⟨_, rfl⟩ | ⟨ds, spare, b, rfl, hb, hm, rfl, hcs⟩
  · exact ⟨[], _, rfl, ⟨.inl ⟨rfl, rfl⟩, by simp⟩, Nat.zero_le _, fun x hx => (by cases hx), fun f hf => Nat.zero_le _⟩
  · rcases hcs with ⟨rfl, _⟩ | ⟨cs, hg, he⟩
    · exact ⟨[], _, rfl, ⟨.inr ⟨b, _, rfl, hb, .inl rfl⟩, by simp⟩, Nat.zero_le _, fun x hx => (by cases hx), fun f hf => Nat.zero_le _⟩
    · have key : ∀ (ds : List (DataW H)) (cs : List Value), LaysEach (Lays h (.st (.cons (.int .i64) (.cons .str (.cons (.sl (.int .i64)) (.cons (.int .i64) .nil)))))) ds cs → ∃ l : List Nd, cs = flatN l ∧ l.length = ds.length ∧ (∀ x ∈ l, intsAt h x.kv x.kids) ∧
          (∀ x ∈ l, (∀ n ∈ x.kids, -9223372036854775808 ≤ n ∧ n ≤ 9223372036854775807) ∧ x.kids.length ≤ maxLen ∧ x.text.size ≤ maxLen ∧ (-9223372036854775808 ≤ x.kind ∧ x.kind ≤ 9223372036854775807) ∧ (-9223372036854775808 ≤ x.pos ∧ x.pos ≤ 9223372036854775807)) ∧ ∀ f : DataW H → Nat, Meas f → l.length + weight l ≤ (ds.map f).sum := by
        intro ds
        induction ds with
        | nil => intro cs hc; exact ⟨[], hc, rfl, fun x hx => (by cases hx), fun x hx => (by cases hx), fun f hf => Nat.zero_le _⟩
        | cons d ds ih =>
          intro cs hc
          obtain ⟨a, b, rfl, h1, h2⟩ := hc
          obtain ⟨l, rfl, h3, h4, h5, h6⟩ := ih b h2
          simp only [Lays] at h1
          obtain ⟨ds1, rfl, h1⟩ := h1
          simp only [LaysL] at h1
          obtain ⟨d1, r1, a1, b1, rfl, rfl, hk, d2, r2, a2, b2, rfl, rfl, ht, d3, r3, a3, b3, rfl, rfl, hs, d4, r4, a4, b4, rfl, rfl, hp, rfl, rfl⟩ := h1
          simp only [Lays] at hk ht hp
          obtain ⟨k, rfl, hkw, rfl⟩ := hk
          obtain ⟨t, htw, rfl, rfl⟩ := ht
          obtain ⟨p, rfl, hpw, rfl⟩ := hp
          obtain ⟨ki, kv, rfl, hki, hkr, hkl, hkm⟩ := ints_of_lays hs
          refine ⟨⟨k, t, ki, kv, p⟩ :: l, by simp [flatN], by simp [h3], fun x hx => ?_, fun x hx => ?_, fun f hf => ?_⟩
          · rcases List.mem_cons.1 hx with rfl | hx
            · exact hki
            · exact h4 x hx
          · rcases List.mem_cons.1 hx with rfl | hx
            · exact ⟨hkr, hkl, htw, by simpa [Lit.wf, IntKind.min, IntKind.max, IntKind.signed, IntKind.bits] using hkw, by simpa [Lit.wf, IntKind.min, IntKind.max, IntKind.signed, IntKind.bits] using hpw⟩
            · exact h5 x hx
          · have a1 := h6 f hf
            have a2 := hkm f hf
            have a3 := hf.str t.data.toList
            have a4 := hf.agg [.lit (.int .i64 k), .lit (.string t.data.toList), d3, .lit (.int .i64 p)]
            have a5 : t.data.toList.length = t.size := by rw [Array.length_toList]; rfl
            simp only [List.map_cons, List.map_nil, List.sum_cons, List.sum_nil] at a4
            simp only [List.length_cons, List.map_cons, List.sum_cons, weight] at a1 ⊢
            omega
      obtain ⟨l, rfl, h1, h2, h3, h4⟩ := key ds cs he
      exact ⟨l, _, rfl, ⟨.inr ⟨b, _, by rw [h1], hb, .inr ⟨_, _, hg⟩⟩, h2⟩, by omega, h3, fun f hf => Nat.le_trans (h4 f hf) (hf.sl _ _)⟩

end Go.Idl
end

section
/- Functions as ideal code. (Printed by wip/tools/Print.lean) -/
namespace Go.Idl
-- swath/swathlaw05.TreeDeep
def C4 : IFn := ⟨15, (.seq (.ops [⟨(some 2), .op (.mov (.c (.bool false))), none⟩])
  (.seq (.seq (.ops [⟨(some 3), .call 9 [], none⟩,
    ⟨(some 4), .op (.un .not (.t 3)), none⟩])
  (.cond (.t 4)
    (.seq (.ops [⟨(some 2), .op (.mov (.c (.bool false))), none⟩])
    .ret)
    .skip))
  (.seq (.ops [⟨(some 5), .op (.mov (.t 0)), none⟩,
    ⟨(some 6), .call 10 [(.t 5)], none⟩,
    ⟨(some 7), .op (.un .not (.t 6)), none⟩,
    ⟨(some 8), .op (.mov (.t 7)), none⟩,
    ⟨(some 9), .op (.mov (.t 0)), (some (8, false))⟩,
    ⟨(some 10), .call 13 [(.t 9)], (some (8, false))⟩,
    ⟨(some 11), .op (.mov (.t 0)), (some (8, false))⟩,
    ⟨(some 12), .call 14 [(.t 11)], (some (8, false))⟩,
    ⟨(some 13), .op (.bin .eql (.t 10) (.t 12)), (some (8, false))⟩,
    ⟨(some 14), .op (.pick (.t 8) (.c (.bool true)) (.t 13)), none⟩,
    ⟨(some 2), .op (.mov (.t 14)), none⟩])
  .ret))), [.tmp 2]⟩

-- swath/swathlaw05.few
def C10L0 : IC :=
  (.seq (.ops [⟨(some 11), .op (.bin .lss (.t 10) (.t 9)), none⟩])
  (.seq (.cond (.t 11)
    .skip
    (.exit 0))
  (.seq (.block 1
    (.seq (.ops [⟨(some 12), .op (.iaddr (.sl 4) (.t 8) (.t 10)), none⟩,
      ⟨(some 13), .op (.load (some 4) (.t 12)), none⟩,
      ⟨(some 5), .op (.alloc [(.int .i64 0), (.string ⟨#[]⟩), (.slice none 0 0), (.int .i64 0)]), none⟩,
      ⟨none, .op (.store 4 (.t 5) (.t 13)), none⟩])
    (.ops [⟨(some 14), .op (.mov (.t 3)), none⟩,
      ⟨(some 15), .op (.faddr 2 (.t 5)), none⟩,
      ⟨(some 16), .op (.load none (.t 15)), none⟩,
      ⟨(some 17), .op (.len .sl (.t 16)), none⟩,
      ⟨(some 18), .op (.faddr 1 (.t 5)), none⟩,
      ⟨(some 19), .op (.load none (.t 18)), none⟩,
      ⟨(some 20), .op (.len .str (.t 19)), none⟩,
      ⟨(some 21), .op (.bin .quo (.t 20) (.c (.int .i64 20))), none⟩,
      ⟨(some 22), .op (.bin .add (.t 17) (.t 21)), none⟩,
      ⟨(some 23), .op (.bin .add (.t 14) (.t 22)), none⟩,
      ⟨(some 3), .op (.mov (.t 23)), none⟩])))
  (.ops [⟨(some 24), .op (.bin .add (.t 10) (.c (.int .i64 1))), none⟩,
    ⟨(some 10), .op (.mov (.t 24)), none⟩]))))

def C10 : IFn := ⟨27, (.seq (.ops [⟨(some 2), .op (.mov (.c (.bool false))), none⟩])
  (.seq (.ops [⟨(some 6), .op (.mov (.t 0)), none⟩,
    ⟨(some 7), .op (.len .sl (.t 6)), none⟩,
    ⟨(some 3), .op (.mov (.t 7)), none⟩])
  (.seq (.seq (.ops [⟨(some 8), .op (.mov (.t 0)), none⟩,
    ⟨(some 9), .op (.len .sl (.t 8)), none⟩,
    ⟨(some 10), .op (.mov (.c (.int .i64 0))), none⟩])
  (.block 0
    (.loop C10L0)))
  (.seq (.ops [⟨(some 25), .op (.mov (.t 3)), none⟩,
    ⟨(some 26), .op (.bin .leq (.t 25) (.c (.int .i64 3000))), none⟩,
    ⟨(some 2), .op (.mov (.t 26)), none⟩])
  .ret)))), [.tmp 2]⟩

-- swath/tree.Deep
def C13L0 : IC :=
  (.seq (.ops [⟨(some 23), .op (.bin .lss (.t 22) (.t 21)), none⟩])
  (.seq (.cond (.t 23)
    .skip
    (.exit 2))
  (.seq (.block 3
    (.seq (.ops [⟨(some 24), .op (.iaddr (.sl 1) (.t 20) (.t 22)), none⟩,
      ⟨(some 25), .op (.load none (.t 24)), none⟩,
      ⟨(some 7), .op (.mov (.t 25)), none⟩])
    (.seq (.draw [⟨(some 26), .op (.mov (.t 7)), none⟩,
      ⟨(some 27), .op (.bin .geq (.t 26) (.c (.int .i64 0))), none⟩,
      ⟨(some 28), .op (.mov (.t 27)), none⟩,
      ⟨(some 29), .op (.mov (.t 7)), (some (28, true))⟩,
      ⟨(some 30), .op (.mov (.t 4)), (some (28, true))⟩,
      ⟨(some 31), .op (.bin .lss (.t 29) (.t 30)), (some (28, true))⟩,
      ⟨(some 32), .op (.pick (.t 28) (.t 31) (.c (.bool false))), none⟩,
      ⟨(some 33), .op (.mov (.t 32)), none⟩,
      ⟨(some 34), .op (.mov (.t 3)), (some (33, true))⟩,
      ⟨(some 35), .op (.mov (.t 7)), (some (33, true))⟩,
      ⟨(some 36), .op (.iaddr (.sl 1) (.t 34) (.t 35)), (some (33, true))⟩,
      ⟨(some 37), .op (.load none (.t 36)), (some (33, true))⟩,
      ⟨(some 38), .op (.mov (.t 3)), (some (33, true))⟩,
      ⟨(some 39), .op (.mov (.t 4)), (some (33, true))⟩,
      ⟨(some 40), .op (.iaddr (.sl 1) (.t 38) (.t 39)), (some (33, true))⟩,
      ⟨(some 41), .op (.load none (.t 40)), (some (33, true))⟩,
      ⟨(some 42), .op (.bin .gtr (.t 37) (.t 41)), (some (33, true))⟩,
      ⟨(some 43), .op (.pick (.t 33) (.t 42) (.c (.bool false))), none⟩]
      [[], [0], [1, 0], [2, 1, 0], [2, 1, 0], [2, 1, 0, 4, 3], [5, 2, 1, 0, 4, 3], [2, 1, 0, 6, 5, 4, 3], [7, 2, 1, 0, 6, 5, 4, 3], [7, 2, 1, 0, 6, 5, 4, 3], [7, 2, 1, 0, 6, 5, 4, 3, 9, 8], [7, 2, 1, 0, 6, 5, 4, 3, 10, 9, 8], [7, 2, 1, 0, 6, 5, 4, 3], [7, 2, 1, 0, 6, 5, 4, 3], [7, 2, 1, 0, 6, 5, 4, 3, 13, 12], [7, 2, 1, 0, 6, 5, 4, 3, 14, 13, 12], [7, 2, 1, 0, 6, 5, 4, 3, 15, 14, 13, 12, 11, 10, 9, 8], [16, 7, 2, 1, 0, 6, 5, 4, 3, 15, 14, 13, 12, 11, 10, 9, 8]])
    (.cond (.t 43)
      (.ops [⟨(some 44), .op (.mov (.t 3)), none⟩,
        ⟨(some 45), .op (.mov (.t 4)), none⟩,
        ⟨(some 46), .op (.mov (.t 3)), none⟩,
        ⟨(some 47), .op (.mov (.t 7)), none⟩,
        ⟨(some 48), .op (.iaddr (.sl 1) (.t 46) (.t 47)), none⟩,
        ⟨(some 49), .op (.load none (.t 48)), none⟩,
        ⟨(some 50), .op (.iaddr (.sl 1) (.t 44) (.t 45)), none⟩,
        ⟨none, .op (.store 1 (.t 50) (.t 49)), none⟩])
      .skip))))
  (.ops [⟨(some 51), .op (.bin .add (.t 22) (.c (.int .i64 1))), none⟩,
    ⟨(some 22), .op (.mov (.t 51)), none⟩]))))

def C13L1 : IC :=
  (.seq (.ops [⟨(some 15), .op (.bin .lss (.t 14) (.t 13)), none⟩])
  (.seq (.cond (.t 15)
    .skip
    (.exit 0))
  (.seq (.block 1
    (.seq (.ops [⟨(some 16), .op (.mov (.t 14)), none⟩,
      ⟨(some 17), .op (.iaddr (.sl 4) (.t 12) (.t 14)), none⟩,
      ⟨(some 18), .op (.load (some 4) (.t 17)), none⟩,
      ⟨(some 5), .op (.alloc [(.int .i64 0), (.string ⟨#[]⟩), (.slice none 0 0), (.int .i64 0)]), none⟩,
      ⟨(some 4), .op (.mov (.t 16)), none⟩,
      ⟨none, .op (.store 4 (.t 5) (.t 18)), none⟩])
    (.seq (.seq (.ops [⟨(some 19), .op (.faddr 2 (.t 5)), none⟩,
      ⟨(some 20), .op (.load none (.t 19)), none⟩,
      ⟨(some 21), .op (.len .sl (.t 20)), none⟩,
      ⟨(some 22), .op (.mov (.c (.int .i64 0))), none⟩])
    (.block 2
      (.loop C13L0)))
    (.ops [⟨(some 52), .op (.mov (.t 3)), none⟩,
      ⟨(some 53), .op (.mov (.t 4)), none⟩,
      ⟨(some 54), .op (.iaddr (.sl 1) (.t 52) (.t 53)), none⟩,
      ⟨(some 55), .op (.load none (.t 54)), none⟩,
      ⟨(some 56), .op (.bin .add (.t 55) (.c (.int .i64 1))), none⟩,
      ⟨(some 57), .op (.iaddr (.sl 1) (.t 52) (.t 53)), none⟩,
      ⟨none, .op (.store 1 (.t 57) (.t 56)), none⟩]))))
  (.ops [⟨(some 58), .op (.bin .add (.t 14) (.c (.int .i64 1))), none⟩,
    ⟨(some 14), .op (.mov (.t 58)), none⟩]))))

def C13 : IFn := ⟨66, (.seq (.ops [⟨(some 2), .op (.mov (.c (.int .i64 0))), none⟩])
  (.seq (.ops [⟨(some 8), .op (.mov (.t 0)), none⟩,
    ⟨(some 9), .op (.len .sl (.t 8)), none⟩,
    ⟨(some 10), .op (.bin .add (.t 9) (.c (.int .i64 1))), none⟩,
    ⟨(some 11), .op (.mkslice 1 8 [(.int .i64 0)] (.t 10) (.t 10)), none⟩,
    ⟨(some 3), .op (.mov (.t 11)), none⟩])
  (.seq (.seq (.ops [⟨(some 12), .op (.mov (.t 0)), none⟩,
    ⟨(some 13), .op (.len .sl (.t 12)), none⟩,
    ⟨(some 14), .op (.mov (.c (.int .i64 0))), none⟩])
  (.block 0
    (.loop C13L1)))
  (.seq (.ops [⟨(some 59), .op (.mov (.t 3)), none⟩,
    ⟨(some 60), .op (.mov (.t 0)), none⟩,
    ⟨(some 61), .op (.len .sl (.t 60)), none⟩,
    ⟨(some 62), .op (.bin .sub (.t 61) (.c (.int .i64 1))), none⟩,
    ⟨(some 63), .op (.minmax true (.t 62) (.c (.int .i64 0))), none⟩,
    ⟨(some 64), .op (.iaddr (.sl 1) (.t 59) (.t 63)), none⟩,
    ⟨(some 65), .op (.load none (.t 64)), none⟩,
    ⟨(some 2), .op (.mov (.t 65)), none⟩])
  .ret)))), [.tmp 2]⟩

-- swath/swathref05.Deep
def C14L0 : IC :=
  (.seq (.ops [⟨(some 25), .op (.bin .lss (.t 24) (.t 23)), none⟩])
  (.seq (.cond (.t 25)
    .skip
    (.exit 2))
  (.seq (.block 3
    (.seq (.ops [⟨(some 26), .op (.iaddr (.sl 1) (.t 22) (.t 24)), none⟩,
      ⟨(some 27), .op (.load none (.t 26)), none⟩,
      ⟨(some 7), .op (.mov (.t 27)), none⟩])
    (.seq (.ops [⟨(some 28), .op (.mov (.t 7)), none⟩,
      ⟨(some 29), .op (.bin .geq (.t 28) (.c (.int .i64 0))), none⟩,
      ⟨(some 30), .op (.mov (.t 29)), none⟩,
      ⟨(some 31), .op (.mov (.t 7)), (some (30, true))⟩,
      ⟨(some 32), .op (.mov (.t 4)), (some (30, true))⟩,
      ⟨(some 33), .op (.bin .lss (.t 31) (.t 32)), (some (30, true))⟩,
      ⟨(some 34), .op (.pick (.t 30) (.t 33) (.c (.bool false))), none⟩])
    (.cond (.t 34)
      (.draw [⟨(some 35), .op (.mov (.t 3)), none⟩,
        ⟨(some 36), .op (.mov (.t 4)), none⟩,
        ⟨(some 37), .op (.mov (.t 3)), none⟩,
        ⟨(some 38), .op (.mov (.t 4)), none⟩,
        ⟨(some 39), .op (.iaddr (.sl 1) (.t 37) (.t 38)), none⟩,
        ⟨(some 40), .op (.load none (.t 39)), none⟩,
        ⟨(some 41), .op (.mov (.t 3)), none⟩,
        ⟨(some 42), .op (.mov (.t 7)), none⟩,
        ⟨(some 43), .op (.iaddr (.sl 1) (.t 41) (.t 42)), none⟩,
        ⟨(some 44), .op (.load none (.t 43)), none⟩,
        ⟨(some 45), .op (.bin .add (.t 44) (.c (.int .i64 1))), none⟩,
        ⟨(some 46), .op (.minmax true (.t 40) (.t 45)), none⟩,
        ⟨(some 47), .op (.iaddr (.sl 1) (.t 35) (.t 36)), none⟩,
        ⟨none, .op (.store 1 (.t 47) (.t 46)), none⟩]
        [[], [], [], [], [3, 2], [4, 3, 2], [], [], [7, 6], [8, 7, 6], [9, 8, 7, 6], [10, 9, 8, 7, 6, 5, 4, 3, 2], [11, 10, 9, 8, 7, 6, 5, 4, 3, 2, 1, 0], [11, 10, 9, 8, 7, 6, 5, 4, 3, 2, 1, 0, 12]])
      .skip))))
  (.ops [⟨(some 48), .op (.bin .add (.t 24) (.c (.int .i64 1))), none⟩,
    ⟨(some 24), .op (.mov (.t 48)), none⟩]))))

def C14L1 : IC :=
  (.seq (.ops [⟨(some 14), .op (.bin .lss (.t 13) (.t 12)), none⟩])
  (.seq (.cond (.t 14)
    .skip
    (.exit 0))
  (.seq (.block 1
    (.seq (.ops [⟨(some 15), .op (.mov (.t 13)), none⟩,
      ⟨(some 16), .op (.iaddr (.sl 4) (.t 11) (.t 13)), none⟩,
      ⟨(some 17), .op (.load (some 4) (.t 16)), none⟩,
      ⟨(some 5), .op (.alloc [(.int .i64 0), (.string ⟨#[]⟩), (.slice none 0 0), (.int .i64 0)]), none⟩,
      ⟨(some 4), .op (.mov (.t 15)), none⟩,
      ⟨none, .op (.store 4 (.t 5) (.t 17)), none⟩])
    (.seq (.ops [⟨(some 18), .op (.mov (.t 3)), none⟩,
      ⟨(some 19), .op (.mov (.t 4)), none⟩,
      ⟨(some 20), .op (.iaddr (.sl 1) (.t 18) (.t 19)), none⟩,
      ⟨none, .op (.store 1 (.t 20) (.c (.int .i64 1))), none⟩])
    (.seq (.ops [⟨(some 21), .op (.faddr 2 (.t 5)), none⟩,
      ⟨(some 22), .op (.load none (.t 21)), none⟩,
      ⟨(some 23), .op (.len .sl (.t 22)), none⟩,
      ⟨(some 24), .op (.mov (.c (.int .i64 0))), none⟩])
    (.block 2
      (.loop C14L0))))))
  (.ops [⟨(some 49), .op (.bin .add (.t 13) (.c (.int .i64 1))), none⟩,
    ⟨(some 13), .op (.mov (.t 49)), none⟩]))))

def C14 : IFn := ⟨59, (.seq (.ops [⟨(some 2), .op (.mov (.c (.int .i64 0))), none⟩])
  (.seq (.ops [⟨(some 8), .op (.mov (.t 0)), none⟩,
    ⟨(some 9), .op (.len .sl (.t 8)), none⟩,
    ⟨(some 10), .op (.mkslice 1 8 [(.int .i64 0)] (.t 9) (.t 9)), none⟩,
    ⟨(some 3), .op (.mov (.t 10)), none⟩])
  (.seq (.seq (.ops [⟨(some 11), .op (.mov (.t 0)), none⟩,
    ⟨(some 12), .op (.len .sl (.t 11)), none⟩,
    ⟨(some 13), .op (.mov (.c (.int .i64 0))), none⟩])
  (.block 0
    (.loop C14L1)))
  (.seq (.seq (.ops [⟨(some 50), .op (.mov (.t 0)), none⟩,
    ⟨(some 51), .op (.len .sl (.t 50)), none⟩,
    ⟨(some 52), .op (.bin .eql (.t 51) (.c (.int .i64 0))), none⟩])
  (.cond (.t 52)
    (.seq (.ops [⟨(some 2), .op (.mov (.c (.int .i64 0))), none⟩])
    .ret)
    .skip))
  (.seq (.ops [⟨(some 53), .op (.mov (.t 3)), none⟩,
    ⟨(some 54), .op (.mov (.t 0)), none⟩,
    ⟨(some 55), .op (.len .sl (.t 54)), none⟩,
    ⟨(some 56), .op (.bin .sub (.t 55) (.c (.int .i64 1))), none⟩,
    ⟨(some 57), .op (.iaddr (.sl 1) (.t 53) (.t 56)), none⟩,
    ⟨(some 58), .op (.load none (.t 57)), none⟩,
    ⟨(some 2), .op (.mov (.t 58)), none⟩])
  .ret))))), [.tmp 2]⟩

end Go.Idl
end

section
/- few, and how deep a list is. -/
namespace Go.Idl
set_option linter.unusedVariables false
set_option linter.unusedSimpArgs false


theorem nodesAt.len {h : Heap} {v : Value} {l : List Nd} (hh : nodesAt h v l) : ∃ a c, v = .slice a l.length c := by
  rcases hh.1 with ⟨rfl, rfl⟩ | ⟨b, c, h1, _⟩
  · exact ⟨none, 0, rfl⟩
  · exact ⟨_, c, h1⟩

theorem weight_take {l : List Nd} {i : Nat} {x : Nd} (h : l[i]? = some x) : weight (l.take (i + 1)) = weight (l.take i) + (x.kids.length + x.text.size / 20) := by
  unfold weight
  rw [List.take_add_one, h]
  simp
theorem weight_le (l : List Nd) (i : Nat) : weight (l.take i) ≤ weight l := by
  have : weight l = weight (l.take i) + weight (l.drop i) := by
    unfold weight
    rw [← List.sum_append, ← List.map_append, List.take_append_drop]
  omega

theorem few_spec {T : Tbl} (hT : T.fn 10 = some C10) {h : Heap} {v : Value} {l : List Nd} (hn : nodesAt h v l) (hw : l.length + weight l < 4611686018427387904) :
    Wk T (.fn 10) [v] h (fun o h' => Kept h h' ∧ o = .ret (.bool (decide (l.length + weight l ≤ 3000)))) := by
  obtain ⟨va, vc, hv⟩ := hn.len
  refine Wk_fn hT (by simp [C10]) ?_
  simp only [C10]
  refine Wc_seq (Wc_ops (Wo_run (fun call => by simp only [iops_nil, iops_op, iops_grd, iK_some, iG_true, iG_false, gval_bool, beq_true, beq_false, Bool.not_true, Bool.not_false, iop, ev, upd, dstUpd, reduceIte]; rfl) ?_))
  show Wc T _ _ _
  refine Wc_seq (Wc_ops (Wo_run (fun call => by simp only [iops_nil, iops_op, iops_grd, iK_some, iG_true, iG_false, gval_bool, beq_true, beq_false, Bool.not_true, Bool.not_false, iop, ev, upd, dstUpd, args0, hv, reduceIte, Nat.reduceEqDiff, List.getD_cons_zero]; rfl) ?_))
  show Wc T _ _ _
  refine Wc_seq (Wc_seq (Wc_ops (Wo_run (fun call => by simp only [iops_nil, iops_op, iops_grd, iK_some, iG_true, iG_false, gval_bool, beq_true, beq_false, Bool.not_true, Bool.not_false, iop, ev, upd, dstUpd, args0, hv, reduceIte, Nat.reduceEqDiff, List.getD_cons_zero]; rfl) ?_)))
  show Wc T _ _ _
  refine Wc_block (Wc_loop (fun s => s.d = some [] ∧ Kept h s.h ∧ s.e 8 = v ∧ s.e 9 = .int .i64 l.length ∧ ∃ i : Nat, i ≤ l.length ∧ s.e 10 = .int .i64 i ∧ s.e 3 = .int .i64 ((l.length + weight (l.take i) : Nat) : Int))
    (fun s => match s.e 10 with | .int _ i => (l.length - i).toNat | _ => 0) ?_ ?_)
  · refine ⟨rfl, .refl h, by simp [upd, dstUpd, hv], by simp [upd, dstUpd], 0, Nat.zero_le _, by simp [upd, dstUpd], by simp [upd, dstUpd, weight]⟩
  · rintro ⟨e, hp, d⟩ ⟨hd, hk, h8, h9, i, hi, h10, h3⟩
    simp only at hd hk h8 h9 h10 h3
    subst hd
    rw [C10L0]
    refine Wc_seq (Wc_ops (Wo_run (fun call => by simp only [iops_nil, iops_op, iops_grd, iK_some, iG_true, iG_false, gval_bool, beq_true, beq_false, Bool.not_true, Bool.not_false, iop, ev, upd, dstUpd, h9, h10, binV, binI, reduceIte, Option.map_some]; rfl) ?_))
    show Wc T _ _ _
    refine Wc_seq (Wc_cond (decide ((i : Int) < l.length)) (by simp [ev, upd]) (fun hlt => Wc_skip ?_) (fun hge => Wc_exit ?_))
    · show Wc T _ _ _
      have hil : i < l.length := by simpa using hlt
      obtain ⟨x, hx⟩ : ∃ x, l[i]? = some x := ⟨_, List.getElem?_eq_getElem hil⟩
      obtain ⟨b, c, hv', hb, ⟨o, z, hg⟩, hcells⟩ := (hn.keep hk).load hx
      obtain ⟨ka, kc, hkv⟩ := ((hn.2 x (List.mem_of_getElem? hx))).len
      have hidx : idxV l.length (.int .i64 i) = some i := by simp [idxV, hil]
      have hwt := weight_take hx
      have hwl := weight_le l (i + 1)
      refine Wc_seq (Wc_block (Wc_seq (Wc_ops (Wo_run (fun call => by
        simp only [iops_nil, iops_op, iops_grd, iK_some, iG_true, iG_false, gval_bool, beq_true, beq_false, Bool.not_true, Bool.not_false, iop, ev, upd, dstUpd, h8, h10, hv', hidx, ptr, hcells, Option.map_some, cellsOf, Heap.write, Heap.new, Heap.set, put, List.length_cons, List.length_nil, reduceIte, Nat.reduceEqDiff, Nat.reduceAdd, Nat.reduceLeDiff, List.set_cons_zero, List.set_cons_succ]
        rfl) ?_))))
      show Wc T _ _ _
      refine Wc_ops (Wo_run (fun call => by
        simp only [iops_nil, iops_op, iops_grd, iK_some, iG_true, iG_false, gval_bool, beq_true, beq_false, Bool.not_true, Bool.not_false, iop, ev, upd, dstUpd, h3, ptr, hkv, Option.map_some, Heap.cell, binV, binI, List.length_cons, List.length_nil, reduceIte, Nat.reduceEqDiff, Nat.reduceAdd, Nat.zero_add, List.getElem?_cons_zero, List.getElem?_cons_succ, Int.reduceEq]
        rfl) ?_)
      show Wc T _ _ _
      have e1 : IntKind.i64.wrap ((i : Int) + 1) = ((i + 1 : Nat) : Int) := by rw [wrap64] <;> omega
      have e2 : IntKind.i64.wrap ((x.text.size : Int).tdiv 20) = ((x.text.size / 20 : Nat) : Int) := by
        have : (x.text.size : Int).tdiv 20 = ((x.text.size / 20 : Nat) : Int) := by rw [Int.tdiv_eq_ediv_of_nonneg (by omega)]; rfl
        rw [this, wrap64] <;> omega
      have e3 : IntKind.i64.wrap ((x.kids.length : Int) + ((x.text.size / 20 : Nat) : Int)) = ((x.kids.length + x.text.size / 20 : Nat) : Int) := by rw [wrap64] <;> omega
      have e4 : IntKind.i64.wrap (((l.length + weight (l.take i) : Nat) : Int) + ((x.kids.length + x.text.size / 20 : Nat) : Int)) = ((l.length + weight (l.take (i + 1)) : Nat) : Int) := by rw [wrap64] <;> omega
      refine Wc_ops (Wo_run (fun call => by
        simp only [iops_nil, iops_op, iops_grd, iK_some, iG_true, iG_false, gval_bool, beq_true, beq_false, Bool.not_true, Bool.not_false, iop, ev, upd, dstUpd, h10, e1, binV, binI, reduceIte, Nat.reduceEqDiff, Option.map_some]
        rfl) ?_)
      refine ⟨⟨rfl, ((hk.new _).set (by exact hk.next) _), by simp only [upd, Nat.reduceEqDiff, reduceIte]; exact h8, by simp only [upd, Nat.reduceEqDiff, reduceIte]; exact h9, i + 1, by omega, by simp only [upd, Nat.reduceEqDiff, reduceIte],
        by simp only [upd, Nat.reduceEqDiff, reduceIte]; rw [e2, e3, e4]⟩, ?_⟩
      simp only [upd, Nat.reduceEqDiff, reduceIte, h10]
      omega
    · show Wc T _ _ _
      have hil : i = l.length := by simp at hge; omega
      subst hil
      rw [List.take_length] at h3
      refine Wc_seq (Wc_ops (Wo_run (fun call => by
        simp only [iops_nil, iops_op, iops_grd, iK_some, iG_true, iG_false, gval_bool, beq_true, beq_false, Bool.not_true, Bool.not_false, iop, ev, upd, dstUpd, h3, binV, binI, reduceIte, Nat.reduceEqDiff, Option.map_some]
        rfl) ?_))
      show Wc T _ _ _
      refine Wc_ret ⟨.inr rfl, rfl, [.bool (decide (l.length + weight l ≤ 3000))], ?_, hk, rfl⟩
      simp only [C10, resAll, resV, upd, Nat.reduceEqDiff, reduceIte]
      have : decide (((l.length + weight l : Nat) : Int) ≤ 3000) = decide (l.length + weight l ≤ 3000) := by rw [decide_eq_decide]; omega
      rw [this]
end Go.Idl
end

section
/- How deep a list of nodes is: plain. -/
namespace Go.Idl
set_option linter.unusedVariables false
set_option linter.unusedSimpArgs false

def inner (D : List Nat) (m : Nat) (k : Int) : Nat := if 0 ≤ k ∧ k < D.length then max m (D.getD k.toNat 0 + 1) else m
def dep (D : List Nat) (ks : List Int) : Nat := ks.foldl (inner D) 1
def kidsOf (l : List Nd) (n : Nat) : List Int := (l[n]?.map (·.kids)).getD []
def depsN (l : List Nd) : Nat → List Nat
  | 0 => []
  | n + 1 => depsN l n ++ [dep (depsN l n) (kidsOf l n)]
def deepOf (l : List Nd) : Nat := (depsN l l.length).getD (l.length - 1) 0

theorem depsN_length (l : List Nd) : ∀ n, (depsN l n).length = n
  | 0 => rfl
  | n + 1 => by simp [depsN, depsN_length l n]

theorem inner_take {D : List Nat} {ks : List Int} {j : Nat} {k : Int} (h : ks[j]? = some k) (m : Nat) : (ks.take (j + 1)).foldl (inner D) m = inner D ((ks.take j).foldl (inner D) m) k := by
  rw [List.take_add_one, h]; simp

theorem fold_pos (D : List Nat) : ∀ (ks : List Int) (m : Nat), m ≤ ks.foldl (inner D) m
  | [], m => Nat.le_refl _
  | k :: ks, m => Nat.le_trans (by unfold inner; split <;> omega) (fold_pos D ks _)

theorem fold_le {D : List Nat} {B : Nat} (hD : ∀ k, D.getD k 0 ≤ B) : ∀ (ks : List Int) (m : Nat), m ≤ B + 1 → ks.foldl (inner D) m ≤ B + 1
  | [], m, h => h
  | k :: ks, m, h => fold_le hD ks _ (by have := hD k.toNat; unfold inner; split <;> omega)

theorem depsN_le (l : List Nd) : ∀ n k, (depsN l n).getD k 0 ≤ n
  | 0, k => by simp [depsN]
  | n + 1, k => by
    have ih := depsN_le l n
    simp only [depsN, List.getD_eq_getElem?_getD] at ih ⊢
    rw [List.getElem?_append]
    split
    · have := ih k; omega
    · rw [List.getElem?_singleton]
      split
      · exact fold_le (fun k => by simpa [List.getD_eq_getElem?_getD] using ih k) _ 1 (by omega)
      · simp

def natC (A : List Nat) : List Value := A.map fun (n : Nat) => Value.int .i64 (n : Int)

theorem natC_get {A : List Nat} {i a : Nat} (h : A[i]? = some a) : (natC A)[i]? = some (.int .i64 a) := by simp [natC, h]
theorem natC_set (A : List Nat) (i a : Nat) : (natC A).set i (.int .i64 a) = natC (A.set i a) := by simp [natC]
theorem natC_length (A : List Nat) : (natC A).length = A.length := by simp [natC]
theorem natC_zero (n : Nat) : (List.replicate n [Value.int .i64 0]).flatten = natC (List.replicate n 0) := by
  induction n with
  | zero => rfl
  | succ n ih => simp only [List.replicate_succ, List.flatten_cons, ih]; rfl

end Go.Idl
end

section
/- tree.Deep. -/
namespace Go.Idl
set_option linter.unusedVariables false
set_option linter.unusedSimpArgs false

/-- The array while node n is looked at: m - 1 stands at n. -/
structure Arr (l : List Nd) (n m : Nat) (A : List Nat) : Prop where
  len : A.length = l.length + 1
  low : ∀ k, k < n → A[k]? = (depsN l n)[k]?
  at' : A[n]? = some (m - 1)
  high : ∀ k, n < k → k ≤ l.length → A[k]? = some 0

def slN (b n : Nat) : Value := .slice (some ⟨b, 0, none⟩) n n

/-- One kid. -/
theorem deep13_kid {T : Tbl} {l : List Nd} {n : Nat} (hn : n < l.length) (hN : l.length ≤ 3000) {ks : List Int} {h0 : Heap} {bl : Nat} {kv : Value} (hbl : h0.next ≤ bl) (hki : intsAt h0 kv ks)
    {e : Env} {hp : Heap} (h3 : e 3 = slN bl (l.length + 1)) (h4 : e 4 = .int .i64 n) (h20 : e 20 = kv) (h21 : e 21 = .int .i64 ks.length) {j : Nat} (hj : j ≤ ks.length) (h22 : e 22 = .int .i64 j)
    (hkl : ks.length < 4611686018427387904) (hk : Kept h0 hp) (hbn : bl < hp.next) {A : List Nat} (hA : hp.get bl = some (.cells (natC A) true 1)) (ha : Arr l n ((ks.take j).foldl (inner (depsN l n)) 1) A) {Q : Ex → St → Prop}
    (hgo : ∀ (e' : Env) (hp' : Heap) (A' : List Nat), (∀ t, t < 7 → e' t = e t) → (∀ t, 7 < t → t < 22 → e' t = e t) → e' 22 = .int .i64 ((j + 1 : Nat) : Int) → j < ks.length → Kept h0 hp' → hp.next = hp'.next → hp'.get bl = some (.cells (natC A') true 1) → Arr l n ((ks.take (j + 1)).foldl (inner (depsN l n)) 1) A' →
      (∀ b, b ≠ bl → hp'.get b = hp.get b) → Q .normal ⟨e', hp', some []⟩)
    (hend : ∀ e' : Env, (∀ t, t < 22 → e' t = e t) → j = ks.length → Q (.brk 2) ⟨e', hp, some []⟩) : Wc T C13L0 ⟨e, hp, some []⟩ Q := by
  rw [C13L0]
  refine Wc_seq (Wc_ops (Wo_run (fun call => by simp only [iops_nil, iops_op, iops_grd, iK_some, iG_true, iG_false, gval_bool, beq_true, beq_false, Bool.not_true, Bool.not_false, iop, ev, upd, dstUpd, h21, h22, binV, binI, reduceIte, Option.map_some]; rfl) ?_))
  show Wc T _ _ _
  refine Wc_seq (Wc_cond (decide ((j : Int) < ks.length)) (by simp [ev, upd]) (fun hlt => Wc_skip ?_) (fun hge => Wc_exit ?_))
  case refine_2 =>
    refine hend _ (fun t ht => by simp only [upd]; rw [if_neg (by omega)]) (by simp at hge; omega)
  show Wc T _ _ _
  have hjl : j < ks.length := by simpa using hlt
  obtain ⟨k, hkj⟩ : ∃ k, ks[j]? = some k := ⟨_, List.getElem?_eq_getElem hjl⟩
  obtain ⟨b, c, rfl, hb0, ⟨o, z, hg0⟩, hcell⟩ := hki.load hkj
  have hb : b < hp.next := Nat.lt_of_lt_of_le hb0 hk.next
  have hg : hp.get b = some (.cells (ints64 ks) o z) := by rw [hk.get b hb0]; exact hg0
  have e1 : IntKind.i64.wrap ((j : Int) + 1) = ((j + 1 : Nat) : Int) := by rw [wrap64] <;> omega
  have hfold := inner_take hkj (D := depsN l n) 1
  have hDl := depsN_length l n
  have hbb : b ≠ bl := by omega
  refine Wc_seq (Wc_block (Wc_seq (Wc_ops (Wo_run (fun call => by
    simp only [iops_nil, iops_op, iops_grd, iK_some, iG_true, iG_false, gval_bool, beq_true, beq_false, Bool.not_true, Bool.not_false, iop, ev, upd, dstUpd, h20, h22, idx_ok hjl, ptr, Heap.cell, hg, hcell, Option.map_some, reduceIte, Nat.reduceEqDiff]
    rfl) ?_))))
  show Wc T _ _ _
  -- behind the comparison
  have last : ∀ (e' : Env) (hp' : Heap) (A' : List Nat), (∀ t, t < 7 → e' t = e t) → (∀ t, 7 < t → t < 23 → e' t = e t) → Kept h0 hp' → hp.next = hp'.next → hp'.get bl = some (.cells (natC A') true 1) → Arr l n (inner (depsN l n) ((ks.take j).foldl (inner (depsN l n)) 1) k) A' → (∀ b, b ≠ bl → hp'.get b = hp.get b) →
      To (Tb 3 (Tn T (.ops [⟨(some 51), .op (.bin .add (.t 22) (.c (.int .i64 1))), none⟩, ⟨(some 22), .op (.mov (.t 51)), none⟩]) Q)) none ⟨e', hp', some []⟩ := by
    intro e' hp' A' f1 f2 f3 f4 f5 f6 f7
    show Wc T _ _ _
    have g22 : e' 22 = .int .i64 j := by rw [f2 22 (by omega) (by omega)]; exact h22
    refine Wc_ops (Wo_run (fun call => by simp only [iops_nil, iops_op, iops_grd, iK_some, iG_true, iG_false, gval_bool, beq_true, beq_false, Bool.not_true, Bool.not_false, iop, ev, upd, dstUpd, g22, e1, binV, binI, reduceIte, Nat.reduceEqDiff, Option.map_some]; rfl) ?_)
    refine hgo _ hp' A' (fun t ht => ?_) (fun t h1 h2 => ?_) (by simp [upd]) hjl f3 f4 f5 (by rw [hfold]; exact f6) f7
    · simp only [upd]; rw [if_neg (by omega), if_neg (by omega)]; exact f1 t ht
    · simp only [upd]; rw [if_neg (by omega), if_neg (by omega)]; exact f2 t h1 (by omega)
  have hcalm : calm [⟨(some 26), .op (.mov (.t 7)), none⟩,
      ⟨(some 27), .op (.bin .geq (.t 26) (.c (.int .i64 0))), none⟩,
      ⟨(some 28), .op (.mov (.t 27)), none⟩,
      ⟨(some 29), .op (.mov (.t 7)), (some (28, true))⟩,
      ⟨(some 30), .op (.mov (.t 4)), (some (28, true))⟩,
      ⟨(some 31), .op (.bin .lss (.t 29) (.t 30)), (some (28, true))⟩,
      ⟨(some 32), .op (.pick (.t 28) (.t 31) (.c (.bool false))), none⟩,
      ⟨(some 33), .op (.mov (.t 32)), none⟩,
      ⟨(some 34), .op (.mov (.t 3)), (some (33, true))⟩,
      ⟨(some 35), .op (.mov (.t 7)), (some (33, true))⟩,
      ⟨(some 36), .op (.iaddr (.sl 1) (.t 34) (.t 35)), (some (33, true))⟩,
      ⟨(some 37), .op (.load none (.t 36)), (some (33, true))⟩,
      ⟨(some 38), .op (.mov (.t 3)), (some (33, true))⟩,
      ⟨(some 39), .op (.mov (.t 4)), (some (33, true))⟩,
      ⟨(some 40), .op (.iaddr (.sl 1) (.t 38) (.t 39)), (some (33, true))⟩,
      ⟨(some 41), .op (.load none (.t 40)), (some (33, true))⟩,
      ⟨(some 42), .op (.bin .gtr (.t 37) (.t 41)), (some (33, true))⟩,
      ⟨(some 43), .op (.pick (.t 33) (.t 42) (.c (.bool false))), none⟩] = true := by decide
  have easy : ∀ (e' : Env), (∀ t, t < 7 → e' t = e t) → (∀ t, 7 < t → t < 23 → e' t = e t) → inner (depsN l n) ((ks.take j).foldl (inner (depsN l n)) 1) k = (ks.take j).foldl (inner (depsN l n)) 1 →
      To (Tb 3 (Tn T (.ops [⟨(some 51), .op (.bin .add (.t 22) (.c (.int .i64 1))), none⟩, ⟨(some 22), .op (.mov (.t 51)), none⟩]) Q)) none ⟨e', hp, some []⟩ := fun e' f1 f2 f3 =>
    last e' hp A f1 f2 hk rfl hA (by rw [f3]; exact ha) (fun _ _ => rfl)
  by_cases hk0 : 0 ≤ k
  case neg =>
    refine Wc_seq (Wc_draw_calm hcalm (Wo_run (fun call => by
      simp only [iops_nil, iops_op, iops_grd, iK_some, iG_true, iG_false, gval_bool, beq_true, beq_false, Bool.not_true, Bool.not_false, iop, ev, upd, dstUpd, h4, binV, binI, hk0, ge_iff_le, decide_false, reduceIte, Nat.reduceEqDiff, Option.map_some, Bool.false_eq_true, beq_iff_eq]
      rfl) ⟨rfl, ?_⟩))
    show Wc T _ _ _
    refine Wc_cond false (by simp [ev, upd]) (fun h => by cases h) (fun _ => Wc_skip ?_)
    exact easy _ (fun t ht => by simp only [upd]; repeat rw [if_neg (by omega)]) (fun t h1 h2 => by simp only [upd]; repeat rw [if_neg (by omega)]) (by unfold inner; rw [if_neg (by omega)])
  by_cases hkn : k < n
  case neg =>
    refine Wc_seq (Wc_draw_calm hcalm (Wo_run (fun call => by
      simp only [iops_nil, iops_op, iops_grd, iK_some, iG_true, iG_false, gval_bool, beq_true, beq_false, Bool.not_true, Bool.not_false, iop, ev, upd, dstUpd, h4, binV, binI, hk0, hkn, ge_iff_le, decide_true, decide_false, reduceIte, Nat.reduceEqDiff, Option.map_some, Bool.false_eq_true, beq_iff_eq]
      rfl) ⟨rfl, ?_⟩))
    show Wc T _ _ _
    refine Wc_cond false (by simp [ev, upd]) (fun h => by cases h) (fun _ => Wc_skip ?_)
    exact easy _ (fun t ht => by simp only [upd]; repeat rw [if_neg (by omega)]) (fun t h1 h2 => by simp only [upd]; repeat rw [if_neg (by omega)]) (by unfold inner; rw [if_neg (by omega)])
  obtain ⟨kk, rfl⟩ : ∃ kk : Nat, k = kk := ⟨k.toNat, by omega⟩
  have hkn' : kk < n := by omega
  obtain ⟨a, hDa⟩ : ∃ a, (depsN l n)[kk]? = some a := ⟨_, List.getElem?_eq_getElem (by omega)⟩
  have hAk : A[kk]? = some a := by rw [ha.low kk hkn', hDa]
  have hm := fold_pos (depsN l n) (ks.take j) 1
  have hin : inner (depsN l n) ((ks.take j).foldl (inner (depsN l n)) 1) (kk : Int) = max ((ks.take j).foldl (inner (depsN l n)) 1) (a + 1) := by
    unfold inner
    rw [if_pos (by omega)]
    simp [List.getD_eq_getElem?_getD, hDa]
  generalize (ks.take j).foldl (inner (depsN l n)) 1 = m at *
  have hkA : (natC A)[0 + kk * 1]? = some (.int .i64 a) := by rw [Nat.zero_add, Nat.mul_one]; exact natC_get hAk
  have hnA : (natC A)[0 + n * 1]? = some (.int .i64 ((m - 1 : Nat) : Int)) := by rw [Nat.zero_add, Nat.mul_one]; exact natC_get ha.at'
  have hset : (natC A).set (0 + n * 1) (.int .i64 a) = natC (A.set n a) := by rw [Nat.zero_add, Nat.mul_one]; exact natC_set A n a
  have hlen : 0 + n * 1 + 1 ≤ (natC A).length := by rw [natC_length, ha.len]; omega
  by_cases hgt : ((m - 1 : Nat) : Int) < (a : Int)
  · refine Wc_seq (Wc_draw_calm hcalm (Wo_run (fun call => by
      simp only [iops_nil, iops_op, iops_grd, iK_some, iG_true, iG_false, gval_bool, beq_true, beq_false, Bool.not_true, Bool.not_false, iop, ev, upd, dstUpd, h3, h4, slN, binV, binI, hk0, hkn, idx_ok (show kk < l.length + 1 by omega), idx_ok (show n < l.length + 1 by omega), ptr, Heap.cell, hA, hkA, hnA, hgt, gt_iff_lt, ge_iff_le, decide_true, decide_false, reduceIte, Nat.reduceEqDiff, Option.map_some, Bool.false_eq_true, beq_iff_eq]
      rfl) ⟨rfl, ?_⟩))
    show Wc T _ _ _
    refine Wc_cond true (by simp [ev, upd]) (fun _ => ?_) (fun h => by cases h)
    refine Wc_ops (Wo_run (fun call => by
      simp only [iops_nil, iops_op, iops_grd, iK_some, iop, ev, upd, dstUpd, h3, h4, slN, idx_ok (show kk < l.length + 1 by omega), idx_ok (show n < l.length + 1 by omega), ptr, Heap.cell, Heap.write, cellsOf, put, hA, hkA, hset, hlen, List.length_cons, List.length_nil, reduceIte, Nat.reduceEqDiff, Nat.reduceAdd, Option.map_some]
      rfl) ?_)
    refine last _ _ (A.set n a) (fun t ht => by simp only [upd]; repeat rw [if_neg (by omega)]) (fun t h1 h2 => by simp only [upd]; repeat rw [if_neg (by omega)]) (hk.set hbl _) rfl (set_get' _ _ _) ?_ (fun b hb => set_get_ne' _ _ hb)
    rw [hin]
    have he : max m (a + 1) = a + 1 := by omega
    rw [he]
    refine ⟨by simp [ha.len], fun t ht => ?_, ?_, fun t h1 h2 => ?_⟩
    · rw [List.getElem?_set_ne (by omega)]; exact ha.low t ht
    · rw [List.getElem?_set_self (by rw [ha.len]; omega)]; rfl
    · rw [List.getElem?_set_ne (by omega)]; exact ha.high t h1 h2
  · refine Wc_seq (Wc_draw_calm hcalm (Wo_run (fun call => by
      simp only [iops_nil, iops_op, iops_grd, iK_some, iG_true, iG_false, gval_bool, beq_true, beq_false, Bool.not_true, Bool.not_false, iop, ev, upd, dstUpd, h3, h4, slN, binV, binI, hk0, hkn, idx_ok (show kk < l.length + 1 by omega), idx_ok (show n < l.length + 1 by omega), ptr, Heap.cell, hA, hkA, hnA, hgt, gt_iff_lt, ge_iff_le, decide_true, decide_false, reduceIte, Nat.reduceEqDiff, Option.map_some, Bool.false_eq_true, beq_iff_eq]
      rfl) ⟨rfl, ?_⟩))
    show Wc T _ _ _
    refine Wc_cond false (by simp [ev, upd]) (fun h => by cases h) (fun _ => Wc_skip ?_)
    exact easy _ (fun t ht => by simp only [upd]; repeat rw [if_neg (by omega)]) (fun t h1 h2 => by simp only [upd]; repeat rw [if_neg (by omega)]) (by rw [hin]; omega)

end Go.Idl
end

section
/- tree.Deep: whole. -/
namespace Go.Idl
set_option linter.unusedVariables false
set_option linter.unusedSimpArgs false

theorem Arr.done {l : List Nd} {n : Nat} (hn : n < l.length) {A : List Nat} (ha : Arr l n (dep (depsN l n) (kidsOf l n)) A) : Arr l (n + 1) 1 (A.set n (dep (depsN l n) (kidsOf l n))) := by
  have hD := depsN_length l n
  refine ⟨by simp [ha.len], fun k hk => ?_, ?_, fun k h1 h2 => ?_⟩
  · simp only [depsN]
    by_cases e : k = n
    · subst e
      rw [List.getElem?_set_self (by rw [ha.len]; omega), List.getElem?_append_right (by omega), hD, Nat.sub_self]; rfl
    · rw [List.getElem?_set_ne (by omega), List.getElem?_append_left (by omega)]
      exact ha.low k (by omega)
  · rw [List.getElem?_set_ne (by omega)]; exact ha.high (n + 1) (by omega) (by omega)
  · rw [List.getElem?_set_ne (by omega)]; exact ha.high k (by omega) h2

theorem deep13_node {T : Tbl} {l : List Nd} (hN : l.length ≤ 3000) (hK : ∀ x ∈ l, x.kids.length ≤ 3000) {h0 : Heap} {bl : Nat} {v : Value} (hbl : h0.next ≤ bl) (hn : nodesAt h0 v l)
    {e : Env} {hp : Heap} {n : Nat} (hnl : n ≤ l.length) (h3 : e 3 = slN bl (l.length + 1)) (h12 : e 12 = v) (h13 : e 13 = .int .i64 l.length) (h14 : e 14 = .int .i64 n) (h0' : e 0 = v)
    (hk : Kept h0 hp) (hbn : bl < hp.next) {A : List Nat} (hA : hp.get bl = some (.cells (natC A) true 1)) (ha : Arr l n 1 A) {Q : Ex → St → Prop}
    (hgo : n < l.length → ∀ (e' : Env) (hp' : Heap) (A' : List Nat), e' 3 = e 3 → e' 12 = v → e' 13 = e 13 → e' 14 = .int .i64 ((n + 1 : Nat) : Int) → e' 0 = v → Kept h0 hp' → bl < hp'.next → hp'.get bl = some (.cells (natC A') true 1) → Arr l (n + 1) 1 A' → Q .normal ⟨e', hp', some []⟩)
    (hend : n = l.length → ∀ e' : Env, e' 3 = e 3 → e' 0 = v → Q (.brk 0) ⟨e', hp, some []⟩) : Wc T C13L1 ⟨e, hp, some []⟩ Q := by
  rw [C13L1]
  refine Wc_seq (Wc_ops (Wo_run (fun call => by simp only [iops_nil, iops_op, iK_some, iop, ev, upd, dstUpd, h13, h14, binV, binI, reduceIte, Option.map_some]; rfl) ?_))
  show Wc T _ _ _
  refine Wc_seq (Wc_cond (decide ((n : Int) < l.length)) (by simp [ev, upd]) (fun hlt => Wc_skip ?_) (fun hge => Wc_exit ?_))
  case refine_2 => exact hend (by simp at hge; omega) _ (by simp [upd]) (by simp only [upd, Nat.reduceEqDiff, reduceIte]; exact h0')
  show Wc T _ _ _
  have hil : n < l.length := by simpa using hlt
  obtain ⟨x, hx⟩ : ∃ x, l[n]? = some x := ⟨_, List.getElem?_eq_getElem hil⟩
  have hxm := List.mem_of_getElem? hx
  obtain ⟨b, c, rfl, hb, ⟨o, z, hg⟩, hcells⟩ := (hn.keep hk).load hx
  obtain ⟨ka, kc, hkv⟩ := (hn.2 x hxm).len
  have hki := hn.2 x hxm
  have hkl := hK x hxm
  have e1 : IntKind.i64.wrap ((n : Int) + 1) = ((n + 1 : Nat) : Int) := by rw [wrap64] <;> omega
  have hkids : kidsOf l n = x.kids := by simp [kidsOf, hx]
  refine Wc_seq (Wc_block (Wc_seq (Wc_ops (Wo_run (fun call => by
    simp only [iops_nil, iops_op, iK_some, iop, ev, upd, dstUpd, h12, h14, idx_ok hil, ptr, hcells, Option.map_some, cellsOf, Heap.write, Heap.new, Heap.set, put, List.length_cons, List.length_nil, reduceIte, Nat.reduceEqDiff, Nat.reduceAdd, Nat.reduceLeDiff, List.set_cons_zero, List.set_cons_succ]
    rfl) ?_))))
  show Wc T _ _ _
  refine Wc_seq (Wc_seq (Wc_ops (Wo_run (fun call => by
    simp only [iops_nil, iops_op, iK_some, iop, ev, upd, dstUpd, ptr, hkv, Option.map_some, Heap.cell, reduceIte, Nat.reduceEqDiff, Nat.reduceAdd, Nat.zero_add, List.getElem?_cons_zero, List.getElem?_cons_succ]
    rfl) ?_)))
  show Wc T _ _ _
  have hbb : bl ≠ hp.next := by omega
  refine Wc_block (Wc_loop (fun s => s.d = some [] ∧ Kept h0 s.h ∧ bl < s.h.next ∧ s.e 0 = .slice (some ⟨b, 0, none⟩) l.length c ∧ s.e 3 = e 3 ∧ s.e 4 = .int .i64 n ∧ s.e 12 = .slice (some ⟨b, 0, none⟩) l.length c ∧ s.e 13 = e 13 ∧ s.e 14 = .int .i64 n ∧ s.e 20 = x.kv ∧ s.e 21 = .int .i64 x.kids.length ∧
      ∃ j : Nat, j ≤ x.kids.length ∧ s.e 22 = .int .i64 j ∧ ∃ A, s.h.get bl = some (.cells (natC A) true 1) ∧ Arr l n ((x.kids.take j).foldl (inner (depsN l n)) 1) A)
    (fun s => match s.e 22 with | .int _ i => (x.kids.length - i).toNat | _ => 0) ?_ ?_)
  · refine ⟨rfl, (hk.new _).set hk.next _, by simp only [Heap.set, Heap.new]; omega, by simp only [upd, Nat.reduceEqDiff, reduceIte]; exact h0', by simp only [upd, Nat.reduceEqDiff, reduceIte], by simp only [upd, Nat.reduceEqDiff, reduceIte],
      by simp only [upd, Nat.reduceEqDiff, reduceIte]; exact h12, by simp only [upd, Nat.reduceEqDiff, reduceIte], by simp only [upd, Nat.reduceEqDiff, reduceIte]; exact h14, by simp only [upd, Nat.reduceEqDiff, reduceIte, hkv], by simp only [upd, Nat.reduceEqDiff, reduceIte],
      0, Nat.zero_le _, by simp only [upd, Nat.reduceEqDiff, reduceIte]; rfl, A, ?_, ha⟩
    simp only [if_neg hbb]; exact hA
  · rintro ⟨e2, hp2, d2⟩ ⟨hd, gk, gbn, g0, g3, g4, g12, g13, g14, g20, g21, j, hj, g22, A2, gA, ga⟩
    simp only at hd gk gbn g0 g3 g4 g12 g13 g14 g20 g21 g22 gA
    subst hd
    refine deep13_kid hil hN hbl hki (g3.trans h3) g4 g20 g21 hj g22 (by omega) gk gbn gA ga ?_ ?_
    · intro e' hp' A' f1 f2 f3 f4 f5 f6 f7 f8 f9
      refine ⟨⟨rfl, f5, by rw [← f6]; exact gbn, (f1 0 (by omega)).trans g0, (f1 3 (by omega)).trans g3, (f1 4 (by omega)).trans g4, (f2 12 (by omega) (by omega)).trans g12, (f2 13 (by omega) (by omega)).trans g13,
        (f2 14 (by omega) (by omega)).trans g14, (f2 20 (by omega) (by omega)).trans g20, (f2 21 (by omega) (by omega)).trans g21, j + 1, f4, f3, A', f7, f8⟩, ?_⟩
      simp only [f3, g22]
      omega
    · intro e' f1 f2
      subst f2
      show Wc T _ _ _
      rw [List.take_length] at ga
      have hdep : (x.kids.foldl (inner (depsN l n)) 1) = dep (depsN l n) (kidsOf l n) := by rw [hkids]; rfl
      rw [hdep] at ga
      have hpos : 1 ≤ dep (depsN l n) (kidsOf l n) := fold_pos _ _ 1
      have hle : dep (depsN l n) (kidsOf l n) ≤ n + 1 := fold_le (fun k => depsN_le l n k) _ 1 (by omega)
      have k3 : e' 3 = slN bl (l.length + 1) := by rw [f1 3 (by omega), g3, h3]
      have k4 : e' 4 = .int .i64 n := by rw [f1 4 (by omega), g4]
      have k14 : e' 14 = .int .i64 n := by rw [f1 14 (by omega), g14]
      have hnA : (natC A2)[0 + n * 1]? = some (.int .i64 ((dep (depsN l n) (kidsOf l n) - 1 : Nat) : Int)) := by rw [Nat.zero_add, Nat.mul_one]; exact natC_get ga.at'
      have hset : (natC A2).set (0 + n * 1) (.int .i64 (dep (depsN l n) (kidsOf l n))) = natC (A2.set n (dep (depsN l n) (kidsOf l n))) := by rw [Nat.zero_add, Nat.mul_one]; exact natC_set A2 n _
      have hlen : 0 + n * 1 + 1 ≤ (natC A2).length := by rw [natC_length, ga.len]; omega
      have e2 : IntKind.i64.wrap (((dep (depsN l n) (kidsOf l n) - 1 : Nat) : Int) + 1) = ((dep (depsN l n) (kidsOf l n) : Nat) : Int) := by rw [wrap64] <;> omega
      refine Wc_ops (Wo_run (fun call => by
        simp only [iops_nil, iops_op, iK_some, iop, ev, upd, dstUpd, k3, k4, slN, idx_ok (show n < l.length + 1 by omega), ptr, Heap.cell, Heap.write, cellsOf, put, gA, hnA, binV, binI, e2, hset, hlen, List.length_cons, List.length_nil, reduceIte, Nat.reduceEqDiff, Nat.reduceAdd, Option.map_some]
        rfl) ?_)
      show Wc T _ _ _
      refine Wc_ops (Wo_run (fun call => by simp only [iops_nil, iops_op, iK_some, iop, ev, upd, dstUpd, k14, e1, binV, binI, reduceIte, Nat.reduceEqDiff, Option.map_some]; rfl) ?_)
      refine hgo hil _ _ _ ?_ ?_ ?_ ?_ ?_ (gk.set hbl _) gbn (set_get' _ _ _) (ga.done hil)
      · simp only [upd, Nat.reduceEqDiff, reduceIte]; rw [f1 3 (by omega), g3]
      · simp only [upd, Nat.reduceEqDiff, reduceIte]; rw [f1 12 (by omega), g12]
      · simp only [upd, Nat.reduceEqDiff, reduceIte]; rw [f1 13 (by omega), g13]
      · simp only [upd, Nat.reduceEqDiff, reduceIte]
      · simp only [upd, Nat.reduceEqDiff, reduceIte]; rw [f1 0 (by omega), g0]

theorem arr_begin (l : List Nd) : Arr l 0 1 (List.replicate (l.length + 1) 0) :=
  ⟨by simp, fun k hk => by omega, by simp, fun k h1 h2 => by rw [List.getElem?_replicate, if_pos (by omega)]⟩

theorem deep13 {T : Tbl} (hT : T.fn 13 = some C13) {h : Heap} {v : Value} {l : List Nd} (hn : nodesAt h v l) (hN : l.length ≤ 3000) (hK : ∀ x ∈ l, x.kids.length ≤ 3000) :
    Wk T (.fn 13) [v] h (fun o h' => Kept h h' ∧ o = .ret (.int .i64 (deepOf l))) := by
  obtain ⟨va, vc, hv⟩ := hn.len
  refine Wk_fn hT (by simp [C13]) ?_
  simp only [C13]
  refine Wc_seq (Wc_ops (Wo_run (fun call => by simp only [iops_nil, iops_op, iK_some, iop, ev, upd, dstUpd, reduceIte]; rfl) ?_))
  show Wc T _ _ _
  have e1 : IntKind.i64.wrap ((l.length : Int) + 1) = ((l.length + 1 : Nat) : Int) := by rw [wrap64] <;> omega
  have hsz : (0 : Int) ≤ ((l.length + 1 : Nat) : Int) ∧ ((l.length + 1 : Nat) : Int) ≤ ((l.length + 1 : Nat) : Int) ∧ ((l.length + 1 : Nat) : Int) * ((8 : Nat) : Int) ≤ 140737488355328 := by omega
  refine Wc_seq (Wc_ops (Wo_run (fun call => by
    simp only [iops_nil, iops_op, iK_some, iop, ev, upd, dstUpd, args0, hv, e1, hsz, and_self, binV, binI, reduceIte, Nat.reduceEqDiff, Option.map_some, List.getD_cons_zero, Int.toNat_natCast, natC_zero]
    rfl) ?_))
  show Wc T _ _ _
  refine Wc_seq (Wc_seq (Wc_ops (Wo_run (fun call => by simp only [iops_nil, iops_op, iK_some, iop, ev, upd, dstUpd, args0, hv, reduceIte, Nat.reduceEqDiff, List.getD_cons_zero]; rfl) ?_)))
  show Wc T _ _ _
  have hk0 : Kept h (h.new (.cells (natC (List.replicate (l.length + 1) 0)) true 1)) := (Kept.refl h).new _
  refine Wc_block (Wc_loop (fun s => s.d = some [] ∧ Kept h s.h ∧ h.next < s.h.next ∧ s.e 0 = v ∧ s.e 3 = slN h.next (l.length + 1) ∧ s.e 12 = v ∧ s.e 13 = .int .i64 l.length ∧ ∃ n : Nat, n ≤ l.length ∧ s.e 14 = .int .i64 n ∧ ∃ A, s.h.get h.next = some (.cells (natC A) true 1) ∧ Arr l n 1 A)
    (fun s => match s.e 14 with | .int _ i => (l.length - i).toNat | _ => 0) ?_ ?_)
  · refine ⟨rfl, hk0, Nat.lt_succ_self _, by simp only [upd, Nat.reduceEqDiff, reduceIte, args0, List.getD_cons_zero, hv], by simp only [upd, Nat.reduceEqDiff, reduceIte, slN], by simp only [upd, Nat.reduceEqDiff, reduceIte, hv], by simp only [upd, Nat.reduceEqDiff, reduceIte],
      0, Nat.zero_le _, by simp only [upd, Nat.reduceEqDiff, reduceIte]; rfl, _, ?_, arr_begin l⟩
    simp [Heap.new]
  · rintro ⟨e, hp, d⟩ ⟨hd, gk, gbn, g0, g3, g12, g13, n, hnl, g14, A, gA, ga⟩
    simp only at hd gk gbn g0 g3 g12 g13 g14 gA
    subst hd
    refine deep13_node hN hK (Nat.le_refl _) hn hnl g3 g12 g13 g14 g0 gk gbn gA ga ?_ ?_
    · intro hlt e' hp' A' f3 f12 f13 f14 f0 fk fbn fA fa
      refine ⟨⟨rfl, fk, fbn, f0, f3.trans g3, f12, f13.trans g13, n + 1, hlt, f14, A', fA, fa⟩, ?_⟩
      simp only [f14, g14]
      omega
    · intro hnn e' f3 f0
      subst hnn
      show Wc T _ _ _
      have k3 : e' 3 = slN h.next (l.length + 1) := f3.trans g3
      have hmx : (if (0 : Int) > IntKind.i64.wrap ((l.length : Int) - 1) then (0 : Int) else IntKind.i64.wrap ((l.length : Int) - 1)) = ((l.length - 1 : Nat) : Int) := by
        rw [wrap64] <;> first | (split <;> omega) | omega
      have hAt : A[l.length - 1]? = some (deepOf l) := by
        by_cases hz : l.length = 0
        · have := ga.at'
          rw [hz] at this ⊢
          simp only [this, deepOf, hz, depsN]
          rfl
        · rw [ga.low _ (by omega)]
          unfold deepOf
          rw [List.getD_eq_getElem?_getD, List.getElem?_eq_getElem (by rw [depsN_length]; omega)]
          rfl
      have hg : (natC A)[0 + (l.length - 1) * 1]? = some (.int .i64 (deepOf l)) := by rw [Nat.zero_add, Nat.mul_one]; exact natC_get hAt
      refine Wc_seq (Wc_ops (Wo_run (fun call => by
        simp only [iops_nil, iops_op, iK_some, iop, ev, upd, dstUpd, k3, f0, hv, slN, hmx, idx_ok (show l.length - 1 < l.length + 1 by omega), ptr, Heap.cell, gA, hg, binV, binI, reduceIte, Nat.reduceEqDiff, Option.map_some]
        rfl) ?_))
      show Wc T _ _ _
      refine Wc_ret ⟨.inr rfl, rfl, [.int .i64 (deepOf l)], ?_, gk, rfl⟩
      simp only [C13, resAll, resV, upd, Nat.reduceEqDiff, reduceIte]

end Go.Idl
end

section
/- The reference's Deep. -/
namespace Go.Idl
set_option linter.unusedVariables false
set_option linter.unusedSimpArgs false

/-- The reference's array while node n is looked at. -/
structure Arr2 (l : List Nd) (n : Nat) (A : List Nat) : Prop where
  len : A.length = l.length
  low : ∀ k, k < n → A[k]? = (depsN l n)[k]?

theorem deep14_kid {T : Tbl} {l : List Nd} {n : Nat} (hn : n < l.length) (hN : l.length ≤ 3000) {ks : List Int} {h0 : Heap} {bl : Nat} {kv : Value} (hbl : h0.next ≤ bl) (hki : intsAt h0 kv ks)
    {e : Env} {hp : Heap} (h3 : e 3 = slN bl l.length) (h4 : e 4 = .int .i64 n) (h22 : e 22 = kv) (h23 : e 23 = .int .i64 ks.length) {j : Nat} (hj : j ≤ ks.length) (h24 : e 24 = .int .i64 j)
    (hkl : ks.length < 4611686018427387904) (hk : Kept h0 hp) (hbn : bl < hp.next) {A : List Nat} (hA : hp.get bl = some (.cells (natC A) true 1)) (ha : Arr2 l n A) (hat : A[n]? = some ((ks.take j).foldl (inner (depsN l n)) 1)) {Q : Ex → St → Prop}
    (hgo : ∀ (e' : Env) (hp' : Heap) (A' : List Nat), (∀ t, t < 7 → e' t = e t) → (∀ t, 7 < t → t < 24 → e' t = e t) → e' 24 = .int .i64 ((j + 1 : Nat) : Int) → j < ks.length → Kept h0 hp' → hp.next = hp'.next → hp'.get bl = some (.cells (natC A') true 1) → Arr2 l n A' → A'[n]? = some ((ks.take (j + 1)).foldl (inner (depsN l n)) 1) →
      Q .normal ⟨e', hp', some []⟩)
    (hend : ∀ e' : Env, (∀ t, t < 24 → e' t = e t) → j = ks.length → Q (.brk 2) ⟨e', hp, some []⟩) : Wc T C14L0 ⟨e, hp, some []⟩ Q := by
  rw [C14L0]
  refine Wc_seq (Wc_ops (Wo_run (fun call => by simp only [iops_nil, iops_op, iK_some, iop, ev, upd, dstUpd, h23, h24, binV, binI, reduceIte, Option.map_some]; rfl) ?_))
  show Wc T _ _ _
  refine Wc_seq (Wc_cond (decide ((j : Int) < ks.length)) (by simp [ev, upd]) (fun hlt => Wc_skip ?_) (fun hge => Wc_exit ?_))
  case refine_2 =>
    refine hend _ (fun t ht => by simp only [upd]; rw [if_neg (by omega)]) (by simp at hge; omega)
  show Wc T _ _ _
  have hjl : j < ks.length := by simpa using hlt
  obtain ⟨k, hkj⟩ : ∃ k, ks[j]? = some k := ⟨_, List.getElem?_eq_getElem hjl⟩
  obtain ⟨b, c, rfl, hb0, ⟨o, z, hg0⟩, hcell⟩ := hki.load hkj
  have hb : b < hp.next := Nat.lt_of_lt_of_le hb0 hk.next
  have hg : hp.get b = some (.cells (ints64 ks) o z) := by rw [hk.get b hb0]; exact hg0
  have e1 : IntKind.i64.wrap ((j : Int) + 1) = ((j + 1 : Nat) : Int) := by rw [wrap64] <;> omega
  have hfold := inner_take hkj (D := depsN l n) 1
  have hDl := depsN_length l n
  have hbb : b ≠ bl := by omega
  refine Wc_seq (Wc_block (Wc_seq (Wc_ops (Wo_run (fun call => by
    simp only [iops_nil, iops_op, iK_some, iop, ev, upd, dstUpd, h22, h24, idx_ok hjl, ptr, Heap.cell, hg, hcell, Option.map_some, reduceIte, Nat.reduceEqDiff]
    rfl) ?_))))
  show Wc T _ _ _
  have last : ∀ (e' : Env) (hp' : Heap) (A' : List Nat), (∀ t, t < 7 → e' t = e t) → (∀ t, 7 < t → t < 25 → e' t = e t) → Kept h0 hp' → hp.next = hp'.next → hp'.get bl = some (.cells (natC A') true 1) → Arr2 l n A' → A'[n]? = some (inner (depsN l n) ((ks.take j).foldl (inner (depsN l n)) 1) k) →
      To (Tb 3 (Tn T (.ops [⟨(some 48), .op (.bin .add (.t 24) (.c (.int .i64 1))), none⟩, ⟨(some 24), .op (.mov (.t 48)), none⟩]) Q)) none ⟨e', hp', some []⟩ := by
    intro e' hp' A' f1 f2 f3 f4 f5 f6 f7
    show Wc T _ _ _
    have g24 : e' 24 = .int .i64 j := by rw [f2 24 (by omega) (by omega)]; exact h24
    refine Wc_ops (Wo_run (fun call => by simp only [iops_nil, iops_op, iK_some, iop, ev, upd, dstUpd, g24, e1, binV, binI, reduceIte, Nat.reduceEqDiff, Option.map_some]; rfl) ?_)
    refine hgo _ hp' A' (fun t ht => ?_) (fun t h1 h2 => ?_) (by simp [upd]) hjl f3 f4 f5 f6 (by rw [hfold]; exact f7)
    · simp only [upd]; rw [if_neg (by omega), if_neg (by omega)]; exact f1 t ht
    · simp only [upd]; rw [if_neg (by omega), if_neg (by omega)]; exact f2 t h1 (by omega)
  have easy : ∀ (e' : Env), (∀ t, t < 7 → e' t = e t) → (∀ t, 7 < t → t < 25 → e' t = e t) → inner (depsN l n) ((ks.take j).foldl (inner (depsN l n)) 1) k = (ks.take j).foldl (inner (depsN l n)) 1 →
      To (Tb 3 (Tn T (.ops [⟨(some 48), .op (.bin .add (.t 24) (.c (.int .i64 1))), none⟩, ⟨(some 24), .op (.mov (.t 48)), none⟩]) Q)) none ⟨e', hp, some []⟩ := fun e' f1 f2 f3 =>
    last e' hp A f1 f2 hk rfl hA ha (by rw [f3]; exact hat)
  by_cases hk0 : 0 ≤ k
  case neg =>
    refine Wc_seq (Wc_ops (Wo_run (fun call => by
      simp only [iops_nil, iops_op, iops_grd, iK_some, iG_true, iG_false, gval_bool, beq_true, beq_false, Bool.not_true, Bool.not_false, iop, ev, upd, dstUpd, h4, binV, binI, hk0, ge_iff_le, decide_false, reduceIte, Nat.reduceEqDiff, Option.map_some, Bool.false_eq_true, beq_iff_eq]
      rfl) ?_))
    show Wc T _ _ _
    refine Wc_cond false (by simp [ev, upd]) (fun h => by cases h) (fun _ => Wc_skip ?_)
    exact easy _ (fun t ht => by simp only [upd]; repeat rw [if_neg (by omega)]) (fun t h1 h2 => by simp only [upd]; repeat rw [if_neg (by omega)]) (by unfold inner; rw [if_neg (by omega)])
  by_cases hkn : k < n
  case neg =>
    refine Wc_seq (Wc_ops (Wo_run (fun call => by
      simp only [iops_nil, iops_op, iops_grd, iK_some, iG_true, iG_false, gval_bool, beq_true, beq_false, Bool.not_true, Bool.not_false, iop, ev, upd, dstUpd, h4, binV, binI, hk0, hkn, ge_iff_le, decide_true, decide_false, reduceIte, Nat.reduceEqDiff, Option.map_some, Bool.false_eq_true, beq_iff_eq]
      rfl) ?_))
    show Wc T _ _ _
    refine Wc_cond false (by simp [ev, upd]) (fun h => by cases h) (fun _ => Wc_skip ?_)
    exact easy _ (fun t ht => by simp only [upd]; repeat rw [if_neg (by omega)]) (fun t h1 h2 => by simp only [upd]; repeat rw [if_neg (by omega)]) (by unfold inner; rw [if_neg (by omega)])
  obtain ⟨kk, rfl⟩ : ∃ kk : Nat, k = kk := ⟨k.toNat, by omega⟩
  have hkn' : kk < n := by omega
  obtain ⟨a, hDa⟩ : ∃ a, (depsN l n)[kk]? = some a := ⟨_, List.getElem?_eq_getElem (by omega)⟩
  have hAk : A[kk]? = some a := by rw [ha.low kk hkn', hDa]
  have hal : a ≤ n := by have := depsN_le l n kk; rw [List.getD_eq_getElem?_getD, hDa] at this; exact this
  have hml : (ks.take j).foldl (inner (depsN l n)) 1 ≤ n + 1 := fold_le (fun k => depsN_le l n k) _ 1 (by omega)
  have hin : inner (depsN l n) ((ks.take j).foldl (inner (depsN l n)) 1) (kk : Int) = max ((ks.take j).foldl (inner (depsN l n)) 1) (a + 1) := by
    unfold inner
    rw [if_pos (by omega)]
    simp [List.getD_eq_getElem?_getD, hDa]
  generalize (ks.take j).foldl (inner (depsN l n)) 1 = m at *
  have hkA : (natC A)[0 + kk * 1]? = some (.int .i64 a) := by rw [Nat.zero_add, Nat.mul_one]; exact natC_get hAk
  have hnA : (natC A)[0 + n * 1]? = some (.int .i64 (m : Int)) := by rw [Nat.zero_add, Nat.mul_one]; exact natC_get hat
  have hset : (natC A).set (0 + n * 1) (.int .i64 ((max m (a + 1) : Nat) : Int)) = natC (A.set n (max m (a + 1))) := by rw [Nat.zero_add, Nat.mul_one]; exact natC_set A n _
  have hlen : 0 + n * 1 + 1 ≤ (natC A).length := by rw [natC_length, ha.len]; omega
  have e3 : IntKind.i64.wrap ((a : Int) + 1) = ((a + 1 : Nat) : Int) := by rw [wrap64] <;> omega
  have hmx : (if ((a + 1 : Nat) : Int) > (m : Int) then ((a + 1 : Nat) : Int) else (m : Int)) = ((max m (a + 1) : Nat) : Int) := by split <;> omega
  refine Wc_seq (Wc_ops (Wo_run (fun call => by
    simp only [iops_nil, iops_op, iops_grd, iK_some, iG_true, iG_false, gval_bool, beq_true, beq_false, Bool.not_true, Bool.not_false, iop, ev, upd, dstUpd, h4, binV, binI, hk0, hkn, ge_iff_le, decide_true, decide_false, reduceIte, Nat.reduceEqDiff, Option.map_some, Bool.false_eq_true, beq_iff_eq]
    rfl) ?_))
  show Wc T _ _ _
  refine Wc_cond true (by simp [ev, upd]) (fun _ => ?_) (fun h => by cases h)
  refine Wc_draw_still (by decide) (Wo_run (fun call => by
    simp only [iops_nil, iops_op, iK_some, iop, ev, upd, dstUpd, h3, h4, slN, idx_ok (show kk < l.length by omega), idx_ok hn, ptr, Heap.cell, Heap.write, cellsOf, put, hA, hkA, hnA, e3, hmx, hset, hlen, binV, binI, List.length_cons, List.length_nil, reduceIte, Nat.reduceEqDiff, Nat.reduceAdd, Option.map_some]
    rfl) ⟨rfl, ?_⟩)
  refine last _ _ (A.set n (max m (a + 1))) (fun t ht => by simp only [upd]; repeat rw [if_neg (by omega)]) (fun t h1 h2 => by simp only [upd]; repeat rw [if_neg (by omega)]) (hk.set hbl _) rfl (set_get' _ _ _) ⟨by simp [ha.len], fun t ht => ?_⟩ ?_
  · rw [List.getElem?_set_ne (by omega)]; exact ha.low t ht
  · rw [List.getElem?_set_self (by rw [ha.len]; omega), hin]

end Go.Idl
end

section
/- The reference's Deep: whole. -/
namespace Go.Idl
set_option linter.unusedVariables false
set_option linter.unusedSimpArgs false

theorem Arr2.done {l : List Nd} {n : Nat} (hn : n < l.length) {A : List Nat} (ha : Arr2 l n A) (hat : A[n]? = some (dep (depsN l n) (kidsOf l n))) : Arr2 l (n + 1) A := by
  have hD := depsN_length l n
  refine ⟨ha.len, fun k hk => ?_⟩
  simp only [depsN]
  by_cases e : k = n
  · subst e
    rw [hat, List.getElem?_append_right (by omega), hD, Nat.sub_self]; rfl
  · rw [List.getElem?_append_left (by omega)]
    exact ha.low k (by omega)

theorem deep14_node {T : Tbl} {l : List Nd} (hN : l.length ≤ 3000) (hK : ∀ x ∈ l, x.kids.length ≤ 3000) {h0 : Heap} {bl : Nat} {v : Value} (hbl : h0.next ≤ bl) (hn : nodesAt h0 v l)
    {e : Env} {hp : Heap} {n : Nat} (hnl : n ≤ l.length) (h3 : e 3 = slN bl l.length) (h11 : e 11 = v) (h12 : e 12 = .int .i64 l.length) (h13 : e 13 = .int .i64 n) (h0' : e 0 = v)
    (hk : Kept h0 hp) (hbn : bl < hp.next) {A : List Nat} (hA : hp.get bl = some (.cells (natC A) true 1)) (ha : Arr2 l n A) {Q : Ex → St → Prop}
    (hgo : n < l.length → ∀ (e' : Env) (hp' : Heap) (A' : List Nat), e' 3 = e 3 → e' 11 = v → e' 12 = e 12 → e' 13 = .int .i64 ((n + 1 : Nat) : Int) → e' 0 = v → Kept h0 hp' → bl < hp'.next → hp'.get bl = some (.cells (natC A') true 1) → Arr2 l (n + 1) A' → Q .normal ⟨e', hp', some []⟩)
    (hend : n = l.length → ∀ e' : Env, e' 3 = e 3 → e' 0 = v → Q (.brk 0) ⟨e', hp, some []⟩) : Wc T C14L1 ⟨e, hp, some []⟩ Q := by
  rw [C14L1]
  refine Wc_seq (Wc_ops (Wo_run (fun call => by simp only [iops_nil, iops_op, iK_some, iop, ev, upd, dstUpd, h12, h13, binV, binI, reduceIte, Option.map_some]; rfl) ?_))
  show Wc T _ _ _
  refine Wc_seq (Wc_cond (decide ((n : Int) < l.length)) (by simp [ev, upd]) (fun hlt => Wc_skip ?_) (fun hge => Wc_exit ?_))
  case refine_2 => exact hend (by simp at hge; omega) _ (by simp [upd]) (by simp only [upd, Nat.reduceEqDiff, reduceIte]; exact h0')
  show Wc T _ _ _
  have hil : n < l.length := by simpa using hlt
  obtain ⟨x, hx⟩ : ∃ x, l[n]? = some x := ⟨_, List.getElem?_eq_getElem hil⟩
  have hxm := List.mem_of_getElem? hx
  obtain ⟨b, c, rfl, hb, ⟨o, z, hg⟩, hcells⟩ := (hn.keep hk).load hx
  obtain ⟨ka, kc, hkv⟩ := (hn.2 x hxm).len
  have hki := hn.2 x hxm
  have hkl := hK x hxm
  have e1 : IntKind.i64.wrap ((n : Int) + 1) = ((n + 1 : Nat) : Int) := by rw [wrap64] <;> omega
  have hkids : kidsOf l n = x.kids := by simp [kidsOf, hx]
  have hbb : bl ≠ hp.next := by omega
  refine Wc_seq (Wc_block (Wc_seq (Wc_ops (Wo_run (fun call => by
    simp only [iops_nil, iops_op, iK_some, iop, ev, upd, dstUpd, h11, h13, idx_ok hil, ptr, hcells, Option.map_some, cellsOf, Heap.write, Heap.new, Heap.set, put, List.length_cons, List.length_nil, reduceIte, Nat.reduceEqDiff, Nat.reduceAdd, Nat.reduceLeDiff, List.set_cons_zero, List.set_cons_succ]
    rfl) ?_))))
  show Wc T _ _ _
  have hset : (natC A).set (0 + n * 1) (.int .i64 1) = natC (A.set n 1) := by rw [Nat.zero_add, Nat.mul_one]; exact natC_set A n 1
  have hlen : 0 + n * 1 + 1 ≤ (natC A).length := by rw [natC_length, ha.len]; omega
  refine Wc_seq (Wc_ops (Wo_run (fun call => by
    simp only [iops_nil, iops_op, iK_some, iop, ev, upd, dstUpd, h3, slN, idx_ok hil, ptr, hA, hbb, hset, hlen, Option.map_some, cellsOf, Heap.write, Heap.set, put, List.length_cons, List.length_nil, reduceIte, Nat.reduceEqDiff, Nat.reduceAdd]
    rfl) ?_))
  show Wc T _ _ _
  have hbb' : hp.next ≠ bl := Ne.symm hbb
  refine Wc_seq (Wc_ops (Wo_run (fun call => by
    simp only [iops_nil, iops_op, iK_some, iop, ev, upd, dstUpd, ptr, hkv, hbb', Option.map_some, Heap.cell, reduceIte, Nat.reduceEqDiff, Nat.reduceAdd, Nat.zero_add, List.getElem?_cons_zero, List.getElem?_cons_succ]
    rfl) ?_))
  show Wc T _ _ _
  have hkk := ((hk.new (.cells [Value.int .i64 0, .string ⟨#[]⟩, .slice none 0 0, .int .i64 0] true 0)).set hk.next (.cells [Value.int .i64 x.kind, .string x.text, .slice ka x.kids.length kc, .int .i64 x.pos] true 0)).set hbl (.cells (natC (A.set n 1)) true 1)
  refine Wc_block (Wc_loop (fun s => s.d = some [] ∧ Kept h0 s.h ∧ bl < s.h.next ∧ s.e 0 = .slice (some ⟨b, 0, none⟩) l.length c ∧ s.e 3 = e 3 ∧ s.e 4 = .int .i64 n ∧ s.e 11 = .slice (some ⟨b, 0, none⟩) l.length c ∧ s.e 12 = e 12 ∧ s.e 13 = .int .i64 n ∧ s.e 22 = x.kv ∧ s.e 23 = .int .i64 x.kids.length ∧
      ∃ j : Nat, j ≤ x.kids.length ∧ s.e 24 = .int .i64 j ∧ ∃ A, s.h.get bl = some (.cells (natC A) true 1) ∧ Arr2 l n A ∧ A[n]? = some ((x.kids.take j).foldl (inner (depsN l n)) 1))
    (fun s => match s.e 24 with | .int _ i => (x.kids.length - i).toNat | _ => 0) ?_ ?_)
  · refine ⟨rfl, hkk, by simp only; omega, by simp only [upd, Nat.reduceEqDiff, reduceIte]; exact h0', by simp only [upd, Nat.reduceEqDiff, reduceIte], by simp only [upd, Nat.reduceEqDiff, reduceIte],
      by simp only [upd, Nat.reduceEqDiff, reduceIte]; exact h11, by simp only [upd, Nat.reduceEqDiff, reduceIte], by simp only [upd, Nat.reduceEqDiff, reduceIte]; exact h13, by simp only [upd, Nat.reduceEqDiff, reduceIte, hkv], by simp only [upd, Nat.reduceEqDiff, reduceIte],
      0, Nat.zero_le _, by simp only [upd, Nat.reduceEqDiff, reduceIte]; rfl, A.set n 1, by simp only [reduceIte], ⟨by simp [ha.len], fun k hk => ?_⟩, ?_⟩
    · rw [List.getElem?_set_ne (by omega)]; exact ha.low k hk
    · rw [List.getElem?_set_self (by rw [ha.len]; omega)]; rfl
  · rintro ⟨e2, hp2, d2⟩ ⟨hd, gk, gbn, g0, g3, g4, g11, g12, g13, g22, g23, j, hj, g24, A2, gA, ga, gat⟩
    simp only at hd gk gbn g0 g3 g4 g11 g12 g13 g22 g23 g24 gA
    subst hd
    refine deep14_kid hil hN hbl hki (g3.trans h3) g4 g22 g23 hj g24 (by omega) gk gbn gA ga gat ?_ ?_
    · intro e' hp' A' f1 f2 f3 f4 f5 f6 f7 f8 f9
      refine ⟨⟨rfl, f5, by rw [← f6]; exact gbn, (f1 0 (by omega)).trans g0, (f1 3 (by omega)).trans g3, (f1 4 (by omega)).trans g4, (f2 11 (by omega) (by omega)).trans g11, (f2 12 (by omega) (by omega)).trans g12,
        (f2 13 (by omega) (by omega)).trans g13, (f2 22 (by omega) (by omega)).trans g22, (f2 23 (by omega) (by omega)).trans g23, j + 1, f4, f3, A', f7, f8, f9⟩, ?_⟩
      simp only [f3, g24]
      omega
    · intro e' f1 f2
      subst f2
      show Wc T _ _ _
      rw [List.take_length] at gat
      have hdep : (x.kids.foldl (inner (depsN l n)) 1) = dep (depsN l n) (kidsOf l n) := by rw [hkids]; rfl
      rw [hdep] at gat
      have k13 : e' 13 = .int .i64 n := by rw [f1 13 (by omega), g13]
      refine Wc_ops (Wo_run (fun call => by simp only [iops_nil, iops_op, iK_some, iop, ev, upd, dstUpd, k13, e1, binV, binI, reduceIte, Nat.reduceEqDiff, Option.map_some]; rfl) ?_)
      refine hgo hil _ _ _ ?_ ?_ ?_ ?_ ?_ gk gbn gA (ga.done hil gat)
      · simp only [upd, Nat.reduceEqDiff, reduceIte]; rw [f1 3 (by omega), g3]
      · simp only [upd, Nat.reduceEqDiff, reduceIte]; rw [f1 11 (by omega), g11]
      · simp only [upd, Nat.reduceEqDiff, reduceIte]; rw [f1 12 (by omega), g12]
      · simp only [upd, Nat.reduceEqDiff, reduceIte]
      · simp only [upd, Nat.reduceEqDiff, reduceIte]; rw [f1 0 (by omega), g0]

theorem deep14 {T : Tbl} (hT : T.fn 14 = some C14) {h : Heap} {v : Value} {l : List Nd} (hn : nodesAt h v l) (hN : l.length ≤ 3000) (hK : ∀ x ∈ l, x.kids.length ≤ 3000) :
    Wk T (.fn 14) [v] h (fun o h' => Kept h h' ∧ o = .ret (.int .i64 (deepOf l))) := by
  obtain ⟨va, vc, hv⟩ := hn.len
  refine Wk_fn hT (by simp [C14]) ?_
  simp only [C14]
  refine Wc_seq (Wc_ops (Wo_run (fun call => by simp only [iops_nil, iops_op, iK_some, iop, ev, upd, dstUpd, reduceIte]; rfl) ?_))
  show Wc T _ _ _
  have hsz : (0 : Int) ≤ (l.length : Int) ∧ (l.length : Int) ≤ (l.length : Int) ∧ (l.length : Int) * ((8 : Nat) : Int) ≤ 140737488355328 := by omega
  refine Wc_seq (Wc_ops (Wo_run (fun call => by
    simp only [iops_nil, iops_op, iK_some, iop, ev, upd, dstUpd, args0, hv, hsz, and_self, binV, binI, reduceIte, Nat.reduceEqDiff, Option.map_some, List.getD_cons_zero, Int.toNat_natCast, natC_zero]
    rfl) ?_))
  show Wc T _ _ _
  refine Wc_seq (Wc_seq (Wc_ops (Wo_run (fun call => by simp only [iops_nil, iops_op, iK_some, iop, ev, upd, dstUpd, args0, hv, reduceIte, Nat.reduceEqDiff, List.getD_cons_zero]; rfl) ?_)))
  show Wc T _ _ _
  have hk0 : Kept h (h.new (.cells (natC (List.replicate l.length 0)) true 1)) := (Kept.refl h).new _
  refine Wc_block (Wc_loop (fun s => s.d = some [] ∧ Kept h s.h ∧ h.next < s.h.next ∧ s.e 0 = v ∧ s.e 3 = slN h.next l.length ∧ s.e 11 = v ∧ s.e 12 = .int .i64 l.length ∧ ∃ n : Nat, n ≤ l.length ∧ s.e 13 = .int .i64 n ∧ ∃ A, s.h.get h.next = some (.cells (natC A) true 1) ∧ Arr2 l n A)
    (fun s => match s.e 13 with | .int _ i => (l.length - i).toNat | _ => 0) ?_ ?_)
  · refine ⟨rfl, hk0, Nat.lt_succ_self _, by simp only [upd, Nat.reduceEqDiff, reduceIte, args0, List.getD_cons_zero, hv], by simp only [upd, Nat.reduceEqDiff, reduceIte, slN], by simp only [upd, Nat.reduceEqDiff, reduceIte, hv], by simp only [upd, Nat.reduceEqDiff, reduceIte],
      0, Nat.zero_le _, by simp only [upd, Nat.reduceEqDiff, reduceIte]; rfl, List.replicate l.length 0, ?_, ⟨by simp, fun k hk => by omega⟩⟩
    simp [Heap.new]
  · rintro ⟨e, hp, d⟩ ⟨hd, gk, gbn, g0, g3, g11, g12, n, hnl, g13, A, gA, ga⟩
    simp only at hd gk gbn g0 g3 g11 g12 g13 gA
    subst hd
    refine deep14_node hN hK (Nat.le_refl _) hn hnl g3 g11 g12 g13 g0 gk gbn gA ga ?_ ?_
    · intro hlt e' hp' A' f3 f11 f12 f13 f0 fk fbn fA fa
      refine ⟨⟨rfl, fk, fbn, f0, f3.trans g3, f11, f12.trans g12, n + 1, hlt, f13, A', fA, fa⟩, ?_⟩
      simp only [f13, g13]
      omega
    · intro hnn e' f3 f0
      subst hnn
      show Wc T _ _ _
      have k3 : e' 3 = slN h.next l.length := f3.trans g3
      refine Wc_seq (Wc_seq (Wc_ops (Wo_run (fun call => by
        simp only [iops_nil, iops_op, iK_some, iop, ev, upd, dstUpd, f0, hv, binV, binI, reduceIte, Nat.reduceEqDiff, Option.map_some]
        rfl) ?_)))
      show Wc T _ _ _
      by_cases hz : l.length = 0
      · refine Wc_cond true (by simp [ev, upd, hz]) (fun _ => ?_) (fun h => by cases h)
        refine Wc_seq (Wc_ops (Wo_run (fun call => by simp only [iops_nil, iops_op, iK_some, iop, ev, upd, dstUpd, reduceIte]; rfl) ?_))
        show Wc T _ _ _
        refine Wc_ret ⟨.inr rfl, rfl, [.int .i64 (deepOf l)], ?_, gk, rfl⟩
        have : deepOf l = 0 := by unfold deepOf; rw [hz]; rfl
        rw [this]
        simp only [C14, resAll, resV, upd, Nat.reduceEqDiff, reduceIte]
        rfl
      · have hz' : ((l.length : Int) == 0) = false := beq_eq_false_iff_ne.2 (by omega)
        refine Wc_cond false (by simp only [ev, upd, Nat.reduceEqDiff, reduceIte, hz']) (fun h => by cases h) (fun _ => Wc_skip ?_)
        show Wc T _ _ _
        have hsub : IntKind.i64.wrap ((l.length : Int) - 1) = ((l.length - 1 : Nat) : Int) := by rw [wrap64] <;> omega
        have hAt : A[l.length - 1]? = some (deepOf l) := by
          rw [ga.low _ (by omega)]
          unfold deepOf
          rw [List.getD_eq_getElem?_getD, List.getElem?_eq_getElem (by rw [depsN_length]; omega)]
          rfl
        have hg : (natC A)[0 + (l.length - 1) * 1]? = some (.int .i64 (deepOf l)) := by rw [Nat.zero_add, Nat.mul_one]; exact natC_get hAt
        refine Wc_seq (Wc_ops (Wo_run (fun call => by
          simp only [iops_nil, iops_op, iK_some, iop, ev, upd, dstUpd, k3, f0, hv, slN, hsub, idx_ok (show l.length - 1 < l.length by omega), ptr, Heap.cell, gA, hg, binV, binI, reduceIte, Nat.reduceEqDiff, Option.map_some]
          rfl) ?_))
        show Wc T _ _ _
        refine Wc_ret ⟨.inr rfl, rfl, [.int .i64 (deepOf l)], ?_, gk, rfl⟩
        simp only [C14, resAll, resV, upd, Nat.reduceEqDiff, reduceIte]

end Go.Idl
end

section
/- Functions as ideal code. (Printed by wip/tools/Print.lean) -/
namespace Go.Idl
-- swath/lex.Name
def C29 : IFn := ⟨23, (.seq (.ops [⟨(some 2), .op (.mov (.c (.bool false))), none⟩])
  (.seq (.ops [⟨(some 4), .op (.mov (.t 0)), none⟩,
    ⟨(some 5), .call 42 [], none⟩,
    ⟨(some 6), .op (.build [(.string ⟨#[]⟩), (.int .i64 0), (.int .i64 0), (.int .i64 0), (.int .i64 0), (.int .i64 0), (.int .i64 0), (.int .i64 0), (.int .i64 0), (.int .i64 0), (.int .i64 0), (.int .i64 0), (.int .i64 0), (.int .i64 0), (.int .i64 0), (.int .i64 0), (.int .i64 0), (.int .i64 0), (.int .i64 0), (.int .i64 0), (.int .i64 0), (.int .i64 0), (.int .i64 0), (.int .i64 0), (.int .i64 0), (.int .i64 0), (.int .i64 0), (.int .i64 0), (.int .i64 0), (.int .i64 0), (.int .i64 0), (.int .i64 0), (.int .i64 0), (.int .i64 0), (.int .i64 0), (.int .i64 0), (.int .i64 0), (.int .i64 0), (.int .i64 0), (.int .i64 0), (.int .i64 0), (.int .i64 0), (.int .i64 0), (.int .i64 0), (.int .i64 0), (.int .i64 0), (.int .i64 0), (.int .i64 0), (.int .i64 0), (.int .i64 0), (.int .i64 0), (.int .i64 0), (.int .i64 0), (.int .i64 0), (.int .i64 0), (.int .i64 0), (.int .i64 0), (.int .i64 0), (.int .i64 0), (.int .i64 0), (.int .i64 0), (.int .i64 0), (.int .i64 0), (.int .i64 0), (.int .i64 0), (.int .i64 0), (.int .i64 0), (.int .i64 0), (.int .i64 0), (.int .i64 0), (.int .i64 0), (.int .i64 0), (.int .i64 0), (.int .i64 0), (.int .i64 0), (.int .i64 0), (.int .i64 0), (.int .i64 0), (.int .i64 0), (.int .i64 0), (.int .i64 0), (.int .i64 0), (.int .i64 0), (.int .i64 0), (.int .i64 0), (.int .i64 0), (.int .i64 0), (.int .i64 0), (.int .i64 0), (.int .i64 0), (.int .i64 0), (.int .i64 0), (.int .i64 0), (.int .i64 0), (.int .i64 0), (.int .i64 0), (.int .i64 0), (.int .i64 0), (.int .i64 0), (.int .i64 0), (.int .i64 0), (.int .i64 0), (.int .i64 0), (.int .i64 0), (.int .i64 0), (.int .i64 0), (.int .i64 0), (.int .i64 0), (.int .i64 0), (.int .i64 0), (.int .i64 0), (.int .i64 0), (.int .i64 0), (.int .i64 0), (.int .i64 0), (.int .i64 0), (.int .i64 0), (.int .i64 0), (.int .i64 0), (.int .i64 0), (.int .i64 0), (.int .i64 0), (.int .i64 0), (.int .i64 0), (.int .i64 0), (.int .i64 0), (.int .i64 0), (.int .i64 0), (.int .i64 0), (.int .i64 0), (.int .i64 0), (.int .i64 0), (.int .i64 0), (.int .i64 0), (.int .i64 0), (.int .i64 0), (.int .i64 0), (.int .i64 0), (.int .i64 0), (.int .i64 0), (.int .i64 0), (.int .i64 0), (.int .i64 0), (.int .i64 0), (.int .i64 0), (.int .i64 0), (.int .i64 0), (.int .i64 0), (.int .i64 0), (.int .i64 0), (.int .i64 0), (.int .i64 0), (.int .i64 0), (.int .i64 0), (.int .i64 0), (.int .i64 0), (.int .i64 0), (.int .i64 0), (.int .i64 0), (.int .i64 0), (.int .i64 0), (.int .i64 0), (.int .i64 0), (.int .i64 0), (.int .i64 0), (.int .i64 0), (.int .i64 0), (.int .i64 0), (.int .i64 0), (.int .i64 0), (.int .i64 0), (.int .i64 0), (.int .i64 0), (.int .i64 0), (.int .i64 0), (.int .i64 0), (.int .i64 0), (.int .i64 0), (.int .i64 0), (.int .i64 0), (.int .i64 0), (.int .i64 0), (.int .i64 0), (.int .i64 0), (.int .i64 0), (.int .i64 0), (.int .i64 0), (.int .i64 0), (.int .i64 0), (.int .i64 0), (.int .i64 0), (.int .i64 0), (.int .i64 0), (.int .i64 0), (.int .i64 0), (.int .i64 0), (.int .i64 0), (.int .i64 0), (.int .i64 0), (.int .i64 0), (.int .i64 0), (.int .i64 0), (.int .i64 0), (.int .i64 0), (.int .i64 0), (.int .i64 0), (.int .i64 0), (.int .i64 0), (.int .i64 0), (.int .i64 0), (.int .i64 0), (.int .i64 0), (.int .i64 0), (.int .i64 0), (.int .i64 0), (.int .i64 0), (.int .i64 0), (.int .i64 0), (.int .i64 0), (.int .i64 0), (.int .i64 0), (.int .i64 0), (.int .i64 0), (.int .i64 0), (.int .i64 0), (.int .i64 0), (.int .i64 0), (.int .i64 0), (.int .i64 0), (.int .i64 0), (.int .i64 0), (.int .i64 0), (.int .i64 0), (.int .i64 0), (.int .i64 0), (.int .i64 0), (.int .i64 0), (.int .i64 0), (.int .i64 0), (.int .i64 0), (.int .i64 0), (.int .i64 0), (.int .i64 0), (.int .i64 0), (.int .i64 0), (.int .i64 0), (.int .i64 0), (.int .i64 0), (.int .i64 0), (.int .i64 0), (.int .i64 0), (.int .i64 0), (.int .i64 0), (.int .i64 0), (.int .i64 0), (.int .i64 0), (.int .i64 0), (.int .i64 0)] [(0, 1, (.t 4)), (2, 256, (.t 5))]), none⟩,
    ⟨(some 7), .op (.box (.t 6)), none⟩,
    ⟨(some 3), .op (.mov (.t 7)), none⟩])
  (.seq (.ops [⟨(some 8), .op (.mov (.t 3)), none⟩,
    ⟨(some 9), .call 43 [(.t 8), (.c (.int .i64 0))], none⟩,
    ⟨(some 10), .op (.bin .eql (.t 9) (.c (.int .i64 2))), none⟩,
    ⟨(some 11), .op (.mov (.t 10)), none⟩,
    ⟨(some 12), .op (.mov (.t 3)), (some (11, true))⟩,
    ⟨(some 13), .call 44 [(.t 12)], (some (11, true))⟩,
    ⟨(some 14), .op (.mov (.t 0)), (some (11, true))⟩,
    ⟨(some 15), .op (.len .str (.t 14)), (some (11, true))⟩,
    ⟨(some 16), .op (.bin .eql (.t 13) (.t 15)), (some (11, true))⟩,
    ⟨(some 17), .op (.pick (.t 11) (.t 16) (.c (.bool false))), none⟩,
    ⟨(some 18), .op (.mov (.t 17)), none⟩,
    ⟨(some 19), .op (.mov (.t 0)), (some (18, true))⟩,
    ⟨(some 20), .call 45 [(.t 19)], (some (18, true))⟩,
    ⟨(some 21), .op (.un .not (.t 20)), (some (18, true))⟩,
    ⟨(some 22), .op (.pick (.t 18) (.t 21) (.c (.bool false))), none⟩,
    ⟨(some 2), .op (.mov (.t 22)), none⟩])
  .ret))), [.tmp 2]⟩

-- swath/lex.Number
def C30L0 : IC :=
  (.seq (.ops [⟨(some 48), .op (.bin .lss (.t 47) (.t 46)), none⟩])
  (.seq (.cond (.t 48)
    .skip
    (.exit 0))
  (.seq (.block 1
    (.seq (.ops [⟨(some 49), .op (.mov (.t 47)), none⟩,
      ⟨(some 6), .op (.mov (.t 49)), none⟩])
    (.seq (.ops [⟨(some 51), .op (.mov (.t 0)), none⟩,
      ⟨(some 52), .op (.mov (.t 6)), none⟩,
      ⟨(some 53), .op (.sidx (.t 51) (.t 52)), none⟩,
      ⟨(some 54), .op (.mov (.t 4)), none⟩,
      ⟨(some 55), .call 46 [(.t 53), (.t 54)], none⟩,
      ⟨(some 50), .op (.mov (.t 55)), none⟩,
      ⟨(some 56), .op (.extract (.t 50) 0), none⟩,
      ⟨(some 57), .op (.extract (.t 50) 1), none⟩,
      ⟨(some 7), .op (.mov (.t 56)), none⟩,
      ⟨(some 8), .op (.mov (.t 57)), none⟩])
    (.seq (.seq (.ops [⟨(some 58), .op (.mov (.t 8)), none⟩,
      ⟨(some 59), .op (.un .not (.t 58)), none⟩,
      ⟨(some 60), .op (.mov (.t 59)), none⟩,
      ⟨(some 61), .op (.mov (.t 5)), (some (60, false))⟩,
      ⟨(some 62), .op (.mov (.t 7)), (some (60, false))⟩,
      ⟨(some 63), .op (.bin .sub (.c (.int .u64 9223372036854775807)) (.t 62)), (some (60, false))⟩,
      ⟨(some 64), .op (.mov (.t 4)), (some (60, false))⟩,
      ⟨(some 65), .op (.bin .quo (.t 63) (.t 64)), (some (60, false))⟩,
      ⟨(some 66), .op (.bin .gtr (.t 61) (.t 65)), (some (60, false))⟩,
      ⟨(some 67), .op (.pick (.t 60) (.c (.bool true)) (.t 66)), none⟩])
    (.cond (.t 67)
      (.seq (.ops [⟨(some 2), .op (.mov (.c (.int .i64 0))), none⟩,
        ⟨(some 3), .op (.mov (.c (.bool false))), none⟩])
      .ret)
      .skip))
    (.ops [⟨(some 68), .op (.mov (.t 5)), none⟩,
      ⟨(some 69), .op (.mov (.t 4)), none⟩,
      ⟨(some 70), .op (.bin .mul (.t 68) (.t 69)), none⟩,
      ⟨(some 71), .op (.mov (.t 7)), none⟩,
      ⟨(some 72), .op (.bin .add (.t 70) (.t 71)), none⟩,
      ⟨(some 5), .op (.mov (.t 72)), none⟩])))))
  (.ops [⟨(some 73), .op (.bin .add (.t 47) (.c (.int .i64 1))), none⟩,
    ⟨(some 47), .op (.mov (.t 73)), none⟩]))))

def C30 : IFn := ⟨78, (.seq (.ops [⟨(some 2), .op (.mov (.c (.int .i64 0))), none⟩,
    ⟨(some 3), .op (.mov (.c (.bool false))), none⟩])
  (.seq (.seq (.ops [⟨(some 9), .op (.mov (.t 0)), none⟩,
    ⟨(some 10), .op (.len .str (.t 9)), none⟩,
    ⟨(some 11), .op (.bin .eql (.t 10) (.c (.int .i64 3))), none⟩,
    ⟨(some 12), .op (.mov (.t 11)), none⟩,
    ⟨(some 13), .op (.mov (.t 0)), (some (12, true))⟩,
    ⟨(some 14), .op (.sidx (.t 13) (.c (.int .i64 0))), (some (12, true))⟩,
    ⟨(some 15), .op (.bin .eql (.t 14) (.c (.int .u8 39))), (some (12, true))⟩,
    ⟨(some 16), .op (.pick (.t 12) (.t 15) (.c (.bool false))), none⟩,
    ⟨(some 17), .op (.mov (.t 16)), none⟩,
    ⟨(some 18), .op (.mov (.t 0)), (some (17, true))⟩,
    ⟨(some 19), .op (.sidx (.t 18) (.c (.int .i64 2))), (some (17, true))⟩,
    ⟨(some 20), .op (.bin .eql (.t 19) (.c (.int .u8 39))), (some (17, true))⟩,
    ⟨(some 21), .op (.pick (.t 17) (.t 20) (.c (.bool false))), none⟩,
    ⟨(some 22), .op (.mov (.t 21)), none⟩,
    ⟨(some 23), .op (.mov (.t 0)), (some (22, true))⟩,
    ⟨(some 24), .op (.sidx (.t 23) (.c (.int .i64 1))), (some (22, true))⟩,
    ⟨(some 25), .op (.bin .geq (.t 24) (.c (.int .u8 32))), (some (22, true))⟩,
    ⟨(some 26), .op (.pick (.t 22) (.t 25) (.c (.bool false))), none⟩,
    ⟨(some 27), .op (.mov (.t 26)), none⟩,
    ⟨(some 28), .op (.mov (.t 0)), (some (27, true))⟩,
    ⟨(some 29), .op (.sidx (.t 28) (.c (.int .i64 1))), (some (27, true))⟩,
    ⟨(some 30), .op (.bin .leq (.t 29) (.c (.int .u8 126))), (some (27, true))⟩,
    ⟨(some 31), .op (.pick (.t 27) (.t 30) (.c (.bool false))), none⟩])
  (.cond (.t 31)
    (.seq (.ops [⟨(some 32), .op (.mov (.t 0)), none⟩,
      ⟨(some 33), .op (.sidx (.t 32) (.c (.int .i64 1))), none⟩,
      ⟨(some 34), .op (.conv .i64 (.t 33)), none⟩,
      ⟨(some 2), .op (.mov (.t 34)), none⟩,
      ⟨(some 3), .op (.mov (.c (.bool true))), none⟩])
    .ret)
    .skip))
  (.seq (.ops [⟨(some 4), .op (.mov (.c (.int .u64 10))), none⟩])
  (.seq (.seq (.ops [⟨(some 35), .op (.mov (.t 0)), none⟩,
    ⟨(some 36), .op (.len .str (.t 35)), none⟩,
    ⟨(some 37), .op (.bin .gtr (.t 36) (.c (.int .i64 2))), none⟩,
    ⟨(some 38), .op (.mov (.t 37)), none⟩,
    ⟨(some 39), .op (.mov (.t 0)), (some (38, true))⟩,
    ⟨(some 40), .op (.sub .str (.t 39) none (some (.c (.int .i64 2))) none), (some (38, true))⟩,
    ⟨(some 41), .op (.bin .eql (.t 40) (.c (.string ⟨#[48, 120]⟩))), (some (38, true))⟩,
    ⟨(some 42), .op (.pick (.t 38) (.t 41) (.c (.bool false))), none⟩])
  (.cond (.t 42)
    (.draw [⟨(some 43), .op (.mov (.t 0)), none⟩,
      ⟨(some 44), .op (.sub .str (.t 43) (some (.c (.int .i64 2))) none none), none⟩,
      ⟨(some 4), .op (.mov (.c (.int .u64 16))), none⟩,
      ⟨(some 0), .op (.mov (.t 44)), none⟩] [[], [0], [], [2, 1, 0]])
    .skip))
  (.seq (.ops [⟨(some 5), .op (.mov (.c (.int .u64 0))), none⟩])
  (.seq (.seq (.ops [⟨(some 45), .op (.mov (.t 0)), none⟩,
    ⟨(some 46), .op (.len .str (.t 45)), none⟩,
    ⟨(some 47), .op (.mov (.c (.int .i64 0))), none⟩])
  (.block 0
    (.loop C30L0)))
  (.seq (.ops [⟨(some 74), .op (.mov (.t 5)), none⟩,
    ⟨(some 75), .op (.conv .i64 (.t 74)), none⟩,
    ⟨(some 76), .op (.mov (.t 0)), none⟩,
    ⟨(some 77), .op (.bin .neq (.t 76) (.c (.string ⟨#[]⟩))), none⟩,
    ⟨(some 2), .op (.mov (.t 75)), none⟩,
    ⟨(some 3), .op (.mov (.t 77)), none⟩])
  .ret))))))), [.tmp 2, .tmp 3]⟩

-- swath/swathref04.Name
def C35L0 : IC :=
  (.seq (.seq (.ops [⟨(some 4), .op (.mov (.t 3)), none⟩,
    ⟨(some 5), .op (.mov (.t 0)), none⟩,
    ⟨(some 6), .op (.len .str (.t 5)), none⟩,
    ⟨(some 7), .op (.bin .lss (.t 4) (.t 6)), none⟩])
  (.cond (.t 7)
    .skip
    (.exit 0)))
  (.seq (.block 1
    (.seq (.ops [⟨(some 10), .op (.mov (.t 0)), none⟩,
      ⟨(some 11), .op (.mov (.t 3)), none⟩,
      ⟨(some 12), .op (.sidx (.t 10) (.t 11)), none⟩,
      ⟨(some 13), .call 48 [(.t 12)], none⟩,
      ⟨(some 14), .op (.un .not (.t 13)), none⟩,
      ⟨(some 15), .op (.mov (.t 14)), none⟩,
      ⟨(some 16), .op (.mov (.t 3)), (some (15, true))⟩,
      ⟨(some 17), .op (.bin .eql (.t 16) (.c (.int .i64 0))), (some (15, true))⟩,
      ⟨(some 18), .op (.mov (.t 17)), (some (15, true))⟩,
      ⟨(some 19), .op (.mov (.t 0)), (some (18, false))⟩,
      ⟨(some 20), .op (.mov (.t 3)), (some (18, false))⟩,
      ⟨(some 21), .op (.sidx (.t 19) (.t 20)), (some (18, false))⟩,
      ⟨(some 22), .call 49 [(.t 21)], (some (18, false))⟩,
      ⟨(some 23), .op (.un .not (.t 22)), (some (18, false))⟩,
      ⟨(some 24), .op (.pick (.t 18) (.c (.bool true)) (.t 23)), (some (15, true))⟩,
      ⟨(some 25), .op (.pick (.t 15) (.t 24) (.c (.bool false))), none⟩])
    (.cond (.t 25)
      (.seq (.ops [⟨(some 2), .op (.mov (.c (.bool false))), none⟩])
      .ret)
      .skip)))
  (.ops [⟨(some 8), .op (.mov (.t 3)), none⟩,
    ⟨(some 9), .op (.bin .add (.t 8) (.c (.int .i64 1))), none⟩,
    ⟨(some 3), .op (.mov (.t 9)), none⟩])))

def C35 : IFn := ⟨33, (.seq (.ops [⟨(some 2), .op (.mov (.c (.bool false))), none⟩])
  (.seq (.seq (.ops [⟨(some 3), .op (.mov (.c (.int .i64 0))), none⟩])
  (.block 0
    (.loop C35L0)))
  (.seq (.ops [⟨(some 26), .op (.mov (.t 0)), none⟩,
    ⟨(some 27), .op (.bin .neq (.t 26) (.c (.string ⟨#[]⟩))), none⟩,
    ⟨(some 28), .op (.mov (.t 27)), none⟩,
    ⟨(some 29), .op (.mov (.t 0)), (some (28, true))⟩,
    ⟨(some 30), .call 50 [(.t 29)], (some (28, true))⟩,
    ⟨(some 31), .op (.un .not (.t 30)), (some (28, true))⟩,
    ⟨(some 32), .op (.pick (.t 28) (.t 31) (.c (.bool false))), none⟩,
    ⟨(some 2), .op (.mov (.t 32)), none⟩])
  .ret))), [.tmp 2]⟩

-- swath/swathref04.Number
def C36 : IFn := ⟨54, (.seq (.ops [⟨(some 2), .op (.mov (.c (.int .i64 0))), none⟩,
    ⟨(some 3), .op (.mov (.c (.bool false))), none⟩])
  (.seq (.seq (.ops [⟨(some 4), .op (.mov (.t 0)), none⟩,
    ⟨(some 5), .op (.bin .neq (.t 4) (.c (.string ⟨#[]⟩))), none⟩,
    ⟨(some 6), .op (.mov (.t 5)), none⟩,
    ⟨(some 7), .op (.mov (.t 0)), (some (6, true))⟩,
    ⟨(some 8), .op (.sidx (.t 7) (.c (.int .i64 0))), (some (6, true))⟩,
    ⟨(some 9), .op (.bin .eql (.t 8) (.c (.int .u8 39))), (some (6, true))⟩,
    ⟨(some 10), .op (.pick (.t 6) (.t 9) (.c (.bool false))), none⟩])
  (.cond (.t 10)
    (.seq (.seq (.ops [⟨(some 11), .op (.mov (.t 0)), none⟩,
      ⟨(some 12), .op (.len .str (.t 11)), none⟩,
      ⟨(some 13), .op (.bin .neq (.t 12) (.c (.int .i64 3))), none⟩,
      ⟨(some 14), .op (.mov (.t 13)), none⟩,
      ⟨(some 15), .op (.mov (.t 0)), (some (14, false))⟩,
      ⟨(some 16), .op (.sidx (.t 15) (.c (.int .i64 2))), (some (14, false))⟩,
      ⟨(some 17), .op (.bin .neq (.t 16) (.c (.int .u8 39))), (some (14, false))⟩,
      ⟨(some 18), .op (.pick (.t 14) (.c (.bool true)) (.t 17)), none⟩,
      ⟨(some 19), .op (.mov (.t 18)), none⟩,
      ⟨(some 20), .op (.mov (.t 0)), (some (19, false))⟩,
      ⟨(some 21), .op (.sidx (.t 20) (.c (.int .i64 1))), (some (19, false))⟩,
      ⟨(some 22), .op (.bin .lss (.t 21) (.c (.int .u8 32))), (some (19, false))⟩,
      ⟨(some 23), .op (.pick (.t 19) (.c (.bool true)) (.t 22)), none⟩,
      ⟨(some 24), .op (.mov (.t 23)), none⟩,
      ⟨(some 25), .op (.mov (.t 0)), (some (24, false))⟩,
      ⟨(some 26), .op (.sidx (.t 25) (.c (.int .i64 1))), (some (24, false))⟩,
      ⟨(some 27), .op (.bin .gtr (.t 26) (.c (.int .u8 126))), (some (24, false))⟩,
      ⟨(some 28), .op (.pick (.t 24) (.c (.bool true)) (.t 27)), none⟩])
    (.cond (.t 28)
      (.seq (.ops [⟨(some 2), .op (.mov (.c (.int .i64 0))), none⟩,
        ⟨(some 3), .op (.mov (.c (.bool false))), none⟩])
      .ret)
      .skip))
    (.seq (.ops [⟨(some 29), .op (.mov (.t 0)), none⟩,
      ⟨(some 30), .op (.sidx (.t 29) (.c (.int .i64 1))), none⟩,
      ⟨(some 31), .op (.conv .i64 (.t 30)), none⟩,
      ⟨(some 2), .op (.mov (.t 31)), none⟩,
      ⟨(some 3), .op (.mov (.c (.bool true))), none⟩])
    .ret))
    .skip))
  (.seq (.seq (.ops [⟨(some 32), .op (.mov (.t 0)), none⟩,
    ⟨(some 33), .op (.len .str (.t 32)), none⟩,
    ⟨(some 34), .op (.bin .gtr (.t 33) (.c (.int .i64 1))), none⟩,
    ⟨(some 35), .op (.mov (.t 34)), none⟩,
    ⟨(some 36), .op (.mov (.t 0)), (some (35, true))⟩,
    ⟨(some 37), .op (.sidx (.t 36) (.c (.int .i64 0))), (some (35, true))⟩,
    ⟨(some 38), .op (.bin .eql (.t 37) (.c (.int .u8 48))), (some (35, true))⟩,
    ⟨(some 39), .op (.pick (.t 35) (.t 38) (.c (.bool false))), none⟩,
    ⟨(some 40), .op (.mov (.t 39)), none⟩,
    ⟨(some 41), .op (.mov (.t 0)), (some (40, true))⟩,
    ⟨(some 42), .op (.sidx (.t 41) (.c (.int .i64 1))), (some (40, true))⟩,
    ⟨(some 43), .op (.bin .eql (.t 42) (.c (.int .u8 120))), (some (40, true))⟩,
    ⟨(some 44), .op (.pick (.t 40) (.t 43) (.c (.bool false))), none⟩])
  (.cond (.t 44)
    (.seq (.ops [⟨(some 45), .op (.mov (.t 0)), none⟩,
      ⟨(some 46), .op (.sub .str (.t 45) (some (.c (.int .i64 2))) none none), none⟩,
      ⟨(some 47), .call 51 [(.t 46), (.c (.int .u64 16))], none⟩,
      ⟨(some 48), .op (.extract (.t 47) 0), none⟩,
      ⟨(some 49), .op (.extract (.t 47) 1), none⟩,
      ⟨(some 2), .op (.mov (.t 48)), none⟩,
      ⟨(some 3), .op (.mov (.t 49)), none⟩])
    .ret)
    .skip))
  (.seq (.ops [⟨(some 50), .op (.mov (.t 0)), none⟩,
    ⟨(some 51), .call 51 [(.t 50), (.c (.int .u64 10))], none⟩,
    ⟨(some 52), .op (.extract (.t 51) 0), none⟩,
    ⟨(some 53), .op (.extract (.t 51) 1), none⟩,
    ⟨(some 2), .op (.mov (.t 52)), none⟩,
    ⟨(some 3), .op (.mov (.t 53)), none⟩])
  .ret)))), [.tmp 2, .tmp 3]⟩

-- swath/lex.classes
def C42L0 : IC :=
  (.seq (.seq (.ops [⟨(some 5), .op (.mov (.t 3)), none⟩,
    ⟨(some 6), .op (.bin .leq (.t 5) (.c (.int .u8 122))), none⟩])
  (.cond (.t 6)
    .skip
    (.exit 0)))
  (.seq (.block 1
    (.ops [⟨(some 9), .op (.mov (.t 3)), none⟩,
      ⟨(some 10), .op (.mov (.t 3)), none⟩,
      ⟨(some 11), .op (.bin .sub (.t 10) (.c (.int .u8 32))), none⟩,
      ⟨(some 12), .op (.iaddr (.ar 256 1) (.t 1) (.t 9)), none⟩,
      ⟨none, .op (.store 1 (.t 12) (.c (.int .i64 2))), none⟩,
      ⟨(some 13), .op (.iaddr (.ar 256 1) (.t 1) (.t 11)), none⟩,
      ⟨none, .op (.store 1 (.t 13) (.c (.int .i64 2))), none⟩]))
  (.ops [⟨(some 7), .op (.mov (.t 3)), none⟩,
    ⟨(some 8), .op (.bin .add (.t 7) (.c (.int .u8 1))), none⟩,
    ⟨(some 3), .op (.mov (.t 8)), none⟩])))

def C42 : IFn := ⟨25, (.seq (.ops [⟨(some 0), .op (.alloc [(.int .i64 0), (.int .i64 0), (.int .i64 0), (.int .i64 0), (.int .i64 0), (.int .i64 0), (.int .i64 0), (.int .i64 0), (.int .i64 0), (.int .i64 0), (.int .i64 0), (.int .i64 0), (.int .i64 0), (.int .i64 0), (.int .i64 0), (.int .i64 0), (.int .i64 0), (.int .i64 0), (.int .i64 0), (.int .i64 0), (.int .i64 0), (.int .i64 0), (.int .i64 0), (.int .i64 0), (.int .i64 0), (.int .i64 0), (.int .i64 0), (.int .i64 0), (.int .i64 0), (.int .i64 0), (.int .i64 0), (.int .i64 0), (.int .i64 0), (.int .i64 0), (.int .i64 0), (.int .i64 0), (.int .i64 0), (.int .i64 0), (.int .i64 0), (.int .i64 0), (.int .i64 0), (.int .i64 0), (.int .i64 0), (.int .i64 0), (.int .i64 0), (.int .i64 0), (.int .i64 0), (.int .i64 0), (.int .i64 0), (.int .i64 0), (.int .i64 0), (.int .i64 0), (.int .i64 0), (.int .i64 0), (.int .i64 0), (.int .i64 0), (.int .i64 0), (.int .i64 0), (.int .i64 0), (.int .i64 0), (.int .i64 0), (.int .i64 0), (.int .i64 0), (.int .i64 0), (.int .i64 0), (.int .i64 0), (.int .i64 0), (.int .i64 0), (.int .i64 0), (.int .i64 0), (.int .i64 0), (.int .i64 0), (.int .i64 0), (.int .i64 0), (.int .i64 0), (.int .i64 0), (.int .i64 0), (.int .i64 0), (.int .i64 0), (.int .i64 0), (.int .i64 0), (.int .i64 0), (.int .i64 0), (.int .i64 0), (.int .i64 0), (.int .i64 0), (.int .i64 0), (.int .i64 0), (.int .i64 0), (.int .i64 0), (.int .i64 0), (.int .i64 0), (.int .i64 0), (.int .i64 0), (.int .i64 0), (.int .i64 0), (.int .i64 0), (.int .i64 0), (.int .i64 0), (.int .i64 0), (.int .i64 0), (.int .i64 0), (.int .i64 0), (.int .i64 0), (.int .i64 0), (.int .i64 0), (.int .i64 0), (.int .i64 0), (.int .i64 0), (.int .i64 0), (.int .i64 0), (.int .i64 0), (.int .i64 0), (.int .i64 0), (.int .i64 0), (.int .i64 0), (.int .i64 0), (.int .i64 0), (.int .i64 0), (.int .i64 0), (.int .i64 0), (.int .i64 0), (.int .i64 0), (.int .i64 0), (.int .i64 0), (.int .i64 0), (.int .i64 0), (.int .i64 0), (.int .i64 0), (.int .i64 0), (.int .i64 0), (.int .i64 0), (.int .i64 0), (.int .i64 0), (.int .i64 0), (.int .i64 0), (.int .i64 0), (.int .i64 0), (.int .i64 0), (.int .i64 0), (.int .i64 0), (.int .i64 0), (.int .i64 0), (.int .i64 0), (.int .i64 0), (.int .i64 0), (.int .i64 0), (.int .i64 0), (.int .i64 0), (.int .i64 0), (.int .i64 0), (.int .i64 0), (.int .i64 0), (.int .i64 0), (.int .i64 0), (.int .i64 0), (.int .i64 0), (.int .i64 0), (.int .i64 0), (.int .i64 0), (.int .i64 0), (.int .i64 0), (.int .i64 0), (.int .i64 0), (.int .i64 0), (.int .i64 0), (.int .i64 0), (.int .i64 0), (.int .i64 0), (.int .i64 0), (.int .i64 0), (.int .i64 0), (.int .i64 0), (.int .i64 0), (.int .i64 0), (.int .i64 0), (.int .i64 0), (.int .i64 0), (.int .i64 0), (.int .i64 0), (.int .i64 0), (.int .i64 0), (.int .i64 0), (.int .i64 0), (.int .i64 0), (.int .i64 0), (.int .i64 0), (.int .i64 0), (.int .i64 0), (.int .i64 0), (.int .i64 0), (.int .i64 0), (.int .i64 0), (.int .i64 0), (.int .i64 0), (.int .i64 0), (.int .i64 0), (.int .i64 0), (.int .i64 0), (.int .i64 0), (.int .i64 0), (.int .i64 0), (.int .i64 0), (.int .i64 0), (.int .i64 0), (.int .i64 0), (.int .i64 0), (.int .i64 0), (.int .i64 0), (.int .i64 0), (.int .i64 0), (.int .i64 0), (.int .i64 0), (.int .i64 0), (.int .i64 0), (.int .i64 0), (.int .i64 0), (.int .i64 0), (.int .i64 0), (.int .i64 0), (.int .i64 0), (.int .i64 0), (.int .i64 0), (.int .i64 0), (.int .i64 0), (.int .i64 0), (.int .i64 0), (.int .i64 0), (.int .i64 0), (.int .i64 0), (.int .i64 0), (.int .i64 0), (.int .i64 0), (.int .i64 0), (.int .i64 0), (.int .i64 0), (.int .i64 0), (.int .i64 0), (.int .i64 0), (.int .i64 0), (.int .i64 0), (.int .i64 0), (.int .i64 0), (.int .i64 0), (.int .i64 0), (.int .i64 0), (.int .i64 0), (.int .i64 0), (.int .i64 0), (.int .i64 0), (.int .i64 0), (.int .i64 0), (.int .i64 0), (.int .i64 0), (.int .i64 0), (.int .i64 0)]), none⟩])
  (.seq (.ops [⟨(some 1), .op (.alloc [(.int .i64 0), (.int .i64 0), (.int .i64 0), (.int .i64 0), (.int .i64 0), (.int .i64 0), (.int .i64 0), (.int .i64 0), (.int .i64 0), (.int .i64 0), (.int .i64 0), (.int .i64 0), (.int .i64 0), (.int .i64 0), (.int .i64 0), (.int .i64 0), (.int .i64 0), (.int .i64 0), (.int .i64 0), (.int .i64 0), (.int .i64 0), (.int .i64 0), (.int .i64 0), (.int .i64 0), (.int .i64 0), (.int .i64 0), (.int .i64 0), (.int .i64 0), (.int .i64 0), (.int .i64 0), (.int .i64 0), (.int .i64 0), (.int .i64 0), (.int .i64 0), (.int .i64 0), (.int .i64 0), (.int .i64 0), (.int .i64 0), (.int .i64 0), (.int .i64 0), (.int .i64 0), (.int .i64 0), (.int .i64 0), (.int .i64 0), (.int .i64 0), (.int .i64 0), (.int .i64 0), (.int .i64 0), (.int .i64 0), (.int .i64 0), (.int .i64 0), (.int .i64 0), (.int .i64 0), (.int .i64 0), (.int .i64 0), (.int .i64 0), (.int .i64 0), (.int .i64 0), (.int .i64 0), (.int .i64 0), (.int .i64 0), (.int .i64 0), (.int .i64 0), (.int .i64 0), (.int .i64 0), (.int .i64 0), (.int .i64 0), (.int .i64 0), (.int .i64 0), (.int .i64 0), (.int .i64 0), (.int .i64 0), (.int .i64 0), (.int .i64 0), (.int .i64 0), (.int .i64 0), (.int .i64 0), (.int .i64 0), (.int .i64 0), (.int .i64 0), (.int .i64 0), (.int .i64 0), (.int .i64 0), (.int .i64 0), (.int .i64 0), (.int .i64 0), (.int .i64 0), (.int .i64 0), (.int .i64 0), (.int .i64 0), (.int .i64 0), (.int .i64 0), (.int .i64 0), (.int .i64 0), (.int .i64 0), (.int .i64 0), (.int .i64 0), (.int .i64 0), (.int .i64 0), (.int .i64 0), (.int .i64 0), (.int .i64 0), (.int .i64 0), (.int .i64 0), (.int .i64 0), (.int .i64 0), (.int .i64 0), (.int .i64 0), (.int .i64 0), (.int .i64 0), (.int .i64 0), (.int .i64 0), (.int .i64 0), (.int .i64 0), (.int .i64 0), (.int .i64 0), (.int .i64 0), (.int .i64 0), (.int .i64 0), (.int .i64 0), (.int .i64 0), (.int .i64 0), (.int .i64 0), (.int .i64 0), (.int .i64 0), (.int .i64 0), (.int .i64 0), (.int .i64 0), (.int .i64 0), (.int .i64 0), (.int .i64 0), (.int .i64 0), (.int .i64 0), (.int .i64 0), (.int .i64 0), (.int .i64 0), (.int .i64 0), (.int .i64 0), (.int .i64 0), (.int .i64 0), (.int .i64 0), (.int .i64 0), (.int .i64 0), (.int .i64 0), (.int .i64 0), (.int .i64 0), (.int .i64 0), (.int .i64 0), (.int .i64 0), (.int .i64 0), (.int .i64 0), (.int .i64 0), (.int .i64 0), (.int .i64 0), (.int .i64 0), (.int .i64 0), (.int .i64 0), (.int .i64 0), (.int .i64 0), (.int .i64 0), (.int .i64 0), (.int .i64 0), (.int .i64 0), (.int .i64 0), (.int .i64 0), (.int .i64 0), (.int .i64 0), (.int .i64 0), (.int .i64 0), (.int .i64 0), (.int .i64 0), (.int .i64 0), (.int .i64 0), (.int .i64 0), (.int .i64 0), (.int .i64 0), (.int .i64 0), (.int .i64 0), (.int .i64 0), (.int .i64 0), (.int .i64 0), (.int .i64 0), (.int .i64 0), (.int .i64 0), (.int .i64 0), (.int .i64 0), (.int .i64 0), (.int .i64 0), (.int .i64 0), (.int .i64 0), (.int .i64 0), (.int .i64 0), (.int .i64 0), (.int .i64 0), (.int .i64 0), (.int .i64 0), (.int .i64 0), (.int .i64 0), (.int .i64 0), (.int .i64 0), (.int .i64 0), (.int .i64 0), (.int .i64 0), (.int .i64 0), (.int .i64 0), (.int .i64 0), (.int .i64 0), (.int .i64 0), (.int .i64 0), (.int .i64 0), (.int .i64 0), (.int .i64 0), (.int .i64 0), (.int .i64 0), (.int .i64 0), (.int .i64 0), (.int .i64 0), (.int .i64 0), (.int .i64 0), (.int .i64 0), (.int .i64 0), (.int .i64 0), (.int .i64 0), (.int .i64 0), (.int .i64 0), (.int .i64 0), (.int .i64 0), (.int .i64 0), (.int .i64 0), (.int .i64 0), (.int .i64 0), (.int .i64 0), (.int .i64 0), (.int .i64 0), (.int .i64 0), (.int .i64 0), (.int .i64 0), (.int .i64 0), (.int .i64 0), (.int .i64 0), (.int .i64 0), (.int .i64 0), (.int .i64 0), (.int .i64 0), (.int .i64 0), (.int .i64 0), (.int .i64 0), (.int .i64 0), (.int .i64 0), (.int .i64 0), (.int .i64 0), (.int .i64 0), (.int .i64 0), (.int .i64 0), (.int .i64 0), (.int .i64 0)]), none⟩])
  (.seq (.ops [⟨(some 4), .op (.fn 52 [] [(.t 1)]), none⟩,
    ⟨(some 2), .op (.mov (.t 4)), none⟩])
  (.seq (.seq (.ops [⟨(some 3), .op (.mov (.c (.int .u8 97))), none⟩])
  (.block 0
    (.loop C42L0)))
  (.seq (.ops [⟨(some 14), .op (.mov (.t 2)), none⟩,
    ⟨(some 15), .callv (.t 14) [(.c (.string ⟨#[95]⟩)), (.c (.int .i64 2))], none⟩])
  (.seq (.ops [⟨(some 16), .op (.mov (.t 2)), none⟩,
    ⟨(some 17), .callv (.t 16) [(.c (.string ⟨#[48, 49, 50, 51, 52, 53, 54, 55, 56, 57]⟩)), (.c (.int .i64 3))], none⟩])
  (.seq (.ops [⟨(some 18), .op (.mov (.t 2)), none⟩,
    ⟨(some 19), .callv (.t 18) [(.c (.string ⟨#[32, 9, 10, 13]⟩)), (.c (.int .i64 1))], none⟩])
  (.seq (.ops [⟨(some 20), .op (.mov (.t 2)), none⟩,
    ⟨(some 21), .callv (.t 20) [(.c (.string ⟨#[40, 41, 123, 125, 91, 93, 44, 59, 46, 61, 43, 45, 42, 47, 37, 38, 124, 94, 60, 62, 33, 126]⟩)), (.c (.int .i64 4))], none⟩])
  (.seq (.ops [⟨(some 22), .op (.mov (.t 2)), none⟩,
    ⟨(some 23), .callv (.t 22) [(.c (.string ⟨#[39]⟩)), (.c (.int .i64 5))], none⟩])
  (.seq (.ops [⟨(some 24), .op (.load (some 256) (.t 1)), none⟩,
    ⟨none, .op (.store 256 (.t 0) (.t 24)), none⟩])
  .ret)))))))))), [.cell 0 (some 256)]⟩

-- (*swath/lex.scanner).peek
def C43 : IFn := ⟨33, (.seq (.ops [⟨(some 4), .op (.mov (.c (.int .i64 0))), none⟩])
  (.seq (.seq (.draw [⟨(some 5), .op (.mov (.t 0)), none⟩,
    ⟨(some 6), .op (.nilck (.t 5)), none⟩,
    ⟨(some 7), .op (.faddr 1 (.t 6)), none⟩,
    ⟨(some 8), .op (.load none (.t 7)), none⟩,
    ⟨(some 9), .op (.mov (.t 1)), none⟩,
    ⟨(some 10), .op (.bin .add (.t 8) (.t 9)), none⟩,
    ⟨(some 11), .op (.mov (.t 0)), none⟩,
    ⟨(some 12), .op (.nilck (.t 11)), none⟩,
    ⟨(some 13), .op (.faddr 0 (.t 12)), none⟩,
    ⟨(some 14), .op (.load none (.t 13)), none⟩,
    ⟨(some 15), .op (.len .str (.t 14)), none⟩,
    ⟨(some 16), .op (.bin .geq (.t 10) (.t 15)), none⟩]
    [[], [0], [1, 0], [2, 1, 0], [], [4, 3, 2, 1, 0], [], [6], [7, 6], [8, 7, 6], [9, 8, 7, 6], [10, 9, 8, 7, 6, 5, 4, 3, 2, 1, 0]])
  (.cond (.t 16)
    (.seq (.ops [⟨(some 4), .op (.mov (.c (.int .i64 0))), none⟩])
    .ret)
    .skip))
  (.seq (.draw [⟨(some 17), .op (.mov (.t 0)), none⟩,
    ⟨(some 18), .op (.mov (.t 0)), none⟩,
    ⟨(some 19), .op (.nilck (.t 18)), none⟩,
    ⟨(some 20), .op (.faddr 0 (.t 19)), none⟩,
    ⟨(some 21), .op (.load none (.t 20)), none⟩,
    ⟨(some 22), .op (.mov (.t 0)), none⟩,
    ⟨(some 23), .op (.nilck (.t 22)), none⟩,
    ⟨(some 24), .op (.faddr 1 (.t 23)), none⟩,
    ⟨(some 25), .op (.load none (.t 24)), none⟩,
    ⟨(some 26), .op (.mov (.t 1)), none⟩,
    ⟨(some 27), .op (.bin .add (.t 25) (.t 26)), none⟩,
    ⟨(some 28), .op (.sidx (.t 21) (.t 27)), none⟩,
    ⟨(some 29), .op (.nilck (.t 17)), none⟩,
    ⟨(some 30), .op (.faddr 2 (.t 29)), none⟩,
    ⟨(some 31), .op (.iaddr (.ar 256 1) (.t 30) (.t 28)), none⟩,
    ⟨(some 32), .op (.load none (.t 31)), none⟩,
    ⟨(some 4), .op (.mov (.t 32)), none⟩]
    [[], [], [1], [2, 1], [3, 2, 1], [], [5], [6, 5], [7, 6, 5], [], [9, 8, 7, 6, 5], [10, 9, 8, 7, 6, 5, 4, 3, 2, 1], [0], [12, 0], [11, 10, 9, 8, 7, 6, 5, 4, 3, 2, 1, 13, 12, 0], [14, 11, 10, 9, 8, 7, 6, 5, 4, 3, 2, 1, 13, 12, 0], [15, 14, 11, 10, 9, 8, 7, 6, 5, 4, 3, 2, 1, 13, 12, 0]])
  .ret))), [.tmp 4]⟩

-- (*swath/lex.scanner).goes
def C44L0 : IC :=
  (.seq (.seq (.ops [⟨(some 8), .op (.mov (.t 4)), none⟩,
    ⟨(some 9), .op (.bin .eql (.t 8) (.c (.int .i64 2))), none⟩,
    ⟨(some 10), .op (.mov (.t 9)), none⟩,
    ⟨(some 11), .op (.mov (.t 4)), (some (10, false))⟩,
    ⟨(some 12), .op (.bin .eql (.t 11) (.c (.int .i64 3))), (some (10, false))⟩,
    ⟨(some 13), .op (.pick (.t 10) (.c (.bool true)) (.t 12)), none⟩])
  (.cond (.t 13)
    .skip
    (.exit 0)))
  (.seq (.block 1
    (.ops [⟨(some 17), .op (.mov (.t 3)), none⟩,
      ⟨(some 18), .op (.bin .add (.t 17) (.c (.int .i64 1))), none⟩,
      ⟨(some 3), .op (.mov (.t 18)), none⟩]))
  (.ops [⟨(some 14), .op (.mov (.t 0)), none⟩,
    ⟨(some 15), .op (.mov (.t 3)), none⟩,
    ⟨(some 16), .call 43 [(.t 14), (.t 15)], none⟩,
    ⟨(some 4), .op (.mov (.t 16)), none⟩])))

def C44 : IFn := ⟨20, (.seq (.ops [⟨(some 2), .op (.mov (.c (.int .i64 0))), none⟩])
  (.seq (.ops [⟨(some 3), .op (.mov (.c (.int .i64 0))), none⟩])
  (.seq (.seq (.ops [⟨(some 5), .op (.mov (.t 0)), none⟩,
    ⟨(some 6), .op (.mov (.t 3)), none⟩,
    ⟨(some 7), .call 43 [(.t 5), (.t 6)], none⟩,
    ⟨(some 4), .op (.mov (.t 7)), none⟩])
  (.block 0
    (.loop C44L0)))
  (.seq (.ops [⟨(some 19), .op (.mov (.t 3)), none⟩,
    ⟨(some 2), .op (.mov (.t 19)), none⟩])
  .ret)))), [.tmp 2]⟩

-- swath/lex.word
def C45L0 : IC :=
  (.seq (.ops [⟨(some 7), .op (.bin .lss (.t 6) (.c (.int .i64 19))), none⟩])
  (.seq (.cond (.t 7)
    .skip
    (.exit 0))
  (.seq (.block 1
    (.seq (.ops [⟨(some 8), .op (.aidx 19 1 none (.t 5) (.t 6)), none⟩,
      ⟨(some 4), .op (.mov (.t 8)), none⟩])
    (.seq (.ops [⟨(some 9), .op (.mov (.t 4)), none⟩,
      ⟨(some 10), .op (.mov (.t 0)), none⟩,
      ⟨(some 11), .op (.bin .eql (.t 9) (.t 10)), none⟩])
    (.cond (.t 11)
      (.seq (.ops [⟨(some 2), .op (.mov (.c (.bool true))), none⟩])
      .ret)
      .skip))))
  (.ops [⟨(some 12), .op (.bin .add (.t 6) (.c (.int .i64 1))), none⟩,
    ⟨(some 6), .op (.mov (.t 12)), none⟩]))))

def C45 : IFn := ⟨13, (.seq (.ops [⟨(some 2), .op (.mov (.c (.bool false))), none⟩])
  (.seq (.seq (.ops [⟨(some 5), .call 53 [], none⟩,
    ⟨(some 6), .op (.mov (.c (.int .i64 0))), none⟩])
  (.block 0
    (.loop C45L0)))
  (.seq (.ops [⟨(some 2), .op (.mov (.c (.bool false))), none⟩])
  .ret))), [.tmp 2]⟩

-- swath/lex.worth
def C46 : IFn := ⟨43, (.seq (.ops [⟨(some 4), .op (.mov (.c (.int .u64 0))), none⟩,
    ⟨(some 5), .op (.mov (.c (.bool false))), none⟩])
  (.seq (.ops [⟨(some 6), .op (.mov (.c (.int .u64 255))), none⟩])
  (.seq (.block 0
    (.seq (.ops [⟨(some 8), .op (.mov (.t 0)), none⟩,
      ⟨(some 9), .op (.bin .geq (.t 8) (.c (.int .u8 48))), none⟩,
      ⟨(some 10), .op (.mov (.t 9)), none⟩,
      ⟨(some 11), .op (.mov (.t 0)), (some (10, true))⟩,
      ⟨(some 12), .op (.bin .leq (.t 11) (.c (.int .u8 57))), (some (10, true))⟩,
      ⟨(some 13), .op (.pick (.t 10) (.t 12) (.c (.bool false))), none⟩,
      ⟨(some 7), .op (.mov (.t 13)), none⟩])
    (.cond (.t 7)
      (.ops [⟨(some 14), .op (.mov (.t 0)), none⟩,
        ⟨(some 15), .op (.bin .sub (.t 14) (.c (.int .u8 48))), none⟩,
        ⟨(some 16), .op (.conv .u64 (.t 15)), none⟩,
        ⟨(some 6), .op (.mov (.t 16)), none⟩])
      (.seq (.ops [⟨(some 18), .op (.mov (.t 0)), none⟩,
        ⟨(some 19), .op (.bin .geq (.t 18) (.c (.int .u8 97))), none⟩,
        ⟨(some 20), .op (.mov (.t 19)), none⟩,
        ⟨(some 21), .op (.mov (.t 0)), (some (20, true))⟩,
        ⟨(some 22), .op (.bin .leq (.t 21) (.c (.int .u8 102))), (some (20, true))⟩,
        ⟨(some 23), .op (.pick (.t 20) (.t 22) (.c (.bool false))), none⟩,
        ⟨(some 17), .op (.mov (.t 23)), none⟩])
      (.cond (.t 17)
        (.ops [⟨(some 24), .op (.mov (.t 0)), none⟩,
          ⟨(some 25), .op (.bin .sub (.t 24) (.c (.int .u8 97))), none⟩,
          ⟨(some 26), .op (.conv .u64 (.t 25)), none⟩,
          ⟨(some 27), .op (.bin .add (.t 26) (.c (.int .u64 10))), none⟩,
          ⟨(some 6), .op (.mov (.t 27)), none⟩])
        (.seq (.ops [⟨(some 29), .op (.mov (.t 0)), none⟩,
          ⟨(some 30), .op (.bin .geq (.t 29) (.c (.int .u8 65))), none⟩,
          ⟨(some 31), .op (.mov (.t 30)), none⟩,
          ⟨(some 32), .op (.mov (.t 0)), (some (31, true))⟩,
          ⟨(some 33), .op (.bin .leq (.t 32) (.c (.int .u8 70))), (some (31, true))⟩,
          ⟨(some 34), .op (.pick (.t 31) (.t 33) (.c (.bool false))), none⟩,
          ⟨(some 28), .op (.mov (.t 34)), none⟩])
        (.cond (.t 28)
          (.ops [⟨(some 35), .op (.mov (.t 0)), none⟩,
            ⟨(some 36), .op (.bin .sub (.t 35) (.c (.int .u8 65))), none⟩,
            ⟨(some 37), .op (.conv .u64 (.t 36)), none⟩,
            ⟨(some 38), .op (.bin .add (.t 37) (.c (.int .u64 10))), none⟩,
            ⟨(some 6), .op (.mov (.t 38)), none⟩])
          .skip)))))))
  (.seq (.ops [⟨(some 39), .op (.mov (.t 6)), none⟩,
    ⟨(some 40), .op (.mov (.t 6)), none⟩,
    ⟨(some 41), .op (.mov (.t 1)), none⟩,
    ⟨(some 42), .op (.bin .lss (.t 40) (.t 41)), none⟩,
    ⟨(some 4), .op (.mov (.t 39)), none⟩,
    ⟨(some 5), .op (.mov (.t 42)), none⟩])
  .ret)))), [.tmp 4, .tmp 5]⟩

-- swath/swathref04.letter
def C48 : IFn := ⟨21, (.seq (.ops [⟨(some 2), .op (.mov (.c (.bool false))), none⟩])
  (.seq (.ops [⟨(some 3), .op (.mov (.t 0)), none⟩,
    ⟨(some 4), .op (.bin .geq (.t 3) (.c (.int .u8 97))), none⟩,
    ⟨(some 5), .op (.mov (.t 4)), none⟩,
    ⟨(some 6), .op (.mov (.t 0)), (some (5, true))⟩,
    ⟨(some 7), .op (.bin .leq (.t 6) (.c (.int .u8 122))), (some (5, true))⟩,
    ⟨(some 8), .op (.pick (.t 5) (.t 7) (.c (.bool false))), none⟩,
    ⟨(some 9), .op (.mov (.t 8)), none⟩,
    ⟨(some 10), .op (.mov (.t 0)), (some (9, false))⟩,
    ⟨(some 11), .op (.bin .geq (.t 10) (.c (.int .u8 65))), (some (9, false))⟩,
    ⟨(some 12), .op (.mov (.t 11)), (some (9, false))⟩,
    ⟨(some 13), .op (.mov (.t 0)), (some (12, true))⟩,
    ⟨(some 14), .op (.bin .leq (.t 13) (.c (.int .u8 90))), (some (12, true))⟩,
    ⟨(some 15), .op (.pick (.t 12) (.t 14) (.c (.bool false))), (some (9, false))⟩,
    ⟨(some 16), .op (.pick (.t 9) (.c (.bool true)) (.t 15)), none⟩,
    ⟨(some 17), .op (.mov (.t 16)), none⟩,
    ⟨(some 18), .op (.mov (.t 0)), (some (17, false))⟩,
    ⟨(some 19), .op (.bin .eql (.t 18) (.c (.int .u8 95))), (some (17, false))⟩,
    ⟨(some 20), .op (.pick (.t 17) (.c (.bool true)) (.t 19)), none⟩,
    ⟨(some 2), .op (.mov (.t 20)), none⟩])
  .ret)), [.tmp 2]⟩

-- swath/swathref04.digit
def C49 : IFn := ⟨9, (.seq (.ops [⟨(some 2), .op (.mov (.c (.bool false))), none⟩])
  (.seq (.ops [⟨(some 3), .op (.mov (.t 0)), none⟩,
    ⟨(some 4), .op (.bin .geq (.t 3) (.c (.int .u8 48))), none⟩,
    ⟨(some 5), .op (.mov (.t 4)), none⟩,
    ⟨(some 6), .op (.mov (.t 0)), (some (5, true))⟩,
    ⟨(some 7), .op (.bin .leq (.t 6) (.c (.int .u8 57))), (some (5, true))⟩,
    ⟨(some 8), .op (.pick (.t 5) (.t 7) (.c (.bool false))), none⟩,
    ⟨(some 2), .op (.mov (.t 8)), none⟩])
  .ret)), [.tmp 2]⟩

-- swath/swathref04.Word
def C50L0 : IC :=
  (.seq (.ops [⟨(some 8), .op (.bin .lss (.t 7) (.t 6)), none⟩])
  (.seq (.cond (.t 8)
    .skip
    (.exit 0))
  (.seq (.block 1
    (.seq (.ops [⟨(some 9), .op (.iaddr (.sl 1) (.t 5) (.t 7)), none⟩,
      ⟨(some 10), .op (.load none (.t 9)), none⟩,
      ⟨(some 4), .op (.mov (.t 10)), none⟩])
    (.seq (.ops [⟨(some 11), .op (.mov (.t 0)), none⟩,
      ⟨(some 12), .op (.mov (.t 4)), none⟩,
      ⟨(some 13), .op (.bin .eql (.t 11) (.t 12)), none⟩])
    (.cond (.t 13)
      (.seq (.ops [⟨(some 2), .op (.mov (.c (.bool true))), none⟩])
      .ret)
      .skip))))
  (.ops [⟨(some 14), .op (.bin .add (.t 7) (.c (.int .i64 1))), none⟩,
    ⟨(some 7), .op (.mov (.t 14)), none⟩]))))

def C50 : IFn := ⟨15, (.seq (.ops [⟨(some 2), .op (.mov (.c (.bool false))), none⟩])
  (.seq (.seq (.ops [⟨(some 5), .op (.lit 1 19 [(.string ⟨#[]⟩), (.string ⟨#[]⟩), (.string ⟨#[]⟩), (.string ⟨#[]⟩), (.string ⟨#[]⟩), (.string ⟨#[]⟩), (.string ⟨#[]⟩), (.string ⟨#[]⟩), (.string ⟨#[]⟩), (.string ⟨#[]⟩), (.string ⟨#[]⟩), (.string ⟨#[]⟩), (.string ⟨#[]⟩), (.string ⟨#[]⟩), (.string ⟨#[]⟩), (.string ⟨#[]⟩), (.string ⟨#[]⟩), (.string ⟨#[]⟩), (.string ⟨#[]⟩)] [(0, 1, (.c (.string ⟨#[114, 101, 99]⟩))), (1, 1, (.c (.string ⟨#[102, 110]⟩))), (2, 1, (.c (.string ⟨#[108, 101, 116]⟩))), (3, 1, (.c (.string ⟨#[105, 102]⟩))), (4, 1, (.c (.string ⟨#[101, 108, 115, 101]⟩))), (5, 1, (.c (.string ⟨#[119, 104, 105, 108, 101]⟩))), (6, 1, (.c (.string ⟨#[114, 101, 116, 117, 114, 110]⟩))), (7, 1, (.c (.string ⟨#[111, 117, 116]⟩))), (8, 1, (.c (.string ⟨#[115, 116, 111, 112]⟩))), (9, 1, (.c (.string ⟨#[109, 101, 114, 103, 101]⟩))), (10, 1, (.c (.string ⟨#[112, 114, 111, 109, 111, 116, 101]⟩))), (11, 1, (.c (.string ⟨#[110, 101, 119]⟩))), (12, 1, (.c (.string ⟨#[97, 114, 114]⟩))), (13, 1, (.c (.string ⟨#[108, 101, 110]⟩))), (14, 1, (.c (.string ⟨#[105, 110]⟩))), (15, 1, (.c (.string ⟨#[105, 109, 103]⟩))), (16, 1, (.c (.string ⟨#[115, 105, 122, 101]⟩))), (17, 1, (.c (.string ⟨#[110, 117, 108, 108]⟩))), (18, 1, (.c (.string ⟨#[114, 111, 111, 116]⟩)))]), none⟩,
    ⟨(some 6), .op (.len .sl (.t 5)), none⟩,
    ⟨(some 7), .op (.mov (.c (.int .i64 0))), none⟩])
  (.block 0
    (.loop C50L0)))
  (.seq (.ops [⟨(some 2), .op (.mov (.c (.bool false))), none⟩])
  .ret))), [.tmp 2]⟩

-- swath/swathref04.whole
def C51L0 : IC :=
  (.seq (.seq (.ops [⟨(some 9), .op (.mov (.t 7)), none⟩,
    ⟨(some 10), .op (.mov (.t 0)), none⟩,
    ⟨(some 11), .op (.len .str (.t 10)), none⟩,
    ⟨(some 12), .op (.bin .lss (.t 9) (.t 11)), none⟩])
  (.cond (.t 12)
    .skip
    (.exit 0)))
  (.seq (.block 1
    (.seq (.ops [⟨(some 15), .op (.mov (.t 0)), none⟩,
      ⟨(some 16), .op (.mov (.t 7)), none⟩,
      ⟨(some 17), .op (.sidx (.t 15) (.t 16)), none⟩,
      ⟨(some 18), .call 55 [(.t 17)], none⟩,
      ⟨(some 8), .op (.mov (.t 18)), none⟩])
    (.seq (.seq (.ops [⟨(some 19), .op (.mov (.t 8)), none⟩,
      ⟨(some 20), .op (.mov (.t 1)), none⟩,
      ⟨(some 21), .op (.bin .geq (.t 19) (.t 20)), none⟩])
    (.cond (.t 21)
      (.seq (.ops [⟨(some 4), .op (.mov (.c (.int .i64 0))), none⟩,
        ⟨(some 5), .op (.mov (.c (.bool false))), none⟩])
      .ret)
      .skip))
    (.seq (.seq (.ops [⟨(some 22), .op (.mov (.t 6)), none⟩,
      ⟨(some 23), .op (.mov (.t 8)), none⟩,
      ⟨(some 24), .op (.bin .sub (.c (.int .u64 9223372036854775807)) (.t 23)), none⟩,
      ⟨(some 25), .op (.mov (.t 1)), none⟩,
      ⟨(some 26), .op (.bin .quo (.t 24) (.t 25)), none⟩,
      ⟨(some 27), .op (.bin .gtr (.t 22) (.t 26)), none⟩])
    (.cond (.t 27)
      (.seq (.ops [⟨(some 4), .op (.mov (.c (.int .i64 0))), none⟩,
        ⟨(some 5), .op (.mov (.c (.bool false))), none⟩])
      .ret)
      .skip))
    (.ops [⟨(some 28), .op (.mov (.t 1)), none⟩,
      ⟨(some 29), .op (.mov (.t 6)), none⟩,
      ⟨(some 30), .op (.bin .mul (.t 28) (.t 29)), none⟩,
      ⟨(some 31), .op (.mov (.t 8)), none⟩,
      ⟨(some 32), .op (.bin .add (.t 30) (.t 31)), none⟩,
      ⟨(some 6), .op (.mov (.t 32)), none⟩])))))
  (.ops [⟨(some 13), .op (.mov (.t 7)), none⟩,
    ⟨(some 14), .op (.bin .add (.t 13) (.c (.int .i64 1))), none⟩,
    ⟨(some 7), .op (.mov (.t 14)), none⟩])))

def C51 : IFn := ⟨37, (.seq (.ops [⟨(some 4), .op (.mov (.c (.int .i64 0))), none⟩,
    ⟨(some 5), .op (.mov (.c (.bool false))), none⟩])
  (.seq (.ops [⟨(some 6), .op (.mov (.c (.int .u64 0))), none⟩])
  (.seq (.seq (.ops [⟨(some 7), .op (.mov (.c (.int .i64 0))), none⟩])
  (.block 0
    (.loop C51L0)))
  (.seq (.ops [⟨(some 33), .op (.mov (.t 6)), none⟩,
    ⟨(some 34), .op (.conv .i64 (.t 33)), none⟩,
    ⟨(some 35), .op (.mov (.t 0)), none⟩,
    ⟨(some 36), .op (.bin .neq (.t 35) (.c (.string ⟨#[]⟩))), none⟩,
    ⟨(some 4), .op (.mov (.t 34)), none⟩,
    ⟨(some 5), .op (.mov (.t 36)), none⟩])
  .ret)))), [.tmp 4, .tmp 5]⟩

-- swath/lex.reserved
def C53 : IFn := ⟨2, (.seq (.ops [⟨(some 0), .op (.alloc [(.string ⟨#[]⟩), (.string ⟨#[]⟩), (.string ⟨#[]⟩), (.string ⟨#[]⟩), (.string ⟨#[]⟩), (.string ⟨#[]⟩), (.string ⟨#[]⟩), (.string ⟨#[]⟩), (.string ⟨#[]⟩), (.string ⟨#[]⟩), (.string ⟨#[]⟩), (.string ⟨#[]⟩), (.string ⟨#[]⟩), (.string ⟨#[]⟩), (.string ⟨#[]⟩), (.string ⟨#[]⟩), (.string ⟨#[]⟩), (.string ⟨#[]⟩), (.string ⟨#[]⟩)]), none⟩])
  (.seq (.ops [⟨(some 1), .op (.build [(.string ⟨#[]⟩), (.string ⟨#[]⟩), (.string ⟨#[]⟩), (.string ⟨#[]⟩), (.string ⟨#[]⟩), (.string ⟨#[]⟩), (.string ⟨#[]⟩), (.string ⟨#[]⟩), (.string ⟨#[]⟩), (.string ⟨#[]⟩), (.string ⟨#[]⟩), (.string ⟨#[]⟩), (.string ⟨#[]⟩), (.string ⟨#[]⟩), (.string ⟨#[]⟩), (.string ⟨#[]⟩), (.string ⟨#[]⟩), (.string ⟨#[]⟩), (.string ⟨#[]⟩)] [(0, 1, (.c (.string ⟨#[114, 101, 99]⟩))), (1, 1, (.c (.string ⟨#[102, 110]⟩))), (2, 1, (.c (.string ⟨#[108, 101, 116]⟩))), (3, 1, (.c (.string ⟨#[105, 102]⟩))), (4, 1, (.c (.string ⟨#[101, 108, 115, 101]⟩))), (5, 1, (.c (.string ⟨#[119, 104, 105, 108, 101]⟩))), (6, 1, (.c (.string ⟨#[114, 101, 116, 117, 114, 110]⟩))), (7, 1, (.c (.string ⟨#[111, 117, 116]⟩))), (8, 1, (.c (.string ⟨#[115, 116, 111, 112]⟩))), (9, 1, (.c (.string ⟨#[109, 101, 114, 103, 101]⟩))), (10, 1, (.c (.string ⟨#[112, 114, 111, 109, 111, 116, 101]⟩))), (11, 1, (.c (.string ⟨#[110, 101, 119]⟩))), (12, 1, (.c (.string ⟨#[97, 114, 114]⟩))), (13, 1, (.c (.string ⟨#[108, 101, 110]⟩))), (14, 1, (.c (.string ⟨#[105, 110]⟩))), (15, 1, (.c (.string ⟨#[105, 109, 103]⟩))), (16, 1, (.c (.string ⟨#[115, 105, 122, 101]⟩))), (17, 1, (.c (.string ⟨#[110, 117, 108, 108]⟩))), (18, 1, (.c (.string ⟨#[114, 111, 111, 116]⟩)))]), none⟩,
    ⟨none, .op (.store 19 (.t 0) (.t 1)), none⟩])
  .ret)), [.cell 0 (some 19)]⟩

-- swath/swathref04.figure
def C55 : IFn := ⟨31, (.seq (.ops [⟨(some 2), .op (.mov (.c (.int .u64 0))), none⟩])
  (.seq (.block 0
    (.seq (.ops [⟨(some 4), .op (.mov (.t 0)), none⟩,
      ⟨(some 5), .call 49 [(.t 4)], none⟩,
      ⟨(some 3), .op (.mov (.t 5)), none⟩])
    (.cond (.t 3)
      (.seq (.ops [⟨(some 6), .op (.mov (.t 0)), none⟩,
        ⟨(some 7), .op (.bin .sub (.t 6) (.c (.int .u8 48))), none⟩,
        ⟨(some 8), .op (.conv .u64 (.t 7)), none⟩,
        ⟨(some 2), .op (.mov (.t 8)), none⟩])
      .ret)
      (.seq (.ops [⟨(some 10), .op (.mov (.t 0)), none⟩,
        ⟨(some 11), .op (.bin .geq (.t 10) (.c (.int .u8 97))), none⟩,
        ⟨(some 12), .op (.mov (.t 11)), none⟩,
        ⟨(some 13), .op (.mov (.t 0)), (some (12, true))⟩,
        ⟨(some 14), .op (.bin .leq (.t 13) (.c (.int .u8 102))), (some (12, true))⟩,
        ⟨(some 15), .op (.pick (.t 12) (.t 14) (.c (.bool false))), none⟩,
        ⟨(some 9), .op (.mov (.t 15)), none⟩])
      (.cond (.t 9)
        (.seq (.ops [⟨(some 16), .op (.mov (.t 0)), none⟩,
          ⟨(some 17), .op (.bin .sub (.t 16) (.c (.int .u8 97))), none⟩,
          ⟨(some 18), .op (.conv .u64 (.t 17)), none⟩,
          ⟨(some 19), .op (.bin .add (.t 18) (.c (.int .u64 10))), none⟩,
          ⟨(some 2), .op (.mov (.t 19)), none⟩])
        .ret)
        (.seq (.ops [⟨(some 21), .op (.mov (.t 0)), none⟩,
          ⟨(some 22), .op (.bin .geq (.t 21) (.c (.int .u8 65))), none⟩,
          ⟨(some 23), .op (.mov (.t 22)), none⟩,
          ⟨(some 24), .op (.mov (.t 0)), (some (23, true))⟩,
          ⟨(some 25), .op (.bin .leq (.t 24) (.c (.int .u8 70))), (some (23, true))⟩,
          ⟨(some 26), .op (.pick (.t 23) (.t 25) (.c (.bool false))), none⟩,
          ⟨(some 20), .op (.mov (.t 26)), none⟩])
        (.cond (.t 20)
          (.seq (.ops [⟨(some 27), .op (.mov (.t 0)), none⟩,
            ⟨(some 28), .op (.bin .sub (.t 27) (.c (.int .u8 65))), none⟩,
            ⟨(some 29), .op (.conv .u64 (.t 28)), none⟩,
            ⟨(some 30), .op (.bin .add (.t 29) (.c (.int .u64 10))), none⟩,
            ⟨(some 2), .op (.mov (.t 30)), none⟩])
          .ret)
          .skip)))))))
  (.seq (.ops [⟨(some 2), .op (.mov (.c (.int .u64 99))), none⟩])
  .ret))), [.tmp 2]⟩


end Go.Idl
end

section
/- Bytes, words, names: what they are, and the functions that tell it. -/
namespace Go.Idl
set_option linter.unusedVariables false
set_option linter.unusedSimpArgs false
set_option maxRecDepth 100000

variable {T : Tbl}

def isL (c : Int) : Bool := decide (97 ≤ c) && decide (c ≤ 122) || decide (65 ≤ c) && decide (c ≤ 90) || decide (c = 95)
def isD (c : Int) : Bool := decide (48 ≤ c) && decide (c ≤ 57)
def figI (d c : Int) : Int := if 48 ≤ c ∧ c ≤ 57 then c - 48 else if 97 ≤ c ∧ c ≤ 102 then c - 87 else if 65 ≤ c ∧ c ≤ 70 then c - 55 else d
def wordsL : List ByteArray := [⟨#[114, 101, 99]⟩, ⟨#[102, 110]⟩, ⟨#[108, 101, 116]⟩, ⟨#[105, 102]⟩, ⟨#[101, 108, 115, 101]⟩, ⟨#[119, 104, 105, 108, 101]⟩, ⟨#[114, 101, 116, 117, 114, 110]⟩, ⟨#[111, 117, 116]⟩, ⟨#[115, 116, 111, 112]⟩, ⟨#[109, 101, 114, 103, 101]⟩, ⟨#[112, 114, 111, 109, 111, 116, 101]⟩, ⟨#[110, 101, 119]⟩, ⟨#[97, 114, 114]⟩, ⟨#[108, 101, 110]⟩, ⟨#[105, 110]⟩, ⟨#[105, 109, 103]⟩, ⟨#[115, 105, 122, 101]⟩, ⟨#[110, 117, 108, 108]⟩, ⟨#[114, 111, 111, 116]⟩]

theorem wrapU8 {x : Int} (h1 : 0 ≤ x) (h2 : x ≤ 255) : IntKind.u8.wrap x = x := by
  simp [IntKind.wrap, IntKind.signed, IntKind.bits]; omega
theorem wrapU64 {x : Int} (h1 : 0 ≤ x) (h2 : x ≤ 18446744073709551615) : IntKind.u64.wrap x = x := by
  simp [IntKind.wrap, IntKind.signed, IntKind.bits]; omega

theorem letter_ok (hT : T.fn 48 = some C48) {c : Int} {h : Heap} : Wk T (.fn 48) [.int .u8 c] h (fun o h' => h' = h ∧ o = .ret (.bool (isL c))) := by
  refine Wk_fn hT (by simp [C48]) ?_
  simp only [C48]
  refine Wc_seq (Wc_ops (Wo_run (fun call => by simp only [List.drop_succ_cons, List.drop_zero, iops_nil, iops_op, iops_grd, iK_some, iG_true, iG_false, gval_bool, beq_self_eq_true, beq_true, beq_false, Bool.not_true, Bool.not_false, iop, ev, upd, dstUpd, binV, binI, unV, ptr, Heap.cell, Heap.write, cellsOf, put, args0, partL, List.getD_cons_zero, List.getD_cons_succ, List.length_cons, List.length_nil, List.set_cons_zero, List.set_cons_succ, List.getElem?_cons_zero, List.getElem?_cons_succ, reduceIte, Nat.reduceEqDiff, Nat.reduceAdd, Nat.reduceMul, Nat.reduceLeDiff, Nat.zero_add, Nat.add_zero, Option.map_some, Int.reduceEq, Int.reduceLT, Int.reduceLE, Bool.false_eq_true, decide_true, decide_false, ge_iff_le, gt_iff_lt, set_get']; rfl) ?_))
  show Wc T _ _ _
  have fin : ∀ (e : Env) (b : Bool), e 2 = .bool b → isL c = b → (Ex.ret = .normal ∨ Ex.ret = .ret) ∧ some ([] : List Dfr) = some [] ∧ ∃ vs, resAll e h [.tmp 2] = some vs ∧ h = h ∧ Out.ret (tup vs) = .ret (.bool (isL c)) := fun e b h1 h2 => ⟨.inr rfl, rfl, [.bool b], by simp only [resAll, resV, h1], rfl, by rw [h2]; rfl⟩
  by_cases a1 : (97 : Int) ≤ c <;> by_cases a2 : c ≤ 122 <;> by_cases a3 : (65 : Int) ≤ c <;> by_cases a4 : c ≤ 90 <;> by_cases a5 : c = 95 <;> first
    | (exfalso; omega)
    | (refine Wc_seq (Wc_ops (Wo_run (fun call => by simp only [List.drop_succ_cons, List.drop_zero, iops_nil, iops_op, iops_grd, iK_some, iG_true, iG_false, gval_bool, beq_self_eq_true, beq_true, beq_false, Bool.not_true, Bool.not_false, iop, ev, upd, dstUpd, binV, binI, unV, ptr, Heap.cell, Heap.write, cellsOf, put, args0, partL, List.getD_cons_zero, List.getD_cons_succ, List.length_cons, List.length_nil, List.set_cons_zero, List.set_cons_succ, List.getElem?_cons_zero, List.getElem?_cons_succ, reduceIte, Nat.reduceEqDiff, Nat.reduceAdd, Nat.reduceMul, Nat.reduceLeDiff, Nat.zero_add, Nat.add_zero, Option.map_some, Int.reduceEq, Int.reduceLT, Int.reduceLE, Bool.false_eq_true, decide_true, decide_false, ge_iff_le, gt_iff_lt, set_get', a1, a2, a3, a4, a5, beq_iff_eq, beq_eq_false_iff_ne, ne_eq, not_false_eq_true]; rfl) ?_)); exact Wc_ret (fin _ _ (by simp only [upd, dstUpd, args0, List.getD_cons_zero, List.getD_cons_succ, reduceIte, Nat.reduceEqDiff, ptr] <;> first | rfl | assumption | (symm; assumption)) (by simp [isL, a1, a2, a3, a4, a5])))

theorem digit_ok (hT : T.fn 49 = some C49) {c : Int} {h : Heap} : Wk T (.fn 49) [.int .u8 c] h (fun o h' => h' = h ∧ o = .ret (.bool (isD c))) := by
  refine Wk_fn hT (by simp [C49]) ?_
  simp only [C49]
  refine Wc_seq (Wc_ops (Wo_run (fun call => by simp only [List.drop_succ_cons, List.drop_zero, iops_nil, iops_op, iops_grd, iK_some, iG_true, iG_false, gval_bool, beq_self_eq_true, beq_true, beq_false, Bool.not_true, Bool.not_false, iop, ev, upd, dstUpd, binV, binI, unV, ptr, Heap.cell, Heap.write, cellsOf, put, args0, partL, List.getD_cons_zero, List.getD_cons_succ, List.length_cons, List.length_nil, List.set_cons_zero, List.set_cons_succ, List.getElem?_cons_zero, List.getElem?_cons_succ, reduceIte, Nat.reduceEqDiff, Nat.reduceAdd, Nat.reduceMul, Nat.reduceLeDiff, Nat.zero_add, Nat.add_zero, Option.map_some, Int.reduceEq, Int.reduceLT, Int.reduceLE, Bool.false_eq_true, decide_true, decide_false, ge_iff_le, gt_iff_lt, set_get']; rfl) ?_))
  show Wc T _ _ _
  have fin : ∀ (e : Env) (b : Bool), e 2 = .bool b → isD c = b → (Ex.ret = .normal ∨ Ex.ret = .ret) ∧ some ([] : List Dfr) = some [] ∧ ∃ vs, resAll e h [.tmp 2] = some vs ∧ h = h ∧ Out.ret (tup vs) = .ret (.bool (isD c)) := fun e b h1 h2 => ⟨.inr rfl, rfl, [.bool b], by simp only [resAll, resV, h1], rfl, by rw [h2]; rfl⟩
  by_cases a1 : (48 : Int) ≤ c <;> by_cases a2 : c ≤ 57 <;> first
    | (exfalso; omega)
    | (refine Wc_seq (Wc_ops (Wo_run (fun call => by simp only [List.drop_succ_cons, List.drop_zero, iops_nil, iops_op, iops_grd, iK_some, iG_true, iG_false, gval_bool, beq_self_eq_true, beq_true, beq_false, Bool.not_true, Bool.not_false, iop, ev, upd, dstUpd, binV, binI, unV, ptr, Heap.cell, Heap.write, cellsOf, put, args0, partL, List.getD_cons_zero, List.getD_cons_succ, List.length_cons, List.length_nil, List.set_cons_zero, List.set_cons_succ, List.getElem?_cons_zero, List.getElem?_cons_succ, reduceIte, Nat.reduceEqDiff, Nat.reduceAdd, Nat.reduceMul, Nat.reduceLeDiff, Nat.zero_add, Nat.add_zero, Option.map_some, Int.reduceEq, Int.reduceLT, Int.reduceLE, Bool.false_eq_true, decide_true, decide_false, ge_iff_le, gt_iff_lt, set_get', a1, a2]; rfl) ?_)); exact Wc_ret (fin _ _ (by simp only [upd, dstUpd, args0, List.getD_cons_zero, List.getD_cons_succ, reduceIte, Nat.reduceEqDiff, ptr] <;> first | rfl | assumption | (symm; assumption)) (by simp [isD, a1, a2])))

theorem figure_ok (hT : T.fn 55 = some C55) (hd : T.fn 49 = some C49) {c : Int} {h : Heap} (h0 : 0 ≤ c) (h1 : c ≤ 255) : Wk T (.fn 55) [.int .u8 c] h (fun o h' => h' = h ∧ o = .ret (.int .u64 (figI 99 c))) := by
  refine Wk_fn hT (by simp [C55]) ?_
  simp only [C55]
  have fin : ∀ (e : Env) (x : Ex) (b : Int), (x = .normal ∨ x = .ret) → e 2 = .int .u64 b → figI 99 c = b → (x = .normal ∨ x = .ret) ∧ some ([] : List Dfr) = some [] ∧ ∃ vs, resAll e h [.tmp 2] = some vs ∧ h = h ∧ Out.ret (tup vs) = .ret (.int .u64 (figI 99 c)) := fun e x b hx h1 h2 => ⟨hx, rfl, [.int .u64 b], by simp only [resAll, resV, h1], rfl, by rw [h2]; rfl⟩
  refine Wc_seq (Wc_ops (Wo_run (fun call => by simp only [List.drop_succ_cons, List.drop_zero, iops_nil, iops_op, iops_grd, iK_some, iG_true, iG_false, gval_bool, beq_self_eq_true, beq_true, beq_false, Bool.not_true, Bool.not_false, iop, ev, upd, dstUpd, binV, binI, unV, ptr, Heap.cell, Heap.write, cellsOf, put, args0, partL, List.getD_cons_zero, List.getD_cons_succ, List.length_cons, List.length_nil, List.set_cons_zero, List.set_cons_succ, List.getElem?_cons_zero, List.getElem?_cons_succ, reduceIte, Nat.reduceEqDiff, Nat.reduceAdd, Nat.reduceMul, Nat.reduceLeDiff, Nat.zero_add, Nat.add_zero, Option.map_some, Int.reduceEq, Int.reduceLT, Int.reduceLE, Bool.false_eq_true, decide_true, decide_false, ge_iff_le, gt_iff_lt, set_get']; rfl) ?_))
  show Wc T _ _ _
  refine Wc_seq (Wc_block (Wc_seq (Wc_ops (Wo_pre 1 (fun call => by simp only [List.take_succ_cons, List.take_zero, List.drop_succ_cons, List.drop_zero, iops_nil, iops_op, iops_grd, iK_some, iG_true, iG_false, gval_bool, beq_self_eq_true, beq_true, beq_false, Bool.not_true, Bool.not_false, iop, ev, upd, dstUpd, binV, binI, unV, ptr, Heap.cell, Heap.write, cellsOf, put, args0, partL, List.getD_cons_zero, List.getD_cons_succ, List.length_cons, List.length_nil, List.set_cons_zero, List.set_cons_succ, List.getElem?_cons_zero, List.getElem?_cons_succ, reduceIte, Nat.reduceEqDiff, Nat.reduceAdd, Nat.reduceMul, Nat.reduceLeDiff, Nat.zero_add, Nat.add_zero, Option.map_some, Int.reduceEq, Int.reduceLT, Int.reduceLE, Bool.false_eq_true, decide_true, decide_false, ge_iff_le, gt_iff_lt, set_get']; rfl) ?_))))
  refine Wo_call (Wk_pure (digit_ok hd) ?_)
  refine (Wo_run (fun call => by simp only [List.drop_succ_cons, List.drop_zero, iops_nil, iops_op, iops_grd, iK_some, iG_true, iG_false, gval_bool, beq_self_eq_true, beq_true, beq_false, Bool.not_true, Bool.not_false, iop, ev, upd, dstUpd, binV, binI, unV, ptr, Heap.cell, Heap.write, cellsOf, put, args0, partL, List.getD_cons_zero, List.getD_cons_succ, List.length_cons, List.length_nil, List.set_cons_zero, List.set_cons_succ, List.getElem?_cons_zero, List.getElem?_cons_succ, reduceIte, Nat.reduceEqDiff, Nat.reduceAdd, Nat.reduceMul, Nat.reduceLeDiff, Nat.zero_add, Nat.add_zero, Option.map_some, Int.reduceEq, Int.reduceLT, Int.reduceLE, Bool.false_eq_true, decide_true, decide_false, ge_iff_le, gt_iff_lt, set_get']; rfl) ?_)
  show Wc T _ _ _
  by_cases d1 : (48 : Int) ≤ c ∧ c ≤ 57
  · refine Wc_cond true (by simp [ev, upd, dstUpd, isD, d1.1, d1.2]) (fun _ => ?_) (fun e => by cases e)
    refine Wc_seq (Wc_ops (Wo_run (fun call => by simp only [List.drop_succ_cons, List.drop_zero, iops_nil, iops_op, iops_grd, iK_some, iG_true, iG_false, gval_bool, beq_self_eq_true, beq_true, beq_false, Bool.not_true, Bool.not_false, iop, ev, upd, dstUpd, binV, binI, unV, ptr, Heap.cell, Heap.write, cellsOf, put, args0, partL, List.getD_cons_zero, List.getD_cons_succ, List.length_cons, List.length_nil, List.set_cons_zero, List.set_cons_succ, List.getElem?_cons_zero, List.getElem?_cons_succ, reduceIte, Nat.reduceEqDiff, Nat.reduceAdd, Nat.reduceMul, Nat.reduceLeDiff, Nat.zero_add, Nat.add_zero, Option.map_some, Int.reduceEq, Int.reduceLT, Int.reduceLE, Bool.false_eq_true, decide_true, decide_false, ge_iff_le, gt_iff_lt, set_get', wrapU8 (show (0 : Int) ≤ c - 48 by omega) (show c - 48 ≤ 255 by omega), wrapU64 (show (0 : Int) ≤ c - 48 by omega) (show c - 48 ≤ 18446744073709551615 by omega)]; rfl) ?_))
    exact Wc_ret (fin _ _ _ (.inr rfl) (by simp only [upd, dstUpd, args0, List.getD_cons_zero, List.getD_cons_succ, reduceIte, Nat.reduceEqDiff, ptr] <;> first | rfl | assumption | (symm; assumption)) (by rw [figI, if_pos d1]))
  refine Wc_cond false (by simp only [ev, upd, dstUpd, reduceIte, Nat.reduceEqDiff, isD]; rw [← Bool.decide_and, decide_eq_false d1]) (fun e => by cases e) (fun _ => ?_)
  by_cases d2 : (97 : Int) ≤ c ∧ c ≤ 102
  · refine Wc_seq (Wc_ops (Wo_run (fun call => by simp only [List.drop_succ_cons, List.drop_zero, iops_nil, iops_op, iops_grd, iK_some, iG_true, iG_false, gval_bool, beq_self_eq_true, beq_true, beq_false, Bool.not_true, Bool.not_false, iop, ev, upd, dstUpd, binV, binI, unV, ptr, Heap.cell, Heap.write, cellsOf, put, args0, partL, List.getD_cons_zero, List.getD_cons_succ, List.length_cons, List.length_nil, List.set_cons_zero, List.set_cons_succ, List.getElem?_cons_zero, List.getElem?_cons_succ, reduceIte, Nat.reduceEqDiff, Nat.reduceAdd, Nat.reduceMul, Nat.reduceLeDiff, Nat.zero_add, Nat.add_zero, Option.map_some, Int.reduceEq, Int.reduceLT, Int.reduceLE, Bool.false_eq_true, decide_true, decide_false, ge_iff_le, gt_iff_lt, set_get', d2.1, d2.2]; rfl) ?_))
    show Wc T _ _ _
    refine Wc_cond true (by simp [ev, upd, dstUpd]) (fun _ => ?_) (fun e => by cases e)
    refine Wc_seq (Wc_ops (Wo_run (fun call => by simp only [List.drop_succ_cons, List.drop_zero, iops_nil, iops_op, iops_grd, iK_some, iG_true, iG_false, gval_bool, beq_self_eq_true, beq_true, beq_false, Bool.not_true, Bool.not_false, iop, ev, upd, dstUpd, binV, binI, unV, ptr, Heap.cell, Heap.write, cellsOf, put, args0, partL, List.getD_cons_zero, List.getD_cons_succ, List.length_cons, List.length_nil, List.set_cons_zero, List.set_cons_succ, List.getElem?_cons_zero, List.getElem?_cons_succ, reduceIte, Nat.reduceEqDiff, Nat.reduceAdd, Nat.reduceMul, Nat.reduceLeDiff, Nat.zero_add, Nat.add_zero, Option.map_some, Int.reduceEq, Int.reduceLT, Int.reduceLE, Bool.false_eq_true, decide_true, decide_false, ge_iff_le, gt_iff_lt, set_get', wrapU8 (show (0 : Int) ≤ c - 97 by omega) (show c - 97 ≤ 255 by omega), wrapU64 (show (0 : Int) ≤ c - 97 by omega) (show c - 97 ≤ 18446744073709551615 by omega), wrapU64 (show (0 : Int) ≤ c - 97 + 10 by omega) (show c - 97 + 10 ≤ 18446744073709551615 by omega)]; rfl) ?_))
    exact Wc_ret (fin _ _ _ (.inr rfl) (by simp only [upd, dstUpd, args0, List.getD_cons_zero, List.getD_cons_succ, reduceIte, Nat.reduceEqDiff, ptr] <;> first | rfl | assumption | (symm; assumption)) (by rw [figI, if_neg d1, if_pos d2]; omega))
  have n2 : ∀ (e : Env), e 0 = .int .u8 c → Wc T (.ops [⟨(some 10), .op (.mov (.t 0)), none⟩, ⟨(some 11), .op (.bin .geq (.t 10) (.c (.int .u8 97))), none⟩, ⟨(some 12), .op (.mov (.t 11)), none⟩, ⟨(some 13), .op (.mov (.t 0)), (some (12, true))⟩, ⟨(some 14), .op (.bin .leq (.t 13) (.c (.int .u8 102))), (some (12, true))⟩, ⟨(some 15), .op (.pick (.t 12) (.t 14) (.c (.bool false))), none⟩, ⟨(some 9), .op (.mov (.t 15)), none⟩]) ⟨e, h, some []⟩ (fun x s => x = .normal ∧ s.h = h ∧ s.d = some [] ∧ s.e 9 = .bool false ∧ s.e 0 = .int .u8 c) := by
    intro e e0
    by_cases x1 : (97 : Int) ≤ c <;> by_cases x2 : c ≤ 102 <;> first
      | (exfalso; omega)
      | (refine Wc_ops (Wo_run (fun call => by simp only [List.drop_succ_cons, List.drop_zero, iops_nil, iops_op, iops_grd, iK_some, iG_true, iG_false, gval_bool, beq_self_eq_true, beq_true, beq_false, Bool.not_true, Bool.not_false, iop, ev, upd, dstUpd, binV, binI, unV, ptr, Heap.cell, Heap.write, cellsOf, put, args0, partL, List.getD_cons_zero, List.getD_cons_succ, List.length_cons, List.length_nil, List.set_cons_zero, List.set_cons_succ, List.getElem?_cons_zero, List.getElem?_cons_succ, reduceIte, Nat.reduceEqDiff, Nat.reduceAdd, Nat.reduceMul, Nat.reduceLeDiff, Nat.zero_add, Nat.add_zero, Option.map_some, Int.reduceEq, Int.reduceLT, Int.reduceLE, Bool.false_eq_true, decide_true, decide_false, ge_iff_le, gt_iff_lt, set_get', e0, x1, x2]; rfl) ?_); exact ⟨rfl, rfl, rfl, (by simp only [upd, dstUpd, args0, List.getD_cons_zero, List.getD_cons_succ, reduceIte, Nat.reduceEqDiff, ptr, e0] <;> first | rfl | assumption | (symm; assumption)), (by simp only [upd, dstUpd, args0, List.getD_cons_zero, List.getD_cons_succ, reduceIte, Nat.reduceEqDiff, ptr, e0] <;> first | rfl | assumption | (symm; assumption))⟩)
  have n3 : ∀ (e : Env), e 0 = .int .u8 c → Wc T (.ops [⟨(some 21), .op (.mov (.t 0)), none⟩, ⟨(some 22), .op (.bin .geq (.t 21) (.c (.int .u8 65))), none⟩, ⟨(some 23), .op (.mov (.t 22)), none⟩, ⟨(some 24), .op (.mov (.t 0)), (some (23, true))⟩, ⟨(some 25), .op (.bin .leq (.t 24) (.c (.int .u8 70))), (some (23, true))⟩, ⟨(some 26), .op (.pick (.t 23) (.t 25) (.c (.bool false))), none⟩, ⟨(some 20), .op (.mov (.t 26)), none⟩]) ⟨e, h, some []⟩ (fun x s => x = .normal ∧ s.h = h ∧ s.d = some [] ∧ s.e 20 = .bool (decide (65 ≤ c ∧ c ≤ 70)) ∧ s.e 0 = .int .u8 c) := by
    intro e e0
    by_cases x1 : (65 : Int) ≤ c <;> by_cases x2 : c ≤ 70 <;> first
      | (exfalso; omega)
      | (refine Wc_ops (Wo_run (fun call => by simp only [List.drop_succ_cons, List.drop_zero, iops_nil, iops_op, iops_grd, iK_some, iG_true, iG_false, gval_bool, beq_self_eq_true, beq_true, beq_false, Bool.not_true, Bool.not_false, iop, ev, upd, dstUpd, binV, binI, unV, ptr, Heap.cell, Heap.write, cellsOf, put, args0, partL, List.getD_cons_zero, List.getD_cons_succ, List.length_cons, List.length_nil, List.set_cons_zero, List.set_cons_succ, List.getElem?_cons_zero, List.getElem?_cons_succ, reduceIte, Nat.reduceEqDiff, Nat.reduceAdd, Nat.reduceMul, Nat.reduceLeDiff, Nat.zero_add, Nat.add_zero, Option.map_some, Int.reduceEq, Int.reduceLT, Int.reduceLE, Bool.false_eq_true, decide_true, decide_false, ge_iff_le, gt_iff_lt, set_get', e0, x1, x2]; rfl) ?_); exact ⟨rfl, rfl, rfl, (by simp only [upd, dstUpd, args0, List.getD_cons_zero, List.getD_cons_succ, reduceIte, Nat.reduceEqDiff, ptr, e0, x1, x2, and_self, and_true, and_false, decide_true, decide_false] <;> first | rfl | assumption | (symm; assumption)), (by simp only [upd, dstUpd, args0, List.getD_cons_zero, List.getD_cons_succ, reduceIte, Nat.reduceEqDiff, ptr, e0] <;> first | rfl | assumption | (symm; assumption))⟩)
  refine Wc_seq ((n2 _ (by simp only [upd, dstUpd, args0, List.getD_cons_zero, List.getD_cons_succ, reduceIte, Nat.reduceEqDiff, ptr] <;> first | rfl | assumption | (symm; assumption))).mono fun x s ⟨hx, hh, hd', q9, q0⟩ => ?_)
  obtain ⟨e2, h2, d2'⟩ := s
  simp only at hh hd' q9 q0
  rw [hx, hh, hd']
  show Wc T _ _ _
  refine Wc_cond false q9 (fun e => by cases e) (fun _ => ?_)
  refine Wc_seq ((n3 _ q0).mono fun x s ⟨hx, hh, hd', q20, p0⟩ => ?_)
  obtain ⟨e3, h3, d3'⟩ := s
  simp only at hh hd' q20 p0
  rw [hx, hh, hd']
  show Wc T _ _ _
  refine Wc_cond _ q20 (fun d3 => ?_) (fun d3 => Wc_skip ?_)
  · have d3 : (65 : Int) ≤ c ∧ c ≤ 70 := by simpa using d3
    refine Wc_seq (Wc_ops (Wo_run (fun call => by simp only [List.drop_succ_cons, List.drop_zero, iops_nil, iops_op, iops_grd, iK_some, iG_true, iG_false, gval_bool, beq_self_eq_true, beq_true, beq_false, Bool.not_true, Bool.not_false, iop, ev, upd, dstUpd, binV, binI, unV, ptr, Heap.cell, Heap.write, cellsOf, put, args0, partL, List.getD_cons_zero, List.getD_cons_succ, List.length_cons, List.length_nil, List.set_cons_zero, List.set_cons_succ, List.getElem?_cons_zero, List.getElem?_cons_succ, reduceIte, Nat.reduceEqDiff, Nat.reduceAdd, Nat.reduceMul, Nat.reduceLeDiff, Nat.zero_add, Nat.add_zero, Option.map_some, Int.reduceEq, Int.reduceLT, Int.reduceLE, Bool.false_eq_true, decide_true, decide_false, ge_iff_le, gt_iff_lt, set_get', p0, wrapU8 (show (0 : Int) ≤ c - 65 by omega) (show c - 65 ≤ 255 by omega), wrapU64 (show (0 : Int) ≤ c - 65 by omega) (show c - 65 ≤ 18446744073709551615 by omega), wrapU64 (show (0 : Int) ≤ c - 65 + 10 by omega) (show c - 65 + 10 ≤ 18446744073709551615 by omega)]; rfl) ?_))
    exact Wc_ret (fin _ _ _ (.inr rfl) (by simp only [upd, dstUpd, args0, List.getD_cons_zero, List.getD_cons_succ, reduceIte, Nat.reduceEqDiff, ptr] <;> first | rfl | assumption | (symm; assumption)) (by rw [figI, if_neg d1, if_neg d2, if_pos d3]; omega))
  · have d3 : ¬ ((65 : Int) ≤ c ∧ c ≤ 70) := by simpa using d3
    show Wc T _ _ _
    refine Wc_seq (Wc_ops (Wo_run (fun call => by simp only [List.drop_succ_cons, List.drop_zero, iops_nil, iops_op, iops_grd, iK_some, iG_true, iG_false, gval_bool, beq_self_eq_true, beq_true, beq_false, Bool.not_true, Bool.not_false, iop, ev, upd, dstUpd, binV, binI, unV, ptr, Heap.cell, Heap.write, cellsOf, put, args0, partL, List.getD_cons_zero, List.getD_cons_succ, List.length_cons, List.length_nil, List.set_cons_zero, List.set_cons_succ, List.getElem?_cons_zero, List.getElem?_cons_succ, reduceIte, Nat.reduceEqDiff, Nat.reduceAdd, Nat.reduceMul, Nat.reduceLeDiff, Nat.zero_add, Nat.add_zero, Option.map_some, Int.reduceEq, Int.reduceLT, Int.reduceLE, Bool.false_eq_true, decide_true, decide_false, ge_iff_le, gt_iff_lt, set_get']; rfl) ?_))
    exact Wc_ret (fin _ _ _ (.inr rfl) (by simp only [upd, dstUpd, args0, List.getD_cons_zero, List.getD_cons_succ, reduceIte, Nat.reduceEqDiff, ptr] <;> first | rfl | assumption | (symm; assumption)) (by rw [figI, if_neg d1, if_neg d2, if_neg d3]))

end Go.Idl
end

section
/- Numbers: what a text is, and the functions that tell it. -/
namespace Go.Idl
set_option linter.unusedVariables false
set_option linter.unusedSimpArgs false
set_option maxRecDepth 100000

variable {T : Tbl}

def bs (s : ByteArray) : List UInt8 := s.data.toList
theorem bs_size (s : ByteArray) : s.size = (bs s).length := (Array.length_toList).symm
theorem bs_inj {s t : ByteArray} (h : bs s = bs t) : s = t := by
  obtain ⟨⟨l⟩⟩ := s
  obtain ⟨⟨k⟩⟩ := t
  simp only [bs] at h
  rw [h]
theorem bs_extract (s : ByteArray) (a b : Nat) : bs (s.extract a b) = ((bs s).take b).drop a := by
  simp only [bs, ByteArray.data_extract, Array.toList_extract, List.extract_eq_take_drop]
  rw [List.drop_take]
theorem bs_at {s : ByteArray} {j : Nat} (h : j < s.size) : ∃ b, (bs s)[j]? = some b := ⟨_, List.getElem?_eq_getElem (by rw [← bs_size]; exact h)⟩
theorem u8_lt (b : UInt8) : 0 ≤ ((b.toNat : Nat) : Int) ∧ ((b.toNat : Nat) : Int) ≤ 255 := ⟨by omega, by have := b.toNat_lt; omega⟩

/-- A text's figures, from a number on. -/
def wholeF (base : Int) : List UInt8 → Int → Option Int
  | [], n => some n
  | c :: r, n => if base ≤ figI 255 c.toNat then none else if (9223372036854775807 - figI 255 c.toNat) / base < n then none else wholeF base r (n * base + figI 255 c.toNat)
def wholeR (base : Int) (l : List UInt8) : Int × Bool := match wholeF base l 0 with
  | some n => (n, decide (l ≠ []))
  | none => (0, false)

theorem figI_lt {b c : Int} (hb : b ≤ 16) : (b ≤ figI 99 c ↔ b ≤ figI 255 c) ∧ (¬ b ≤ figI 255 c → figI 99 c = figI 255 c ∧ 0 ≤ figI 255 c) := by
  unfold figI
  repeat' split
  all_goals constructor
  all_goals omega

/-- What a text's first bytes come to. -/
def pre (base : Int) (l : List UInt8) (j : Nat) : Option Int := wholeF base (l.take j) 0
theorem wholeF_append (base : Int) : ∀ (a b : List UInt8) (n : Int), wholeF base (a ++ b) n = match wholeF base a n with | some m => wholeF base b m | none => none
  | [], b, n => rfl
  | c :: a, b, n => by
    simp only [List.cons_append, wholeF]
    split
    · rfl
    · split
      · rfl
      · exact wholeF_append base a b _
theorem pre_succ {base : Int} {l : List UInt8} {j : Nat} {c : UInt8} (h : l[j]? = some c) : pre base l (j + 1) = match pre base l j with | some m => wholeF base [c] m | none => none := by
  unfold pre
  rw [List.take_add_one, h, wholeF_append]; rfl
theorem whole_none {base : Int} {l : List UInt8} {j : Nat} (h : pre base l j = none) : wholeR base l = (0, false) := by
  unfold wholeR
  have := wholeF_append base (l.take j) (l.drop j) 0
  rw [List.take_append_drop] at this
  rw [this, show wholeF base (l.take j) 0 = none from h]
theorem whole_all {base : Int} {l : List UInt8} {n : Int} (h : pre base l l.length = some n) : wholeR base l = (n, decide (l ≠ [])) := by
  unfold wholeR
  unfold pre at h
  rw [List.take_length] at h
  rw [h]
theorem wholeF_range {base : Int} (hb : 0 < base) : ∀ {l : List UInt8} {n m : Int}, 0 ≤ n → n ≤ 9223372036854775807 → wholeF base l n = some m → 0 ≤ m ∧ m ≤ 9223372036854775807
  | [], n, m, h0, h1, h => by simp only [wholeF, Option.some.injEq] at h; omega
  | c :: l, n, m, h0, h1, h => by
    simp only [wholeF] at h
    split at h
    · cases h
    · split at h
      · cases h
      · rename_i a b
        have hf : 0 ≤ figI 255 c.toNat := by unfold figI; repeat' split; all_goals omega
        have hq : n ≤ (9223372036854775807 - figI 255 c.toNat) / base := by omega
        have := (Int.le_ediv_iff_mul_le hb).1 hq
        exact wholeF_range hb (by have := Int.mul_nonneg h0 (Int.le_of_lt hb); omega) (by omega) h

theorem whole_ok (hT : T.fn 51 = some C51) (hf : T.fn 55 = some C55) (hd : T.fn 49 = some C49) {s : ByteArray} {base : Int} {h : Heap} (hb : 0 < base) (hb' : base ≤ 16) (hs : s.size < 9223372036854775807) :
    Wk T (.fn 51) [.string s, .int .u64 base] h (fun o h' => h' = h ∧ o = .ret (.tuple #[.int .i64 (wholeR base (bs s)).1, .bool (wholeR base (bs s)).2])) := by
  refine Wk_fn hT (by simp [C51]) ?_
  simp only [C51]
  refine Wc_seq (Wc_ops (Wo_run (fun call => by simp only [List.drop_succ_cons, List.drop_zero, iops_nil, iops_op, iops_grd, iK_some, iG_true, iG_false, gval_bool, beq_self_eq_true, beq_true, beq_false, Bool.not_true, Bool.not_false, iop, ev, upd, dstUpd, binV, binI, unV, ptr, Heap.cell, Heap.write, cellsOf, put, args0, partL, List.getD_cons_zero, List.getD_cons_succ, List.length_cons, List.length_nil, List.set_cons_zero, List.set_cons_succ, List.getElem?_cons_zero, List.getElem?_cons_succ, reduceIte, Nat.reduceEqDiff, Nat.reduceAdd, Nat.reduceMul, Nat.reduceLeDiff, Nat.zero_add, Nat.add_zero, Option.map_some, Int.reduceEq, Int.reduceLT, Int.reduceLE, Bool.false_eq_true, decide_true, decide_false, ge_iff_le, gt_iff_lt, set_get']; rfl) ?_))
  show Wc T _ _ _
  refine Wc_seq (Wc_ops (Wo_run (fun call => by simp only [List.drop_succ_cons, List.drop_zero, iops_nil, iops_op, iops_grd, iK_some, iG_true, iG_false, gval_bool, beq_self_eq_true, beq_true, beq_false, Bool.not_true, Bool.not_false, iop, ev, upd, dstUpd, binV, binI, unV, ptr, Heap.cell, Heap.write, cellsOf, put, args0, partL, List.getD_cons_zero, List.getD_cons_succ, List.length_cons, List.length_nil, List.set_cons_zero, List.set_cons_succ, List.getElem?_cons_zero, List.getElem?_cons_succ, reduceIte, Nat.reduceEqDiff, Nat.reduceAdd, Nat.reduceMul, Nat.reduceLeDiff, Nat.zero_add, Nat.add_zero, Option.map_some, Int.reduceEq, Int.reduceLT, Int.reduceLE, Bool.false_eq_true, decide_true, decide_false, ge_iff_le, gt_iff_lt, set_get']; rfl) ?_))
  show Wc T _ _ _
  refine Wc_seq (Wc_seq (Wc_ops (Wo_run (fun call => by simp only [List.drop_succ_cons, List.drop_zero, iops_nil, iops_op, iops_grd, iK_some, iG_true, iG_false, gval_bool, beq_self_eq_true, beq_true, beq_false, Bool.not_true, Bool.not_false, iop, ev, upd, dstUpd, binV, binI, unV, ptr, Heap.cell, Heap.write, cellsOf, put, args0, partL, List.getD_cons_zero, List.getD_cons_succ, List.length_cons, List.length_nil, List.set_cons_zero, List.set_cons_succ, List.getElem?_cons_zero, List.getElem?_cons_succ, reduceIte, Nat.reduceEqDiff, Nat.reduceAdd, Nat.reduceMul, Nat.reduceLeDiff, Nat.zero_add, Nat.add_zero, Option.map_some, Int.reduceEq, Int.reduceLT, Int.reduceLE, Bool.false_eq_true, decide_true, decide_false, ge_iff_le, gt_iff_lt, set_get']; rfl) ?_)))
  show Wc T _ _ _
  refine Wc_for s.size (fun j e h' d => d = some [] ∧ h' = h ∧ ∃ n, pre base (bs s) j = some n ∧ e 6 = .int .u64 n) (by decide) (by simp only [upd, dstUpd, reduceIte, Nat.reduceEqDiff]) hs (by decide) ⟨rfl, rfl, 0, rfl, by simp only [upd, dstUpd, reduceIte, Nat.reduceEqDiff]⟩ ?_
  rintro j e h' d hj ⟨rfl, hh, n, hn, h6⟩ hfr h7
  rw [hh]
  have e0 : e 0 = .string s := (by rw [hfr 0 (by decide)]; try simp only [upd, dstUpd, args0, List.getD_cons_zero, List.getD_cons_succ, reduceIte, Nat.reduceEqDiff] <;> first | rfl | assumption | (symm; assumption))
  have e1 : e 1 = .int .u64 base := (by rw [hfr 1 (by decide)]; try simp only [upd, dstUpd, args0, List.getD_cons_zero, List.getD_cons_succ, reduceIte, Nat.reduceEqDiff] <;> first | rfl | assumption | (symm; assumption))
  have hnr := wholeF_range hb (by omega) (by omega) hn
  refine (Wo_run (fun call => by simp only [List.drop_succ_cons, List.drop_zero, iops_nil, iops_op, iops_grd, iK_some, iG_true, iG_false, gval_bool, beq_self_eq_true, beq_true, beq_false, Bool.not_true, Bool.not_false, iop, ev, upd, dstUpd, binV, binI, unV, ptr, Heap.cell, Heap.write, cellsOf, put, args0, partL, List.getD_cons_zero, List.getD_cons_succ, List.length_cons, List.length_nil, List.set_cons_zero, List.set_cons_succ, List.getElem?_cons_zero, List.getElem?_cons_succ, reduceIte, Nat.reduceEqDiff, Nat.reduceAdd, Nat.reduceMul, Nat.reduceLeDiff, Nat.zero_add, Nat.add_zero, Option.map_some, Int.reduceEq, Int.reduceLT, Int.reduceLE, Bool.false_eq_true, decide_true, decide_false, ge_iff_le, gt_iff_lt, set_get', h7, e0]; rfl) ?_)
  refine ⟨rfl, decide ((j : Int) < s.size), (by simp only [upd, dstUpd, args0, List.getD_cons_zero, List.getD_cons_succ, reduceIte, Nat.reduceEqDiff, ptr] <;> first | rfl | assumption | (symm; assumption)), fun hlt => ?_, fun hge => ?_⟩
  case refine_2 =>
    have hjs : j = (bs s).length := by simp only [decide_eq_false_iff_not] at hge; rw [← bs_size]; omega
    show Wc T _ _ _
    rw [hjs] at hn
    have hw : IntKind.i64.wrap n = n := wrap64 (by omega) (by omega)
    refine Wc_seq (Wc_ops (Wo_run (fun call => by simp only [List.drop_succ_cons, List.drop_zero, iops_nil, iops_op, iops_grd, iK_some, iG_true, iG_false, gval_bool, beq_self_eq_true, beq_true, beq_false, Bool.not_true, Bool.not_false, iop, ev, upd, dstUpd, binV, binI, unV, ptr, Heap.cell, Heap.write, cellsOf, put, args0, partL, List.getD_cons_zero, List.getD_cons_succ, List.length_cons, List.length_nil, List.set_cons_zero, List.set_cons_succ, List.getElem?_cons_zero, List.getElem?_cons_succ, reduceIte, Nat.reduceEqDiff, Nat.reduceAdd, Nat.reduceMul, Nat.reduceLeDiff, Nat.zero_add, Nat.add_zero, Option.map_some, Int.reduceEq, Int.reduceLT, Int.reduceLE, Bool.false_eq_true, decide_true, decide_false, ge_iff_le, gt_iff_lt, set_get', h6, e0, hw]; rfl) ?_))
    refine Wc_ret ⟨.inr rfl, rfl, [.int .i64 n, .bool (!decide (s = ⟨#[]⟩))], by simp only [resAll, resV, upd, dstUpd, reduceIte, Nat.reduceEqDiff], rfl, ?_⟩
    rw [whole_all hn]
    have : (!decide (s = ⟨#[]⟩)) = decide (bs s ≠ []) := by
      rw [← decide_not]
      congr 1
      refine propext ⟨fun hne he => hne (bs_inj he), fun hne he => hne (by rw [he]; rfl)⟩
    rw [this]; rfl
  have hjs : j < s.size := by simpa using hlt
  obtain ⟨c, hc⟩ := bs_at hjs
  have hsc : s.data.toList[j]? = some c := hc
  refine ⟨hjs, Wc_seq (Wc_ops (Wo_pre 3 (fun call => by simp only [List.take_succ_cons, List.take_zero, List.drop_succ_cons, List.drop_zero, iops_nil, iops_op, iops_grd, iK_some, iG_true, iG_false, gval_bool, beq_self_eq_true, beq_true, beq_false, Bool.not_true, Bool.not_false, iop, ev, upd, dstUpd, binV, binI, unV, ptr, Heap.cell, Heap.write, cellsOf, put, args0, partL, List.getD_cons_zero, List.getD_cons_succ, List.length_cons, List.length_nil, List.set_cons_zero, List.set_cons_succ, List.getElem?_cons_zero, List.getElem?_cons_succ, reduceIte, Nat.reduceEqDiff, Nat.reduceAdd, Nat.reduceMul, Nat.reduceLeDiff, Nat.zero_add, Nat.add_zero, Option.map_some, Int.reduceEq, Int.reduceLT, Int.reduceLE, Bool.false_eq_true, decide_true, decide_false, ge_iff_le, gt_iff_lt, set_get', h7, e0, idx_ok hjs, hsc]; rfl) ?_))⟩
  refine Wo_call (Wk_pure (figure_ok hf hd (u8_lt c).1 (u8_lt c).2) ?_)
  refine (Wo_run (fun call => by simp only [List.drop_succ_cons, List.drop_zero, iops_nil, iops_op, iops_grd, iK_some, iG_true, iG_false, gval_bool, beq_self_eq_true, beq_true, beq_false, Bool.not_true, Bool.not_false, iop, ev, upd, dstUpd, binV, binI, unV, ptr, Heap.cell, Heap.write, cellsOf, put, args0, partL, List.getD_cons_zero, List.getD_cons_succ, List.length_cons, List.length_nil, List.set_cons_zero, List.set_cons_succ, List.getElem?_cons_zero, List.getElem?_cons_succ, reduceIte, Nat.reduceEqDiff, Nat.reduceAdd, Nat.reduceMul, Nat.reduceLeDiff, Nat.zero_add, Nat.add_zero, Option.map_some, Int.reduceEq, Int.reduceLT, Int.reduceLE, Bool.false_eq_true, decide_true, decide_false, ge_iff_le, gt_iff_lt, set_get']; rfl) ?_)
  show Wc T _ _ _
  obtain ⟨f1, f2⟩ := figI_lt (c := c.toNat) hb'
  have no : pre base (bs s) (j + 1) = none → ∀ (e : Env), e 4 = .int .i64 0 → e 5 = .bool false → (Ex.ret = .normal ∨ Ex.ret = .ret) ∧ some ([] : List Dfr) = some [] ∧ ∃ vs, resAll e h [.tmp 4, .tmp 5] = some vs ∧ h = h ∧ Out.ret (tup vs) = .ret (.tuple #[.int .i64 (wholeR base (bs s)).1, .bool (wholeR base (bs s)).2]) := fun hp e h4 h5 =>
    ⟨.inr rfl, rfl, [.int .i64 0, .bool false], by simp only [resAll, resV, h4, h5], rfl, by rw [whole_none hp]; rfl⟩
  refine Wc_seq (Wc_seq (Wc_ops (Wo_run (fun call => by simp only [List.drop_succ_cons, List.drop_zero, iops_nil, iops_op, iops_grd, iK_some, iG_true, iG_false, gval_bool, beq_self_eq_true, beq_true, beq_false, Bool.not_true, Bool.not_false, iop, ev, upd, dstUpd, binV, binI, unV, ptr, Heap.cell, Heap.write, cellsOf, put, args0, partL, List.getD_cons_zero, List.getD_cons_succ, List.length_cons, List.length_nil, List.set_cons_zero, List.set_cons_succ, List.getElem?_cons_zero, List.getElem?_cons_succ, reduceIte, Nat.reduceEqDiff, Nat.reduceAdd, Nat.reduceMul, Nat.reduceLeDiff, Nat.zero_add, Nat.add_zero, Option.map_some, Int.reduceEq, Int.reduceLT, Int.reduceLE, Bool.false_eq_true, decide_true, decide_false, ge_iff_le, gt_iff_lt, set_get', e1]; rfl) ?_)))
  show Wc T _ _ _
  by_cases g1 : base ≤ figI 255 c.toNat
  · refine Wc_cond true (by simp [ev, upd, dstUpd, f1.2 g1]) (fun _ => ?_) (fun e => by cases e)
    refine Wc_seq (Wc_ops (Wo_run (fun call => by simp only [List.drop_succ_cons, List.drop_zero, iops_nil, iops_op, iops_grd, iK_some, iG_true, iG_false, gval_bool, beq_self_eq_true, beq_true, beq_false, Bool.not_true, Bool.not_false, iop, ev, upd, dstUpd, binV, binI, unV, ptr, Heap.cell, Heap.write, cellsOf, put, args0, partL, List.getD_cons_zero, List.getD_cons_succ, List.length_cons, List.length_nil, List.set_cons_zero, List.set_cons_succ, List.getElem?_cons_zero, List.getElem?_cons_succ, reduceIte, Nat.reduceEqDiff, Nat.reduceAdd, Nat.reduceMul, Nat.reduceLeDiff, Nat.zero_add, Nat.add_zero, Option.map_some, Int.reduceEq, Int.reduceLT, Int.reduceLE, Bool.false_eq_true, decide_true, decide_false, ge_iff_le, gt_iff_lt, set_get']; rfl) ?_))
    exact Wc_ret (no (by rw [pre_succ hc, hn]; simp only [wholeF, if_pos g1]) _ (by simp only [upd, dstUpd, args0, List.getD_cons_zero, List.getD_cons_succ, reduceIte, Nat.reduceEqDiff, ptr] <;> first | rfl | assumption | (symm; assumption)) (by simp only [upd, dstUpd, args0, List.getD_cons_zero, List.getD_cons_succ, reduceIte, Nat.reduceEqDiff, ptr] <;> first | rfl | assumption | (symm; assumption)))
  obtain ⟨f3, f4⟩ := f2 g1
  refine Wc_cond false (by simp [ev, upd, dstUpd, f3, g1]) (fun e => by cases e) (fun _ => Wc_skip ?_)
  show Wc T _ _ _
  rw [f3]
  have q1 : IntKind.u64.wrap (9223372036854775807 - figI 255 c.toNat) = 9223372036854775807 - figI 255 c.toNat := wrapU64 (by omega) (by omega)
  have hdiv : (9223372036854775807 - figI 255 c.toNat).tdiv base = (9223372036854775807 - figI 255 c.toNat) / base := Int.tdiv_eq_ediv_of_nonneg (by omega)
  have hq0 : 0 ≤ (9223372036854775807 - figI 255 c.toNat) / base := Int.ediv_nonneg (by omega) (by omega)
  have hq1 : (9223372036854775807 - figI 255 c.toNat) / base ≤ 9223372036854775807 - figI 255 c.toNat := Int.ediv_le_self _ (by omega)
  have q2 : IntKind.u64.wrap ((9223372036854775807 - figI 255 c.toNat) / base) = (9223372036854775807 - figI 255 c.toNat) / base := wrapU64 hq0 (by omega)
  have hb0 : ¬ base = 0 := by omega
  refine Wc_seq (Wc_seq (Wc_ops (Wo_run (fun call => by simp only [List.drop_succ_cons, List.drop_zero, iops_nil, iops_op, iops_grd, iK_some, iG_true, iG_false, gval_bool, beq_self_eq_true, beq_true, beq_false, Bool.not_true, Bool.not_false, iop, ev, upd, dstUpd, binV, binI, unV, ptr, Heap.cell, Heap.write, cellsOf, put, args0, partL, List.getD_cons_zero, List.getD_cons_succ, List.length_cons, List.length_nil, List.set_cons_zero, List.set_cons_succ, List.getElem?_cons_zero, List.getElem?_cons_succ, reduceIte, Nat.reduceEqDiff, Nat.reduceAdd, Nat.reduceMul, Nat.reduceLeDiff, Nat.zero_add, Nat.add_zero, Option.map_some, Int.reduceEq, Int.reduceLT, Int.reduceLE, Bool.false_eq_true, decide_true, decide_false, ge_iff_le, gt_iff_lt, set_get', h6, e1, q1, hdiv, q2, hb0]; rfl) ?_)))
  show Wc T _ _ _
  by_cases g2 : (9223372036854775807 - figI 255 c.toNat) / base < n
  · refine Wc_cond true (by simp [ev, upd, dstUpd, g2]) (fun _ => ?_) (fun e => by cases e)
    refine Wc_seq (Wc_ops (Wo_run (fun call => by simp only [List.drop_succ_cons, List.drop_zero, iops_nil, iops_op, iops_grd, iK_some, iG_true, iG_false, gval_bool, beq_self_eq_true, beq_true, beq_false, Bool.not_true, Bool.not_false, iop, ev, upd, dstUpd, binV, binI, unV, ptr, Heap.cell, Heap.write, cellsOf, put, args0, partL, List.getD_cons_zero, List.getD_cons_succ, List.length_cons, List.length_nil, List.set_cons_zero, List.set_cons_succ, List.getElem?_cons_zero, List.getElem?_cons_succ, reduceIte, Nat.reduceEqDiff, Nat.reduceAdd, Nat.reduceMul, Nat.reduceLeDiff, Nat.zero_add, Nat.add_zero, Option.map_some, Int.reduceEq, Int.reduceLT, Int.reduceLE, Bool.false_eq_true, decide_true, decide_false, ge_iff_le, gt_iff_lt, set_get']; rfl) ?_))
    exact Wc_ret (no (by rw [pre_succ hc, hn]; simp only [wholeF, if_neg g1, if_pos g2]) _ (by simp only [upd, dstUpd, args0, List.getD_cons_zero, List.getD_cons_succ, reduceIte, Nat.reduceEqDiff, ptr] <;> first | rfl | assumption | (symm; assumption)) (by simp only [upd, dstUpd, args0, List.getD_cons_zero, List.getD_cons_succ, reduceIte, Nat.reduceEqDiff, ptr] <;> first | rfl | assumption | (symm; assumption)))
  refine Wc_cond false (by simp [ev, upd, dstUpd, g2]) (fun e => by cases e) (fun _ => Wc_skip ?_)
  show Wc T _ _ _
  have hm := (Int.le_ediv_iff_mul_le hb).1 (show n ≤ (9223372036854775807 - figI 255 c.toNat) / base by omega)
  have hm0 : 0 ≤ n * base := Int.mul_nonneg hnr.1 (Int.le_of_lt hb)
  have q3 : IntKind.u64.wrap (base * n) = n * base := by rw [Int.mul_comm]; exact wrapU64 hm0 (by omega)
  have q4 : IntKind.u64.wrap (n * base + figI 255 c.toNat) = n * base + figI 255 c.toNat := wrapU64 (by omega) (by omega)
  refine Wc_ops (Wo_run (fun call => by simp only [List.drop_succ_cons, List.drop_zero, iops_nil, iops_op, iops_grd, iK_some, iG_true, iG_false, gval_bool, beq_self_eq_true, beq_true, beq_false, Bool.not_true, Bool.not_false, iop, ev, upd, dstUpd, binV, binI, unV, ptr, Heap.cell, Heap.write, cellsOf, put, args0, partL, List.getD_cons_zero, List.getD_cons_succ, List.length_cons, List.length_nil, List.set_cons_zero, List.set_cons_succ, List.getElem?_cons_zero, List.getElem?_cons_succ, reduceIte, Nat.reduceEqDiff, Nat.reduceAdd, Nat.reduceMul, Nat.reduceLeDiff, Nat.zero_add, Nat.add_zero, Option.map_some, Int.reduceEq, Int.reduceLT, Int.reduceLE, Bool.false_eq_true, decide_true, decide_false, ge_iff_le, gt_iff_lt, set_get', h6, e1, q3, q4]; rfl) ?_)
  refine ⟨rfl, rfl, n * base + figI 255 c.toNat, ?_, (by simp only [upd, dstUpd, args0, List.getD_cons_zero, List.getD_cons_succ, reduceIte, Nat.reduceEqDiff, ptr] <;> first | rfl | assumption | (symm; assumption))⟩
  rw [pre_succ hc, hn]
  simp only [wholeF, if_neg g1, if_neg g2]

end Go.Idl
end
