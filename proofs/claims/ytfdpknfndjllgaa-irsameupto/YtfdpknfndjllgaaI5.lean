/- Regions whose order is open: which orders there are; the run in the order of the text. -/
import Derived.Test.YtfdpknfndjllgaaI4c
namespace Go.Idl
set_option linter.unusedVariables false
set_option linter.unusedSimpArgs false

theorem rankOk_spec {md : Region.Mode} {ops : Array Oper} {rank : Nat → Nat} (h : rankOk md ops rank = true) {i : Nat} {o : Oper} (hi : ops[i]? = some o) {e : Edge} (he : e ∈ o.after) (hb : Region.binds md e = true) : e.on < ops.size ∧ rank e.on < rank i := by
  unfold rankOk at h
  have hlt : i < ops.size := (Array.getElem?_eq_some_iff.1 hi).1
  have := List.all_eq_true.1 h i (List.mem_range.2 hlt)
  simp only [hi, Option.map_some, Option.getD_some, Array.all_eq_true_iff_forall_mem] at this
  have := this e he
  simpa [hb] using this

theorem ready_nil {md : Region.Mode} {ops : Array Oper} {rank : Nat → Nat} (h : rankOk md ops rank = true) {listed : Array Bool} (hs : listed.size = ops.size) (hr : Region.ready md ops listed = []) :
    ∀ k i, rank i < k → i < ops.size → listed.getD i false = true := by
  intro k
  induction k with
  | zero => intro i hk; omega
  | succ k ih =>
    intro i hk hi
    cases hl : listed.getD i false with
    | true => rfl
    | false =>
      exfalso
      have : i ∈ Region.ready md ops listed := by
        unfold Region.ready
        rw [List.mem_filter]
        refine ⟨List.mem_range.2 hi, ?_⟩
        have hl2 : listed.getD i true = false := by
          rw [Array.getD_eq_getD_getElem?] at hl ⊢
          rw [Array.getElem?_eq_getElem (by omega)] at hl ⊢
          exact hl
        rw [hl2, Array.getElem?_eq_getElem hi]
        simp only [Bool.not_false, Bool.true_and, Option.map_some, Option.getD_some, Array.all_eq_true_iff_forall_mem]
        intro e he
        cases hb : Region.binds md e with
        | false => rfl
        | true =>
          obtain ⟨h1, h2⟩ := rankOk_spec h (Array.getElem?_eq_getElem hi) he hb
          simp [ih e.on (by omega) h1]
      rw [hr] at this
      cases this

theorem ready_spec {md : Region.Mode} {ops : Array Oper} {listed : Array Bool} {i : Nat} (hs : listed.size = ops.size) (h : i ∈ Region.ready md ops listed) :
    ∃ o, ops[i]? = some o ∧ listed.getD i false = false ∧ ∀ e ∈ o.after, Region.binds md e = true → listed.getD e.on false = true := by
  unfold Region.ready at h
  rw [List.mem_filter] at h
  have hi := List.mem_range.1 h.1
  have h2 := h.2
  rw [Array.getElem?_eq_getElem hi] at h2
  simp only [Bool.and_eq_true, Bool.not_eq_true', Option.map_some, Option.getD_some, Array.all_eq_true_iff_forall_mem, Bool.or_eq_true] at h2
  refine ⟨_, Array.getElem?_eq_getElem hi, ?_, fun e he hb => ?_⟩
  · have := h2.1
    rw [Array.getD_eq_getD_getElem?] at this ⊢
    rw [Array.getElem?_eq_getElem (by omega)] at this ⊢
    exact this
  · rcases h2.2 e he with hn | hl
    · rw [hb] at hn; cases hn
    · exact hl

theorem binds_any {md : Region.Mode} {e : Edge} (h : Region.binds .any e = true) : Region.binds md e = true := by
  unfold Region.binds at *
  split <;> simp_all

/-! ### What comes ahead -/

def ancF (acc : List (List Nat)) (o : Oper) : List Nat := (o.after.toList.foldl (fun s e => if Region.binds .any e then (e.on :: acc.getD e.on []) ++ s else s) []).eraseDups

theorem ancs_append (l : List Oper) (o : Oper) : ancs (l ++ [o]) = ancs l ++ [ancF (ancs l) o] := by
  simp [ancs, ancF]

theorem rev_ind {α : Type} {p : List α → Prop} (l : List α) (h0 : p []) (h1 : ∀ l a, p l → p (l ++ [a])) : p l := by
  have : ∀ l : List α, p l.reverse := by
    intro l
    induction l with
    | nil => exact h0
    | cons a l ih => rw [List.reverse_cons]; exact h1 _ _ ih
  simpa using this l.reverse

theorem ancs_length (l : List Oper) : (ancs l).length = l.length := by
  refine rev_ind (p := fun l => (ancs l).length = l.length) l rfl fun l o ih => ?_
  rw [ancs_append]; simp [ih]

theorem mem_foldl_anc (acc : List (List Nat)) (es : List Edge) (s : List Nat) {j : Nat} (h : j ∈ es.foldl (fun s e => if Region.binds .any e then (e.on :: acc.getD e.on []) ++ s else s) s) :
    j ∈ s ∨ ∃ e ∈ es, Region.binds .any e = true ∧ (j = e.on ∨ j ∈ acc.getD e.on []) := by
  induction es generalizing s with
  | nil => exact .inl h
  | cons e es ih =>
    rw [List.foldl_cons] at h
    rcases ih _ h with h1 | ⟨e', he', hh⟩
    · split at h1
      · rename_i hb
        rw [List.mem_append, List.mem_cons] at h1
        rcases h1 with h1 | h1
        · exact .inr ⟨e, by simp, hb, h1⟩
        · exact .inl h1
      · exact .inl h1
    · exact .inr ⟨e', by simp [he'], hh⟩

theorem ancs_mem (l : List Oper) : ∀ {i j : Nat}, j ∈ (ancs l).getD i [] → ∃ o, l[i]? = some o ∧ ∃ e ∈ o.after, Region.binds .any e = true ∧ (j = e.on ∨ j ∈ (ancs l).getD e.on []) := by
  refine rev_ind (p := fun l => ∀ {i j : Nat}, j ∈ (ancs l).getD i [] → ∃ o, l[i]? = some o ∧ ∃ e ∈ o.after, Region.binds .any e = true ∧ (j = e.on ∨ j ∈ (ancs l).getD e.on [])) l ?_ fun l o ih => ?_
  · intro i j h; simp [ancs] at h
  · intro i j h
    have up : ∀ k, j ∈ (ancs l).getD k [] → j ∈ (ancs (l ++ [o])).getD k [] := by
      intro k hk
      rw [ancs_append]
      simp only [List.getD_eq_getElem?_getD] at hk ⊢
      by_cases hlt : k < (ancs l).length
      · rw [List.getElem?_append_left hlt]; exact hk
      · rw [List.getElem?_eq_none (by omega)] at hk; simp at hk
    rw [ancs_append] at h
    simp only [List.getD_eq_getElem?_getD] at h
    by_cases hlt : i < (ancs l).length
    · rw [List.getElem?_append_left hlt] at h
      obtain ⟨o', ho', e, he, hb, hj⟩ := ih (i := i) (j := j) (by simpa [List.getD_eq_getElem?_getD] using h)
      refine ⟨o', ?_, e, he, hb, hj.imp id (up _)⟩
      rw [ancs_length] at hlt
      rw [List.getElem?_append_left hlt]; exact ho'
    · by_cases hi : i = (ancs l).length
      · subst hi
        rw [List.getElem?_append_right (Nat.le_refl _)] at h
        simp only [Nat.sub_self, List.getElem?_cons_zero, Option.getD_some] at h
        unfold ancF at h
        rw [List.mem_eraseDups] at h
        rcases mem_foldl_anc _ _ _ h with h1 | ⟨e, he, hb, hj⟩
        · cases h1
        · exact ⟨o, by rw [ancs_length]; simp, e, by simpa using he, hb, hj.imp id (up _)⟩
      · rw [List.getElem?_eq_none (by simp; omega)] at h
        simp at h

/-- What has been done holds all that comes ahead of it. -/
theorem anc_listed {md : Region.Mode} {ops : Array Oper} {listed : Array Bool} (hs : listed.size = ops.size) (hcl : ∀ i, listed.getD i false = true → ∀ j ∈ (ancs ops.toList).getD i [], listed.getD j false = true)
    {i : Nat} (hi : i ∈ Region.ready md ops listed) : ∀ j ∈ (ancs ops.toList).getD i [], listed.getD j false = true := by
  intro j hj
  obtain ⟨o, ho, _, hr⟩ := ready_spec hs hi
  obtain ⟨o', ho', e, he, hb, hh⟩ := ancs_mem _ hj
  rw [Array.getElem?_toList, ho] at ho'
  cases ho'
  have hl := hr e he (binds_any hb)
  rcases hh with rfl | hh
  · exact hl
  · exact hcl _ hl j hh

/-! ### The run in the order of the text -/

def okLoc (anc : List (List Nat)) (i k : Nat) (h h' : Heap) (l : Loc) : Prop := i ∈ anc.getD k [] ∨ sameAt h h' l

/-- A region's run: the state ahead of each operation. N: how many have gone through. -/
structure Run (call : CallF) (anc : List (List Nat)) (l : List Step) (i N : Nat) (σ : Nat → St) : Prop where
  le : i ≤ N
  top : N ≤ i + l.length
  step : ∀ k, i ≤ k → k < N → ∃ x, l[k - i]? = some x ∧ stepRes call x (σ k) = some (none, σ (k + 1))
  rdE : ∀ j k x y, i ≤ j → j < k → k < N → l[j - i]? = some x → l[k - i]? = some y → wantedE (σ j).e x.grd = true → wantedE (σ k).e y.grd = true → kdStm x.stm = .R → kdStm y.stm = .E →
    okLoc anc j k (σ k).h (σ (k + 1)).h (locStm x.stm (σ j).e)
  nwE : ∀ j k x y, i ≤ j → j < k → k < N → l[j - i]? = some x → l[k - i]? = some y → wantedE (σ j).e x.grd = true → wantedE (σ k).e y.grd = true → kdStm x.stm = .A → kdStm y.stm = .E →
    okLoc anc j k (σ k).h (σ (k + 1)).h (.blk (σ j).h.next)
  eRd : ∀ j k x y, i ≤ j → j < k → k < N → l[j - i]? = some x → l[k - i]? = some y → wantedE (σ j).e x.grd = true → wantedE (σ k).e y.grd = true → kdStm x.stm = .E → kdStm y.stm = .R →
    okLoc anc j k (σ j).h (σ (j + 1)).h (locStm y.stm (σ k).e)

structure Past (anc : List (List Nat)) (l : List Step) (i N : Nat) (σ : Nat → St) (rs : List (Nat × Loc)) (es : List (Nat × Heap × Heap)) : Prop where
  rd : ∀ p ∈ rs, ∀ k y, i ≤ k → k < N → l[k - i]? = some y → wantedE (σ k).e y.grd = true → kdStm y.stm = .E → okLoc anc p.1 k (σ k).h (σ (k + 1)).h p.2
  ef : ∀ p ∈ es, ∀ k y, i ≤ k → k < N → l[k - i]? = some y → wantedE (σ k).e y.grd = true → kdStm y.stm = .R → okLoc anc p.1 k p.2.1 p.2.2 (locStm y.stm (σ k).e)

def RunEnd (call : CallF) (anc : List (List Nat)) (ds : List Nat) (l : List Step) (i N : Nat) (σ : Nat → St) (r : Option Value) (s' : St) : Prop :=
  match r with
  | none => N = i + l.length ∧ s' = σ N
  | some v => ∃ x s1, l[N - i]? = some x ∧ N < i + l.length ∧ stepRes call x (σ N) = some (some v, s1) ∧ s' = { s1 with e := forget (σ N).e ds } ∧ allAnc N anc (l.drop (N - i + 1)) (N + 1) = true

theorem idraw_run {call : CallF} {anc : List (List Nat)} {ds : List Nat} : ∀ {l : List Step} {i : Nat} {rs : List (Nat × Loc)} {es : List (Nat × Heap × Heap)} {s : St} {r : Option Value} {s' : St},
    idraw call anc ds l i rs es s = some (r, s') → ∃ σ N, σ i = s ∧ Run call anc l i N σ ∧ Past anc l i N σ rs es ∧ RunEnd call anc ds l i N σ r s'
  | [], i, rs, es, s, r, s', h => by
    simp only [idraw, Option.some.injEq, Prod.mk.injEq] at h
    obtain ⟨rfl, rfl⟩ := h
    refine ⟨fun _ => s, i, rfl, ⟨Nat.le_refl _, by simp, ?_, ?_, ?_, ?_⟩, ⟨?_, ?_⟩, by simp [RunEnd]⟩
    all_goals intros; first | omega | skip
    all_goals (exfalso; omega)
  | x :: rest, i, rs, es, s, r, s', h => by
    -- behind the first
    have go : ∀ {s1 : St} {rs1 es1}, stepRes call x s = some (none, s1) → idraw call anc ds rest (i + 1) rs1 es1 s1 = some (r, s') →
        (∀ p ∈ rs, p ∈ rs1) → (∀ p ∈ es, p ∈ es1) →
        (wantedE s.e x.grd = true → kdStm x.stm = .R → (i, locStm x.stm s.e) ∈ rs1) → (wantedE s.e x.grd = true → kdStm x.stm = .A → (i, .blk s.h.next) ∈ rs1) → (wantedE s.e x.grd = true → kdStm x.stm = .E → (i, s.h, s1.h) ∈ es1) →
        (wantedE s.e x.grd = true → kdStm x.stm = .E → ∀ p ∈ rs, okLoc anc p.1 i s.h s1.h p.2) → (wantedE s.e x.grd = true → kdStm x.stm = .R → ∀ p ∈ es, okLoc anc p.1 i p.2.1 p.2.2 (locStm x.stm s.e)) →
        ∃ σ N, σ i = s ∧ Run call anc (x :: rest) i N σ ∧ Past anc (x :: rest) i N σ rs es ∧ RunEnd call anc ds (x :: rest) i N σ r s' := by
      intro s1 rs1 es1 hst hi hrs hes hR hA hE hcE hcR
      obtain ⟨σ, N, h0, hrun, hpast, hend⟩ := idraw_run hi
      have hN := hrun.le
      have e1 : ∀ k, i + 1 ≤ k → (if k = i then s else σ k) = σ k := fun k hk => if_neg (by omega)
      have e2 : ∀ k, i + 1 ≤ k → (x :: rest)[k - i]? = rest[k - (i + 1)]? := fun k hk => by
        rw [show k - i = (k - (i + 1)) + 1 by omega]; rfl
      have ex : (x :: rest)[i - i]? = some x := by simp
      refine ⟨fun k => if k = i then s else σ k, N, by simp, ⟨by omega, ?_, ?_, ?_, ?_, ?_⟩, ⟨?_, ?_⟩, ?_⟩
      · have := hrun.top; simp; omega
      · intro k hk hkN
        by_cases hki : k = i
        · subst hki
          exact ⟨x, ex, by simp only [if_pos rfl]; rw [e1 (k + 1) (by omega), h0]; exact hst⟩
        · obtain ⟨y, hy, hys⟩ := hrun.step k (by omega) hkN
          exact ⟨y, by rw [e2 k (by omega)]; exact hy, by rw [e1 k (by omega), e1 (k + 1) (by omega)]; exact hys⟩
      · intro j k y z hj hjk hk hy hz hwy hwz hdy hdz
        rw [e2 k (by omega)] at hz
        simp only [e1 k (by omega), e1 (k + 1) (by omega)] at hwz ⊢
        by_cases hji : j = i
        · subst hji
          rw [ex] at hy; cases hy
          simp only [if_pos] at hwy ⊢
          exact hpast.rd _ (hR hwy hdy) k z (by omega) hk hz hwz hdz
        · rw [e2 j (by omega)] at hy
          simp only [e1 j (by omega)] at hwy ⊢
          exact hrun.rdE j k y z (by omega) hjk hk hy hz hwy hwz hdy hdz
      · intro j k y z hj hjk hk hy hz hwy hwz hdy hdz
        rw [e2 k (by omega)] at hz
        simp only [e1 k (by omega), e1 (k + 1) (by omega)] at hwz ⊢
        by_cases hji : j = i
        · subst hji
          rw [ex] at hy; cases hy
          simp only [if_pos] at hwy ⊢
          exact hpast.rd _ (hA hwy hdy) k z (by omega) hk hz hwz hdz
        · rw [e2 j (by omega)] at hy
          simp only [e1 j (by omega)] at hwy ⊢
          exact hrun.nwE j k y z (by omega) hjk hk hy hz hwy hwz hdy hdz
      · intro j k y z hj hjk hk hy hz hwy hwz hdy hdz
        rw [e2 k (by omega)] at hz
        simp only [e1 k (by omega)] at hwz ⊢
        by_cases hji : j = i
        · subst hji
          rw [ex] at hy; cases hy
          rw [e1 (j + 1) (by omega), h0]
          simp only [if_pos] at hwy ⊢
          exact hpast.ef _ (hE hwy hdy) k z (by omega) hk hz hwz hdz
        · rw [e2 j (by omega)] at hy
          simp only [e1 j (by omega), e1 (j + 1) (by omega)] at hwy ⊢
          exact hrun.eRd j k y z (by omega) hjk hk hy hz hwy hwz hdy hdz
      · intro p hp k y hk hkN hy hwy hdy
        by_cases hki : k = i
        · subst hki
          rw [ex] at hy; cases hy
          rw [e1 (k + 1) (by omega), h0]
          simp only [if_pos] at hwy ⊢
          exact hcE hwy hdy p hp
        · rw [e2 k (by omega)] at hy
          simp only [e1 k (by omega), e1 (k + 1) (by omega)] at hwy ⊢
          exact hpast.rd p (hrs p hp) k y (by omega) hkN hy hwy hdy
      · intro p hp k y hk hkN hy hwy hdy
        by_cases hki : k = i
        · subst hki
          rw [ex] at hy; cases hy
          simp only [if_pos] at hwy ⊢
          exact hcR hwy hdy p hp
        · rw [e2 k (by omega)] at hy
          simp only [e1 k (by omega)] at hwy ⊢
          exact hpast.ef p (hes p hp) k y (by omega) hkN hy hwy hdy
      · unfold RunEnd at hend ⊢
        cases r with
        | none =>
          simp only at hend ⊢
          simp only [e1 N (by omega)]
          exact ⟨by rw [hend.1]; simp; omega, hend.2⟩
        | some v =>
          obtain ⟨y, s2, h1, h2, h3, h4, h5⟩ := hend
          refine ⟨y, s2, by rw [e2 N (by omega)]; exact h1, by simp; omega, by simp only [e1 N (by omega)]; exact h3, by simp only [e1 N (by omega)]; exact h4, ?_⟩
          rw [show N - i + 1 = (N - (i + 1) + 1) + 1 by omega]
          exact h5
    simp only [idraw] at h
    by_cases hw : wantedE s.e x.grd = true
    · rw [if_pos hw] at h
      have hsr : stepRes call x s = istm call x.dst x.stm s := by unfold stepRes; rw [if_pos hw]
      cases hm : istm call x.dst x.stm s with
      | none => rw [hm] at h; cases h
      | some q =>
        obtain ⟨rv, s1⟩ := q
        rw [hm] at h hsr
        cases rv with
        | some v =>
          simp only at h
          split at h
          case isFalse => cases h
          rename_i hall
          simp only [Option.some.injEq, Prod.mk.injEq] at h
          obtain ⟨rfl, rfl⟩ := h
          refine ⟨fun _ => s, i, rfl, ⟨Nat.le_refl _, by simp, ?_, ?_, ?_, ?_⟩, ⟨?_, ?_⟩, x, s1, by simp, by simp, hsr, rfl, by simpa using hall⟩
          all_goals (intros; exfalso; omega)
        | none =>
          simp only at h
          cases hk : kdStm x.stm with
          | P =>
            rw [hk] at h
            exact go hsr h (fun _ h => h) (fun _ h => h) (fun _ h => by rw [hk] at h; cases h) (fun _ h => by rw [hk] at h; cases h) (fun _ h => by rw [hk] at h; cases h) (fun _ h => by rw [hk] at h; cases h) (fun _ h => by rw [hk] at h; cases h)
          | R =>
            rw [hk] at h
            simp only at h
            split at h
            case isFalse => cases h
            rename_i hc
            exact go hsr h (fun _ h => List.mem_cons_of_mem _ h) (fun _ h => h) (fun _ _ => List.mem_cons_self ..) (fun _ h => by rw [hk] at h; cases h) (fun _ h => by rw [hk] at h; cases h) (fun _ h => by rw [hk] at h; cases h) (fun _ _ p hp => hc p hp)
          | A =>
            rw [hk] at h
            exact go hsr h (fun _ h => List.mem_cons_of_mem _ h) (fun _ h => h) (fun _ h => by rw [hk] at h; cases h) (fun _ _ => List.mem_cons_self ..) (fun _ h => by rw [hk] at h; cases h) (fun _ h => by rw [hk] at h; cases h) (fun _ h => by rw [hk] at h; cases h)
          | E =>
            rw [hk] at h
            simp only at h
            split at h
            case isFalse => cases h
            rename_i hc
            exact go hsr h (fun _ h => h) (fun _ h => List.mem_cons_of_mem _ h) (fun _ h => by rw [hk] at h; cases h) (fun _ h => by rw [hk] at h; cases h) (fun _ _ => List.mem_cons_self ..) (fun _ _ p hp => hc p hp) (fun _ h => by rw [hk] at h; cases h)
    · rw [if_neg hw] at h
      have hsr : stepRes call x s = some (none, { s with e := dstUpd s.e x.dst undef }) := by unfold stepRes; rw [if_neg hw]
      exact go hsr h (fun _ h => h) (fun _ h => h) (fun h => (hw h).elim) (fun h => (hw h).elim) (fun h => (hw h).elim) (fun h => (hw h).elim) (fun h => (hw h).elim)

end Go.Idl
