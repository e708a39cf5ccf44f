/- Regions whose order is open: the region. -/
import Derived.Test.YtfdpknfndjllgaaI5e
namespace Go.Idl
set_option linter.unusedVariables false
set_option linter.unusedSimpArgs false

variable {P : Program} {base : Nat} {w0 : World}

theorem Ok.drew {ι : Inj} {h : Heap} {w : World} (hk : Ok P base w0 ι h w) (w' : World) (e : w'.heap = w.heap) : Ok P base w0 ι h w' :=
  ⟨hk.sim.congr e, by rw [e]; exact hk.size, fun k hk' => by rw [e]; exact hk.old k hk'⟩

theorem Ext.drew {ι ι' : Inj} {h h' : Heap} {w w1 w' : World} (he : Ext ι h w1 ι' h' w') (e : w1.heap = w.heap) (e1 : w1.os = w.os) (e2 : w1.tape = w.tape) (e3 : w1.output = w.output) : Ext ι h w ι' h' w' :=
  ⟨he.inj, ⟨he.keeps.os.trans e1, he.keeps.tape.trans e2, he.keeps.output.trans e3, by rw [← e]; exact he.keeps.size, fun k hk hn => by rw [← e]; exact he.keeps.block k (by rw [e]; exact hk) hn⟩,
    fun r hr ho => he.own r (by rw [e]; exact hr) ho, he.next, he.fresh⟩

theorem csteps_spec {nt : Nat} {ops : Array Oper} : ∀ {os : List Oper} {l : List Step}, csteps P nt ops os = some l → l.length = os.length ∧ ∀ (i : Nat) o x, os[i]? = some o → l[i]? = some x → cstep P nt ops o = some x
  | [], l, h => by simp only [csteps, Option.some.injEq] at h; subst h; exact ⟨rfl, fun i o x ho => by simp at ho⟩
  | o :: os, l, h => by
    obtain ⟨y, ys, rfl, h1, h2⟩ := csteps_cons h
    obtain ⟨h3, h4⟩ := csteps_spec h2
    refine ⟨by simp [h3], fun i p x hp hx => ?_⟩
    cases i with
    | zero => simp at hp hx; subst hp; subst hx; exact h1
    | succ i => simp at hp hx; exact h4 i p x hp hx

theorem allAnc_spec {i : Nat} {anc : List (List Nat)} : ∀ {l : List Step} {k : Nat}, allAnc i anc l k = true → ∀ j, j < l.length → i ∈ anc.getD (k + j) []
  | [], _, _, j, hj => by simp at hj
  | x :: rest, k, h, j, hj => by
    simp only [allAnc, Bool.and_eq_true] at h
    cases j with
    | zero => simpa using h.1
    | succ j =>
      have := allAnc_spec h.2 j (by simpa using hj)
      rw [show k + (j + 1) = k + 1 + j by omega]; exact this

theorem Draw.any {nt : Nat} {call : CallF} {ops : Array Oper} {l : List Step} {N : Nat} {σ : Nat → St} {F : Fence} {ι0 : Inj} {w1 : World} (d : Draw P base w0 nt call ops l (ancs ops.toList) N σ F ι0 w1)
    {md : Region.Mode} {rank : Nat → Nat} (hr : rankOk md ops rank = true) {ds : List Nat} (hds : ∀ j t, writes l j t → t ∈ ds) {r : Option Value} {s' : St} (hend : RunEnd call (ancs ops.toList) ds l 0 N σ r s') {n : Nat} {Q : Exit → Act → World → Prop}
    (hQ : ∀ x e a' w', exOf (some (r, s')) = some (x, s') → ExPost P base w0 nt ι0 (σ 0).h w1 x s' e a' w' → Q e a' w') :
    ∀ (fuel : Nat) (listed : Array Bool) (c : Nat) (ι : Inj) (a : Act) (w : World), listed.size = ops.size → listed.toList.count false ≤ fuel → Inv P base w0 nt l (ancs ops.toList) N σ ι0 w1 (fun j => listed.getD j false) c ι a w →
      wpAnyIn F n P md ops Q fuel listed a w := by
  have htop := d.top
  have hlen := d.len
  -- nothing is left
  have fin : ∀ (listed : Array Bool) (c : Nat) (ι : Inj) (a : Act) (w : World), listed.size = ops.size → Inv P base w0 nt l (ancs ops.toList) N σ ι0 w1 (fun j => listed.getD j false) c ι a w → Region.ready md ops listed = [] → Q .normal a w := by
    intro listed c ι a w hs I hrd
    have hall : ∀ i, i < ops.size → listed.getD i false = true := fun i hi => ready_nil hr hs hrd (rank i + 1) i (by omega) hi
    have hN : N = l.length := by
      rcases Nat.lt_or_ge N l.length with h | h
      · have := I.dN N (hall N (by omega)); omega
      · omega
    cases r with
    | some v =>
      obtain ⟨x, s1, _, h2, _⟩ := hend
      omega
    | none =>
      obtain ⟨_, rfl⟩ := hend
      exact hQ .normal _ _ _ rfl (I.done d fun i hi => hall i (by omega))
  intro fuel
  induction fuel with
  | zero =>
    intro listed c ι a w hs hc I
    have hall : ∀ i, i < ops.size → listed.getD i false = true := by
      intro i hi
      cases hl : listed.getD i false with
      | true => rfl
      | false =>
        exfalso
        have : false ∈ listed.toList := by
          rw [Array.getD_eq_getD_getElem?, Array.getElem?_eq_getElem (by omega)] at hl
          simp only [Option.getD_some] at hl
          rw [← hl]; simp
        have := List.count_pos_iff.2 this
        omega
    have hrd : Region.ready md ops listed = [] := by
      cases hh : Region.ready md ops listed with
      | nil => rfl
      | cons i rest =>
        exfalso
        obtain ⟨o, ho, hf, _⟩ := ready_spec hs (show i ∈ Region.ready md ops listed by rw [hh]; simp)
        rw [hall i (Array.getElem?_eq_some_iff.1 ho).1] at hf; cases hf
    exact ⟨hrd, fin listed c ι a w hs I hrd⟩
  | succ fuel ih =>
    intro listed c ι a w hs hc I
    refine ⟨fin listed c ι a w hs I, fun i hi => ?_⟩
    obtain ⟨o, ho, hf, _⟩ := ready_spec hs hi
    have hlt : i < ops.size := (Array.getElem?_eq_some_iff.1 ho).1
    have han : ∀ j ∈ (ancs ops.toList).getD i [], listed.getD j false = true := anc_listed hs I.cl hi
    have hset : (fun j => (listed.setIfInBounds i true).getD j false) = also (fun j => listed.getD j false) i := by
      funext j
      by_cases e : j = i
      · subst e; simp [also, hs, hlt]
      · rw [getD_set_ne false (Ne.symm e)]; simp [also, e]
    have hcount : (listed.setIfInBounds i true).toList.count false ≤ fuel := by
      have h1 : (listed.setIfInBounds i true).toList = listed.toList.set i true := by simp [Array.setIfInBounds]; split <;> simp_all
      rw [h1, List.count_set (by simpa using (show i < listed.size by omega))]
      have h2 : listed.toList[i]'(by simpa using (show i < listed.size by omega)) = false := by
        rw [Array.getD_eq_getD_getElem?, Array.getElem?_eq_getElem (by omega)] at hf
        simpa using hf
      rw [h2]
      simp only [beq_self_eq_true, if_true, Bool.true_eq_false, beq_iff_eq, if_false, Nat.add_zero]
      omega
    rcases Nat.lt_trichotomy i N with h | h | h
    · exact d.opStep I h hf han fun c' ι' a' w' I' => ih _ c' ι' a' w' (by simpa using hs) hcount (by rw [hset]; exact I')
    · subst h
      cases r with
      | none => obtain ⟨h1, _⟩ := hend; omega
      | some v =>
        obtain ⟨x, s1, h1, h2, h3, h4, _⟩ := hend
        subst h4
        exact d.panStep I (by omega) (by simpa using h1) h3 hf han hds fun e a' w' hp => hQ (.pan v) e a' w' rfl hp
    · exfalso
      cases r with
      | none => obtain ⟨h1, _⟩ := hend; omega
      | some v =>
        obtain ⟨x, s1, _, _, _, _, h5⟩ := hend
        have := allAnc_spec h5 (i - (N + 1)) (by simp; omega)
        rw [show N + 1 + (i - (N + 1)) = i by omega] at this
        have := I.dN N (han N this)
        omega

theorem exOf_fst {r : Option Value} {s s' : St} {x : Ex} (h : exOf (some (r, s)) = some (x, s')) : s' = s := by
  cases r <;> simp only [exOf, Option.some.injEq, Prod.mk.injEq] at h <;> exact h.2.symm

theorem idraw_sound {call : CallF} (hcall : CallOk P base w0 call) {F : Fence} {nt n id : Nat} {ops : Array Oper} {l : List Step} (hl : csteps P nt ops ops.toList = some l) (hok : drawOk ops l (ancs ops.toList) = true) (hsch : schedOk ops = true)
    {s : St} {ι : Inj} {a : Act} {w : World} (hF : FOk F s.d) (hk : Ok P base w0 ι s.h w) (hsz : a.tmps.size = nt) (hE : ERep ι s.e a.tmps) (hD : DRep ι s.d a.defers) {x : Ex} {s' : St} {Q : Exit → Act → World → Prop}
    (hi : exOf (idraw call (ancs ops.toList) (l.filterMap (·.dst)) l 0 [] [] s) = some (x, s')) (hQ : ∀ e a' w', ExPost P base w0 nt ι s.h w x s' e a' w' → Q e a' w') : (Code.region id ops true).wpIn F n P Q a w := by
  cases hr : idraw call (ancs ops.toList) (l.filterMap (·.dst)) l 0 [] [] s with
  | none => rw [hr] at hi; cases hi
  | some rs =>
    obtain ⟨r, s2⟩ := rs
    rw [hr] at hi
    have := exOf_fst hi
    subst this
    obtain ⟨σ, N, h0, hrun, _, hend⟩ := idraw_run hr
    subst h0
    obtain ⟨hlen, hst⟩ := csteps_spec hl
    have hlen' : l.length = ops.size := by simpa using hlen
    have hst' : ∀ (i : Nat) o x, ops[i]? = some o → l[i]? = some x → cstep P nt ops o = some x := fun i o x ho hx => hst i o x (by simpa using ho) hx
    have htop := hrun.top
    -- a world for each moment of the run in the order of the text
    have ghost : ∀ i, i ≤ N → (σ i).d.isSome = (σ 0).d.isSome ∧ ∃ (ι : Inj) (a : Act) (w : World), Ok P base w0 ι (σ i).h w ∧ a.tmps.size = nt ∧ ERep ι (σ i).e a.tmps ∧ DRep ι (σ i).d a.defers := by
      intro i
      induction i with
      | zero => intro _; exact ⟨rfl, ι, a, w, hk, hsz, hE, hD⟩
      | succ i ih =>
        intro hi1
        obtain ⟨hd, ι1, a1, w1, g1, g2, g3, g4⟩ := ih (by omega)
        obtain ⟨y, hy, hys⟩ := hrun.step i (Nat.zero_le _) (by omega)
        simp only [Nat.sub_zero] at hy
        have hio : i < ops.size := by omega
        obtain ⟨ι2, a2, w2, k1, _, k2, k3, k4⟩ := step_some hcall (hF.of hd) (hst' i _ y (Array.getElem?_eq_getElem hio) hy) hys g1 g2 g3 g4
        exact ⟨by rw [stepRes_d hys, hd], ι2, a2, w2, k1, k2, k3, k4⟩
    have hnx : ∀ i, i < N → (σ i).h.next ≤ (σ (i + 1)).h.next := by
      intro i hiN
      obtain ⟨hd, ι1, a1, w1, g1, g2, g3, g4⟩ := ghost i (by omega)
      obtain ⟨y, hy, hys⟩ := hrun.step i (Nat.zero_le _) (by omega)
      simp only [Nat.sub_zero] at hy
      have hio : i < ops.size := by omega
      obtain ⟨ι2, a2, w2, k1, k5, k2, k3, k4⟩ := step_some hcall (hF.of hd) (hst' i _ y (Array.getElem?_eq_getElem hio) hy) hys g1 g2 g3 g4
      exact k5.next
    have hds : ∀ j t, writes l j t → t ∈ l.filterMap (·.dst) := by
      intro j t hw
      unfold writes at hw
      cases hj : l[j]? with
      | none => rw [hj] at hw; simp at hw
      | some y => rw [hj] at hw; exact List.mem_filterMap.2 ⟨y, List.mem_of_getElem? hj, by simpa using hw⟩
    have hok' : ∀ i j, i < j → j < l.length → pairOk ops l (ancs ops.toList) i j = true := by
      intro i j hij hj
      exact List.all_eq_true.1 (List.all_eq_true.1 hok j (List.mem_range.2 hj)) i (List.mem_range.2 hij)
    refine wpIn_region_draw fun t => ?_
    have d : Draw P base w0 nt call ops l (ancs ops.toList) N σ F ι { w with drawn := w.drawn + 1 } :=
      ⟨hcall, hF, hlen', hst', hok', hrun, fun i hi => (ghost i hi).2, hnx, hk.drew _ rfl⟩
    have go : ∀ (md : Region.Mode) (rank : Nat → Nat), rankOk md ops rank = true → ∀ t, wpOpsIn F n P ops Q (Region.linearise md ops t) a { w with drawn := w.drawn + 1 } := by
      intro md rank hrk t
      refine wpAnyIn_sound ops.size t _ a _ ?_
      refine d.any hrk hds hend ?_ ops.size _ 0 ι a _ (by simp) ?_ ?_
      · intro x' e a' w' hx hp
        rw [hi] at hx
        simp only [Option.some.injEq, Prod.mk.injEq, and_true] at hx
        subst hx
        obtain ⟨ι', p1, p2, p3⟩ := hp
        exact hQ e a' w' ⟨ι', p1, p2.drew rfl rfl rfl rfl, p3⟩
      · refine Nat.le_trans (List.count_le_length ..) (by simp)
      · have hf : (fun j => (Array.replicate ops.size false).getD j false) = fun _ => false := by
          funext j
          rw [Array.getD_eq_getD_getElem?, Array.getElem?_replicate]
          split <;> rfl
        rw [hf]
        exact d.begin hsz hE hD
    unfold schedOk at hsch
    simp only [Bool.and_eq_true, Bool.or_eq_true, Bool.not_eq_true'] at hsch
    obtain ⟨s1, s2⟩ := hsch
    unfold Region.schedule
    split
    · exact go .any _root_.id s1 t
    · rename_i hdep
      simp only [Bool.or_eq_true, Bool.not_eq_true', not_or] at hdep
      have h2 := s2.resolve_left hdep.2
      split
      · exact go .text _root_.id h2.1 _
      · exact go .gc _ h2.2 _

end Go.Idl
