/- Texts of the proof. -/
import Derived.Test.YtbngfhkhdilfdaaGreatDoorI29
import Derived.Test.YtbngfhkhdilfdaaGreatDoorI3f
import Derived.KernelRfl
set_option linter.unusedVariables false
set_option linter.unusedSimpArgs false
set_option maxRecDepth 100000
section
namespace Go.Idl
variable {T : Tbl}
theorem idraw_still_app {call : CallF} {anc : List (List Nat)} {ds : List Nat} : ∀ {l1 : List Step} (l2 : List Step) {i : Nat} {ras es0 : List Nat} {rs : List (Nat × Loc)} {es : List (Nat × Heap × Heap)} {s s' : St}, still anc (l1 ++ l2) i ras es0 = true → (∀ p ∈ rs, p.1 ∈ ras) → (∀ p ∈ es, p.1 ∈ es0) →
    iops call l1 s = some (none, s') → ∃ i' ras' es0' rs' es', still anc l2 i' ras' es0' = true ∧ (∀ p ∈ rs', p.1 ∈ ras') ∧ (∀ p ∈ es', p.1 ∈ es0') ∧ idraw call anc ds (l1 ++ l2) i rs es s = idraw call anc ds l2 i' rs' es' s'
  | [], l2, i, ras, es0, rs, es, s, s', hc, hrs, hes, h => by
    simp only [iops, Option.some.injEq, Prod.mk.injEq, true_and] at h
    subst h
    exact ⟨i, ras, es0, rs, es, hc, hrs, hes, rfl⟩
  | x :: l, l2, i, ras, es0, rs, es, s, s', hc, hrs, hes, h => by
    simp only [iops] at h
    simp only [List.cons_append, idraw]
    simp only [List.cons_append, still] at hc
    by_cases hw : wantedE s.e x.grd = true
    · rw [if_pos hw] at h
      simp only [if_pos hw]
      cases hm : istm call x.dst x.stm s with
      | none => rw [hm] at h; cases h
      | some q =>
        obtain ⟨r, s1⟩ := q
        rw [hm] at h
        cases r with
        | some v => simp only [Option.some.injEq, Prod.mk.injEq, reduceCtorEq, false_and] at h
        | none =>
          simp only at h ⊢
          cases hk : kdStm x.stm with
          | P => rw [hk] at hc; exact idraw_still_app l2 hc hrs hes h
          | R =>
            rw [hk] at hc
            simp only [Bool.and_eq_true] at hc
            simp only
            rw [if_pos (fun p hp => .inl (by simpa using List.all_eq_true.1 hc.1 p.1 (hes p hp)))]
            exact idraw_still_app l2 hc.2 (fun p hp => by rcases List.mem_cons.1 hp with rfl | hp; exact List.mem_cons_self ..; exact List.mem_cons_of_mem _ (hrs p hp)) hes h
          | A =>
            rw [hk] at hc
            exact idraw_still_app l2 hc (fun p hp => by rcases List.mem_cons.1 hp with rfl | hp; exact List.mem_cons_self ..; exact List.mem_cons_of_mem _ (hrs p hp)) hes h
          | E =>
            rw [hk] at hc
            simp only [Bool.and_eq_true] at hc
            simp only
            rw [if_pos (fun p hp => .inl (by simpa using List.all_eq_true.1 hc.1 p.1 (hrs p hp)))]
            exact idraw_still_app l2 hc.2 hrs (fun p hp => by rcases List.mem_cons.1 hp with rfl | hp; exact List.mem_cons_self ..; exact List.mem_cons_of_mem _ (hes p hp)) h
    · rw [if_neg hw] at h
      simp only [if_neg hw]
      refine idraw_still_app (ras := ras) (es0 := es0) l2 ?_ hrs hes h
      cases hk : kdStm x.stm <;> rw [hk] at hc <;> simp only [Bool.and_eq_true] at hc
      · exact hc
      · exact still_mono hc.2 (fun k hk => List.mem_cons_of_mem _ hk) (fun k hk => hk)
      · exact still_mono hc (fun k hk => List.mem_cons_of_mem _ hk) (fun k hk => hk)
      · exact still_mono hc.2 (fun k hk => hk) (fun k hk => List.mem_cons_of_mem _ hk)
theorem Wc_draw_end (n : Nat) {l : List Step} {anc : List (List Nat)} {s : St} {Q : Ex → St → Prop} {x : Step} (hl : l.drop n = [x]) (hc : still anc l 0 [] [] = true)
    (h : Wo T (l.take n) s (fun r s1 => r = none ∧ Wo T [x] s1 (fun r s' => match r with | none => Q .normal s' | some v => ∀ e, Q (.pan v) ⟨e, s'.h, s'.d⟩))) : Wc T (.draw l anc) s Q := by
  obtain ⟨n1, r1, s1, h1, rfl, n2, r2, s2, h2, h3⟩ := h
  have h1' := iops_le (Nat.le_max_left n1 n2) h1
  have h2' := iops_le (Nat.le_max_right n1 n2) h2
  have hls : l.take n ++ l.drop n = l := List.take_append_drop n l
  obtain ⟨i', ras', es0', rs', es', q1, q2, q3, q4⟩ := idraw_still_app (call := icall T (max n1 n2)) (anc := anc) (ds := l.filterMap (·.dst)) (l.drop n) (i := 0) (ras := []) (es0 := []) (rs := []) (es := []) (by rw [hls]; exact hc) (fun p hp => by cases hp) (fun p hp => by cases hp) h1'
  rw [hls, hl] at q4
  rw [hl] at q1
  cases r2 with
  | none =>
    have := idraw_still (ds := l.filterMap (·.dst)) q1 q2 q3 h2'
    exact ⟨max n1 n2, .normal, s2, by simp only [icode, q4, this, exOf], h3⟩
  | some v =>
    refine ⟨max n1 n2, .pan v, ⟨forget s1.e (l.filterMap (·.dst)), s2.h, s2.d⟩, ?_, h3 _⟩
    have : idraw (icall T (max n1 n2)) anc (l.filterMap (·.dst)) [x] i' rs' es' s1 = some (some v, ⟨forget s1.e (l.filterMap (·.dst)), s2.h, s2.d⟩) := by
      simp only [iops] at h2'
      simp only [idraw]
      by_cases hw : wantedE s1.e x.grd = true
      · rw [if_pos hw] at h2' ⊢
        cases hm : istm (icall T (max n1 n2)) x.dst x.stm s1 with
        | none => rw [hm] at h2'; cases h2'
        | some q =>
          obtain ⟨r, s3⟩ := q
          rw [hm] at h2'
          cases r with
          | none => simp only [Option.some.injEq, Prod.mk.injEq, reduceCtorEq, false_and] at h2'
          | some u =>
            simp only [Option.some.injEq, Prod.mk.injEq] at h2'
            obtain ⟨rfl, rfl⟩ := h2'
            simp only [allAnc, if_true]
      · rw [if_neg hw] at h2'
        simp only [Option.some.injEq, Prod.mk.injEq, reduceCtorEq, false_and] at h2'
    simp only [icode, q4, this, exOf]
end Go.Idl
end

section
namespace Go.Idl
def C38 : IFn := ⟨23, (.seq (.ops [⟨some 2, .op (.mov (.c (.bool false))), none⟩]) (.seq (.ops [⟨some 4, .op (.mov (.t 0)), none⟩, ⟨some 5, .call 30 [], none⟩, ⟨some 6, .op (.build [.string ⟨#[]⟩, .int .i64 0, .int .i64 0, .int .i64 0, .int .i64 0, .int .i64 0, .int .i64 0, .int .i64 0, .int .i64 0, .int .i64 0, .int .i64 0, .int .i64 0, .int .i64 0, .int .i64 0, .int .i64 0, .int .i64 0, .int .i64 0, .int .i64 0, .int .i64 0, .int .i64 0, .int .i64 0, .int .i64 0, .int .i64 0, .int .i64 0, .int .i64 0, .int .i64 0, .int .i64 0, .int .i64 0, .int .i64 0, .int .i64 0, .int .i64 0, .int .i64 0, .int .i64 0, .int .i64 0, .int .i64 0, .int .i64 0, .int .i64 0, .int .i64 0, .int .i64 0, .int .i64 0, .int .i64 0, .int .i64 0, .int .i64 0, .int .i64 0, .int .i64 0, .int .i64 0, .int .i64 0, .int .i64 0, .int .i64 0, .int .i64 0, .int .i64 0, .int .i64 0, .int .i64 0, .int .i64 0, .int .i64 0, .int .i64 0, .int .i64 0, .int .i64 0, .int .i64 0, .int .i64 0, .int .i64 0, .int .i64 0, .int .i64 0, .int .i64 0, .int .i64 0, .int .i64 0, .int .i64 0, .int .i64 0, .int .i64 0, .int .i64 0, .int .i64 0, .int .i64 0, .int .i64 0, .int .i64 0, .int .i64 0, .int .i64 0, .int .i64 0, .int .i64 0, .int .i64 0, .int .i64 0, .int .i64 0, .int .i64 0, .int .i64 0, .int .i64 0, .int .i64 0, .int .i64 0, .int .i64 0, .int .i64 0, .int .i64 0, .int .i64 0, .int .i64 0, .int .i64 0, .int .i64 0, .int .i64 0, .int .i64 0, .int .i64 0, .int .i64 0, .int .i64 0, .int .i64 0, .int .i64 0, .int .i64 0, .int .i64 0, .int .i64 0, .int .i64 0, .int .i64 0, .int .i64 0, .int .i64 0, .int .i64 0, .int .i64 0, .int .i64 0, .int .i64 0, .int .i64 0, .int .i64 0, .int .i64 0, .int .i64 0, .int .i64 0, .int .i64 0, .int .i64 0, .int .i64 0, .int .i64 0, .int .i64 0, .int .i64 0, .int .i64 0, .int .i64 0, .int .i64 0, .int .i64 0, .int .i64 0, .int .i64 0, .int .i64 0, .int .i64 0, .int .i64 0, .int .i64 0, .int .i64 0, .int .i64 0, .int .i64 0, .int .i64 0, .int .i64 0, .int .i64 0, .int .i64 0, .int .i64 0, .int .i64 0, .int .i64 0, .int .i64 0, .int .i64 0, .int .i64 0, .int .i64 0, .int .i64 0, .int .i64 0, .int .i64 0, .int .i64 0, .int .i64 0, .int .i64 0, .int .i64 0, .int .i64 0, .int .i64 0, .int .i64 0, .int .i64 0, .int .i64 0, .int .i64 0, .int .i64 0, .int .i64 0, .int .i64 0, .int .i64 0, .int .i64 0, .int .i64 0, .int .i64 0, .int .i64 0, .int .i64 0, .int .i64 0, .int .i64 0, .int .i64 0, .int .i64 0, .int .i64 0, .int .i64 0, .int .i64 0, .int .i64 0, .int .i64 0, .int .i64 0, .int .i64 0, .int .i64 0, .int .i64 0, .int .i64 0, .int .i64 0, .int .i64 0, .int .i64 0, .int .i64 0, .int .i64 0, .int .i64 0, .int .i64 0, .int .i64 0, .int .i64 0, .int .i64 0, .int .i64 0, .int .i64 0, .int .i64 0, .int .i64 0, .int .i64 0, .int .i64 0, .int .i64 0, .int .i64 0, .int .i64 0, .int .i64 0, .int .i64 0, .int .i64 0, .int .i64 0, .int .i64 0, .int .i64 0, .int .i64 0, .int .i64 0, .int .i64 0, .int .i64 0, .int .i64 0, .int .i64 0, .int .i64 0, .int .i64 0, .int .i64 0, .int .i64 0, .int .i64 0, .int .i64 0, .int .i64 0, .int .i64 0, .int .i64 0, .int .i64 0, .int .i64 0, .int .i64 0, .int .i64 0, .int .i64 0, .int .i64 0, .int .i64 0, .int .i64 0, .int .i64 0, .int .i64 0, .int .i64 0, .int .i64 0, .int .i64 0, .int .i64 0, .int .i64 0, .int .i64 0, .int .i64 0, .int .i64 0, .int .i64 0, .int .i64 0, .int .i64 0, .int .i64 0, .int .i64 0, .int .i64 0, .int .i64 0, .int .i64 0, .int .i64 0, .int .i64 0, .int .i64 0, .int .i64 0, .int .i64 0, .int .i64 0, .int .i64 0, .int .i64 0, .int .i64 0, .int .i64 0] [(0, 1, .t 4), (2, 256, .t 5)]), none⟩, ⟨some 7, .op (.box (.t 6)), none⟩, ⟨some 3, .op (.mov (.t 7)), none⟩]) (.seq (.ops [⟨some 8, .op (.mov (.t 3)), none⟩, ⟨some 9, .call 51 [.t 8, .c (.int .i64 0)], none⟩, ⟨some 10, .op (.bin .eql (.t 9) (.c (.int .i64 2))), none⟩, ⟨some 11, .op (.mov (.t 10)), none⟩, ⟨some 12, .op (.mov (.t 3)), (some (11, true))⟩, ⟨some 13, .call 52 [.t 12], (some (11, true))⟩, ⟨some 14, .op (.mov (.t 0)), (some (11, true))⟩, ⟨some 15, .op (.len .str (.t 14)), (some (11, true))⟩, ⟨some 16, .op (.bin .eql (.t 13) (.t 15)), (some (11, true))⟩, ⟨some 17, .op (.pick (.t 11) (.t 16) (.c (.bool false))), none⟩, ⟨some 18, .op (.mov (.t 17)), none⟩, ⟨some 19, .op (.mov (.t 0)), (some (18, true))⟩, ⟨some 20, .call 53 [.t 19], (some (18, true))⟩, ⟨some 21, .op (.un .not (.t 20)), (some (18, true))⟩, ⟨some 22, .op (.pick (.t 18) (.t 21) (.c (.bool false))), none⟩, ⟨some 2, .op (.mov (.t 22)), none⟩]) .ret))), [.tmp 2]⟩
def C39L0 : IC := (.seq (.ops [⟨some 48, .op (.bin .lss (.t 47) (.t 46)), none⟩]) (.seq (.cond (.t 48) .skip (.exit 0)) (.seq (.block 1 (.seq (.ops [⟨some 49, .op (.mov (.t 47)), none⟩, ⟨some 6, .op (.mov (.t 49)), none⟩]) (.seq (.ops [⟨some 51, .op (.mov (.t 0)), none⟩, ⟨some 52, .op (.mov (.t 6)), none⟩, ⟨some 53, .op (.sidx (.t 51) (.t 52)), none⟩, ⟨some 54, .op (.mov (.t 4)), none⟩, ⟨some 55, .call 58 [.t 53, .t 54], none⟩, ⟨some 50, .op (.mov (.t 55)), none⟩, ⟨some 56, .op (.extract (.t 50) 0), none⟩, ⟨some 57, .op (.extract (.t 50) 1), none⟩, ⟨some 7, .op (.mov (.t 56)), none⟩, ⟨some 8, .op (.mov (.t 57)), none⟩]) (.seq (.seq (.ops [⟨some 58, .op (.mov (.t 8)), none⟩, ⟨some 59, .op (.un .not (.t 58)), none⟩, ⟨some 60, .op (.mov (.t 59)), none⟩, ⟨some 61, .op (.mov (.t 5)), (some (60, false))⟩, ⟨some 62, .op (.mov (.t 7)), (some (60, false))⟩, ⟨some 63, .op (.bin .sub (.c (.int .u64 9223372036854775807)) (.t 62)), (some (60, false))⟩, ⟨some 64, .op (.mov (.t 4)), (some (60, false))⟩, ⟨some 65, .op (.bin .quo (.t 63) (.t 64)), (some (60, false))⟩, ⟨some 66, .op (.bin .gtr (.t 61) (.t 65)), (some (60, false))⟩, ⟨some 67, .op (.pick (.t 60) (.c (.bool true)) (.t 66)), none⟩]) (.cond (.t 67) (.seq (.ops [⟨some 2, .op (.mov (.c (.int .i64 0))), none⟩, ⟨some 3, .op (.mov (.c (.bool false))), none⟩]) .ret) .skip)) (.ops [⟨some 68, .op (.mov (.t 5)), none⟩, ⟨some 69, .op (.mov (.t 4)), none⟩, ⟨some 70, .op (.bin .mul (.t 68) (.t 69)), none⟩, ⟨some 71, .op (.mov (.t 7)), none⟩, ⟨some 72, .op (.bin .add (.t 70) (.t 71)), none⟩, ⟨some 5, .op (.mov (.t 72)), none⟩]))))) (.ops [⟨some 73, .op (.bin .add (.t 47) (.c (.int .i64 1))), none⟩, ⟨some 47, .op (.mov (.t 73)), none⟩])))) def C39 : IFn := ⟨78, (.seq (.ops [⟨some 2, .op (.mov (.c (.int .i64 0))), none⟩, ⟨some 3, .op (.mov (.c (.bool false))), none⟩]) (.seq (.seq (.ops [⟨some 9, .op (.mov (.t 0)), none⟩, ⟨some 10, .op (.len .str (.t 9)), none⟩, ⟨some 11, .op (.bin .eql (.t 10) (.c (.int .i64 3))), none⟩, ⟨some 12, .op (.mov (.t 11)), none⟩, ⟨some 13, .op (.mov (.t 0)), (some (12, true))⟩, ⟨some 14, .op (.sidx (.t 13) (.c (.int .i64 0))), (some (12, true))⟩, ⟨some 15, .op (.bin .eql (.t 14) (.c (.int .u8 39))), (some (12, true))⟩, ⟨some 16, .op (.pick (.t 12) (.t 15) (.c (.bool false))), none⟩, ⟨some 17, .op (.mov (.t 16)), none⟩, ⟨some 18, .op (.mov (.t 0)), (some (17, true))⟩, ⟨some 19, .op (.sidx (.t 18) (.c (.int .i64 2))), (some (17, true))⟩, ⟨some 20, .op (.bin .eql (.t 19) (.c (.int .u8 39))), (some (17, true))⟩, ⟨some 21, .op (.pick (.t 17) (.t 20) (.c (.bool false))), none⟩, ⟨some 22, .op (.mov (.t 21)), none⟩, ⟨some 23, .op (.mov (.t 0)), (some (22, true))⟩, ⟨some 24, .op (.sidx (.t 23) (.c (.int .i64 1))), (some (22, true))⟩, ⟨some 25, .op (.bin .geq (.t 24) (.c (.int .u8 32))), (some (22, true))⟩, ⟨some 26, .op (.pick (.t 22) (.t 25) (.c (.bool false))), none⟩, ⟨some 27, .op (.mov (.t 26)), none⟩, ⟨some 28, .op (.mov (.t 0)), (some (27, true))⟩, ⟨some 29, .op (.sidx (.t 28) (.c (.int .i64 1))), (some (27, true))⟩, ⟨some 30, .op (.bin .leq (.t 29) (.c (.int .u8 126))), (some (27, true))⟩, ⟨some 31, .op (.pick (.t 27) (.t 30) (.c (.bool false))), none⟩]) (.cond (.t 31) (.seq (.ops [⟨some 32, .op (.mov (.t 0)), none⟩, ⟨some 33, .op (.sidx (.t 32) (.c (.int .i64 1))), none⟩, ⟨some 34, .op (.conv .i64 (.t 33)), none⟩, ⟨some 2, .op (.mov (.t 34)), none⟩, ⟨some 3, .op (.mov (.c (.bool true))), none⟩]) .ret) .skip)) (.seq (.ops [⟨some 4, .op (.mov (.c (.int .u64 10))), none⟩]) (.seq (.seq (.ops [⟨some 35, .op (.mov (.t 0)), none⟩, ⟨some 36, .op (.len .str (.t 35)), none⟩, ⟨some 37, .op (.bin .gtr (.t 36) (.c (.int .i64 2))), none⟩, ⟨some 38, .op (.mov (.t 37)), none⟩, ⟨some 39, .op (.mov (.t 0)), (some (38, true))⟩, ⟨some 40, .op (.sub .str (.t 39) none (some (.c (.int .i64 2))) none), (some (38, true))⟩, ⟨some 41, .op (.bin .eql (.t 40) (.c (.string ⟨#[48, 120]⟩))), (some (38, true))⟩, ⟨some 42, .op (.pick (.t 38) (.t 41) (.c (.bool false))), none⟩]) (.cond (.t 42) (.draw [⟨some 43, .op (.mov (.t 0)), none⟩, ⟨some 44, .op (.sub .str (.t 43) (some (.c (.int .i64 2))) none none), none⟩, ⟨some 4, .op (.mov (.c (.int .u64 16))), none⟩, ⟨some 0, .op (.mov (.t 44)), none⟩] [[], [0], [], [2, 1, 0]]) .skip)) (.seq (.ops [⟨some 5, .op (.mov (.c (.int .u64 0))), none⟩]) (.seq (.seq (.ops [⟨some 45, .op (.mov (.t 0)), none⟩, ⟨some 46, .op (.len .str (.t 45)), none⟩, ⟨some 47, .op (.mov (.c (.int .i64 0))), none⟩]) (.block 0 (.loop C39L0))) (.seq (.ops [⟨some 74, .op (.mov (.t 5)), none⟩, ⟨some 75, .op (.conv .i64 (.t 74)), none⟩, ⟨some 76, .op (.mov (.t 0)), none⟩, ⟨some 77, .op (.bin .neq (.t 76) (.c (.string ⟨#[]⟩))), none⟩, ⟨some 2, .op (.mov (.t 75)), none⟩, ⟨some 3, .op (.mov (.t 77)), none⟩]) .ret))))))), [.tmp 2, .tmp 3]⟩
def C53L0 : IC := (.seq (.ops [⟨some 7, .op (.bin .lss (.t 6) (.c (.int .i64 19))), none⟩]) (.seq (.cond (.t 7) .skip (.exit 0)) (.seq (.block 1 (.seq (.ops [⟨some 8, .op (.aidx 19 1 none (.t 5) (.t 6)), none⟩, ⟨some 4, .op (.mov (.t 8)), none⟩]) (.seq (.ops [⟨some 9, .op (.mov (.t 4)), none⟩, ⟨some 10, .op (.mov (.t 0)), none⟩, ⟨some 11, .op (.bin .eql (.t 9) (.t 10)), none⟩]) (.cond (.t 11) (.seq (.ops [⟨some 2, .op (.mov (.c (.bool true))), none⟩]) .ret) .skip)))) (.ops [⟨some 12, .op (.bin .add (.t 6) (.c (.int .i64 1))), none⟩, ⟨some 6, .op (.mov (.t 12)), none⟩])))) def C53 : IFn := ⟨13, (.seq (.ops [⟨some 2, .op (.mov (.c (.bool false))), none⟩]) (.seq (.seq (.ops [⟨some 5, .call 62 [], none⟩, ⟨some 6, .op (.mov (.c (.int .i64 0))), none⟩]) (.block 0 (.loop C53L0))) (.seq (.ops [⟨some 2, .op (.mov (.c (.bool false))), none⟩]) .ret))), [.tmp 2]⟩
def C62 : IFn := ⟨2, (.seq (.ops [⟨some 0, .op (.alloc [.string ⟨#[]⟩, .string ⟨#[]⟩, .string ⟨#[]⟩, .string ⟨#[]⟩, .string ⟨#[]⟩, .string ⟨#[]⟩, .string ⟨#[]⟩, .string ⟨#[]⟩, .string ⟨#[]⟩, .string ⟨#[]⟩, .string ⟨#[]⟩, .string ⟨#[]⟩, .string ⟨#[]⟩, .string ⟨#[]⟩, .string ⟨#[]⟩, .string ⟨#[]⟩, .string ⟨#[]⟩, .string ⟨#[]⟩, .string ⟨#[]⟩]), none⟩]) (.seq (.ops [⟨some 1, .op (.build [.string ⟨#[]⟩, .string ⟨#[]⟩, .string ⟨#[]⟩, .string ⟨#[]⟩, .string ⟨#[]⟩, .string ⟨#[]⟩, .string ⟨#[]⟩, .string ⟨#[]⟩, .string ⟨#[]⟩, .string ⟨#[]⟩, .string ⟨#[]⟩, .string ⟨#[]⟩, .string ⟨#[]⟩, .string ⟨#[]⟩, .string ⟨#[]⟩, .string ⟨#[]⟩, .string ⟨#[]⟩, .string ⟨#[]⟩, .string ⟨#[]⟩] [(0, 1, .c (.string ⟨#[114, 101, 99]⟩)), (1, 1, .c (.string ⟨#[102, 110]⟩)), (2, 1, .c (.string ⟨#[108, 101, 116]⟩)), (3, 1, .c (.string ⟨#[105, 102]⟩)), (4, 1, .c (.string ⟨#[101, 108, 115, 101]⟩)), (5, 1, .c (.string ⟨#[119, 104, 105, 108, 101]⟩)), (6, 1, .c (.string ⟨#[114, 101, 116, 117, 114, 110]⟩)), (7, 1, .c (.string ⟨#[111, 117, 116]⟩)), (8, 1, .c (.string ⟨#[115, 116, 111, 112]⟩)), (9, 1, .c (.string ⟨#[109, 101, 114, 103, 101]⟩)), (10, 1, .c (.string ⟨#[112, 114, 111, 109, 111, 116, 101]⟩)), (11, 1, .c (.string ⟨#[110, 101, 119]⟩)), (12, 1, .c (.string ⟨#[97, 114, 114]⟩)), (13, 1, .c (.string ⟨#[108, 101, 110]⟩)), (14, 1, .c (.string ⟨#[105, 110]⟩)), (15, 1, .c (.string ⟨#[105, 109, 103]⟩)), (16, 1, .c (.string ⟨#[115, 105, 122, 101]⟩)), (17, 1, .c (.string ⟨#[110, 117, 108, 108]⟩)), (18, 1, .c (.string ⟨#[114, 111, 111, 116]⟩))]), none⟩, ⟨none, .op (.store 19 (.t 0) (.t 1)), none⟩]) .ret)), [.cell 0 (some 19)]⟩
def C58 : IFn := ⟨43, (.seq (.ops [⟨some 4, .op (.mov (.c (.int .u64 0))), none⟩, ⟨some 5, .op (.mov (.c (.bool false))), none⟩]) (.seq (.ops [⟨some 6, .op (.mov (.c (.int .u64 255))), none⟩]) (.seq (.block 0 (.seq (.ops [⟨some 8, .op (.mov (.t 0)), none⟩, ⟨some 9, .op (.bin .geq (.t 8) (.c (.int .u8 48))), none⟩, ⟨some 10, .op (.mov (.t 9)), none⟩, ⟨some 11, .op (.mov (.t 0)), (some (10, true))⟩, ⟨some 12, .op (.bin .leq (.t 11) (.c (.int .u8 57))), (some (10, true))⟩, ⟨some 13, .op (.pick (.t 10) (.t 12) (.c (.bool false))), none⟩, ⟨some 7, .op (.mov (.t 13)), none⟩]) (.cond (.t 7) (.ops [⟨some 14, .op (.mov (.t 0)), none⟩, ⟨some 15, .op (.bin .sub (.t 14) (.c (.int .u8 48))), none⟩, ⟨some 16, .op (.conv .u64 (.t 15)), none⟩, ⟨some 6, .op (.mov (.t 16)), none⟩]) (.seq (.ops [⟨some 18, .op (.mov (.t 0)), none⟩, ⟨some 19, .op (.bin .geq (.t 18) (.c (.int .u8 97))), none⟩, ⟨some 20, .op (.mov (.t 19)), none⟩, ⟨some 21, .op (.mov (.t 0)), (some (20, true))⟩, ⟨some 22, .op (.bin .leq (.t 21) (.c (.int .u8 102))), (some (20, true))⟩, ⟨some 23, .op (.pick (.t 20) (.t 22) (.c (.bool false))), none⟩, ⟨some 17, .op (.mov (.t 23)), none⟩]) (.cond (.t 17) (.ops [⟨some 24, .op (.mov (.t 0)), none⟩, ⟨some 25, .op (.bin .sub (.t 24) (.c (.int .u8 97))), none⟩, ⟨some 26, .op (.conv .u64 (.t 25)), none⟩, ⟨some 27, .op (.bin .add (.t 26) (.c (.int .u64 10))), none⟩, ⟨some 6, .op (.mov (.t 27)), none⟩]) (.seq (.ops [⟨some 29, .op (.mov (.t 0)), none⟩, ⟨some 30, .op (.bin .geq (.t 29) (.c (.int .u8 65))), none⟩, ⟨some 31, .op (.mov (.t 30)), none⟩, ⟨some 32, .op (.mov (.t 0)), (some (31, true))⟩, ⟨some 33, .op (.bin .leq (.t 32) (.c (.int .u8 70))), (some (31, true))⟩, ⟨some 34, .op (.pick (.t 31) (.t 33) (.c (.bool false))), none⟩, ⟨some 28, .op (.mov (.t 34)), none⟩]) (.cond (.t 28) (.ops [⟨some 35, .op (.mov (.t 0)), none⟩, ⟨some 36, .op (.bin .sub (.t 35) (.c (.int .u8 65))), none⟩, ⟨some 37, .op (.conv .u64 (.t 36)), none⟩, ⟨some 38, .op (.bin .add (.t 37) (.c (.int .u64 10))), none⟩, ⟨some 6, .op (.mov (.t 38)), none⟩]) .skip))))))) (.seq (.ops [⟨some 39, .op (.mov (.t 6)), none⟩, ⟨some 40, .op (.mov (.t 6)), none⟩, ⟨some 41, .op (.mov (.t 1)), none⟩, ⟨some 42, .op (.bin .lss (.t 40) (.t 41)), none⟩, ⟨some 4, .op (.mov (.t 39)), none⟩, ⟨some 5, .op (.mov (.t 42)), none⟩]) .ret)))), [.tmp 4, .tmp 5]⟩
def C51 : IFn := ⟨33, (.seq (.ops [⟨some 4, .op (.mov (.c (.int .i64 0))), none⟩]) (.seq (.seq (.draw [⟨some 5, .op (.mov (.t 0)), none⟩, ⟨some 6, .op (.nilck (.t 5)), none⟩, ⟨some 7, .op (.faddr 1 (.t 6)), none⟩, ⟨some 8, .op (.load none (.t 7)), none⟩, ⟨some 9, .op (.mov (.t 1)), none⟩, ⟨some 10, .op (.bin .add (.t 8) (.t 9)), none⟩, ⟨some 11, .op (.mov (.t 0)), none⟩, ⟨some 12, .op (.nilck (.t 11)), none⟩, ⟨some 13, .op (.faddr 0 (.t 12)), none⟩, ⟨some 14, .op (.load none (.t 13)), none⟩, ⟨some 15, .op (.len .str (.t 14)), none⟩, ⟨some 16, .op (.bin .geq (.t 10) (.t 15)), none⟩] [[], [0], [1, 0], [2, 1, 0], [], [4, 3, 2, 1, 0], [], [6], [7, 6], [8, 7, 6], [9, 8, 7, 6], [10, 9, 8, 7, 6, 5, 4, 3, 2, 1, 0]]) (.cond (.t 16) (.seq (.ops [⟨some 4, .op (.mov (.c (.int .i64 0))), none⟩]) .ret) .skip)) (.seq (.draw [⟨some 17, .op (.mov (.t 0)), none⟩, ⟨some 18, .op (.mov (.t 0)), none⟩, ⟨some 19, .op (.nilck (.t 18)), none⟩, ⟨some 20, .op (.faddr 0 (.t 19)), none⟩, ⟨some 21, .op (.load none (.t 20)), none⟩, ⟨some 22, .op (.mov (.t 0)), none⟩, ⟨some 23, .op (.nilck (.t 22)), none⟩, ⟨some 24, .op (.faddr 1 (.t 23)), none⟩, ⟨some 25, .op (.load none (.t 24)), none⟩, ⟨some 26, .op (.mov (.t 1)), none⟩, ⟨some 27, .op (.bin .add (.t 25) (.t 26)), none⟩, ⟨some 28, .op (.sidx (.t 21) (.t 27)), none⟩, ⟨some 29, .op (.nilck (.t 17)), none⟩, ⟨some 30, .op (.faddr 2 (.t 29)), none⟩, ⟨some 31, .op (.iaddr (.ar 256 1) (.t 30) (.t 28)), none⟩, ⟨some 32, .op (.load none (.t 31)), none⟩, ⟨some 4, .op (.mov (.t 32)), none⟩] [[], [], [1], [2, 1], [3, 2, 1], [], [5], [6, 5], [7, 6, 5], [], [9, 8, 7, 6, 5], [10, 9, 8, 7, 6, 5, 4, 3, 2, 1], [0], [12, 0], [11, 10, 9, 8, 7, 6, 5, 4, 3, 2, 1, 13, 12, 0], [14, 11, 10, 9, 8, 7, 6, 5, 4, 3, 2, 1, 13, 12, 0], [15, 14, 11, 10, 9, 8, 7, 6, 5, 4, 3, 2, 1, 13, 12, 0]]) .ret))), [.tmp 4]⟩
def C52L0 : IC := (.seq (.seq (.ops [⟨some 8, .op (.mov (.t 4)), none⟩, ⟨some 9, .op (.bin .eql (.t 8) (.c (.int .i64 2))), none⟩, ⟨some 10, .op (.mov (.t 9)), none⟩, ⟨some 11, .op (.mov (.t 4)), (some (10, false))⟩, ⟨some 12, .op (.bin .eql (.t 11) (.c (.int .i64 3))), (some (10, false))⟩, ⟨some 13, .op (.pick (.t 10) (.c (.bool true)) (.t 12)), none⟩]) (.cond (.t 13) .skip (.exit 0))) (.seq (.block 1 (.ops [⟨some 17, .op (.mov (.t 3)), none⟩, ⟨some 18, .op (.bin .add (.t 17) (.c (.int .i64 1))), none⟩, ⟨some 3, .op (.mov (.t 18)), none⟩])) (.ops [⟨some 14, .op (.mov (.t 0)), none⟩, ⟨some 15, .op (.mov (.t 3)), none⟩, ⟨some 16, .call 51 [.t 14, .t 15], none⟩, ⟨some 4, .op (.mov (.t 16)), none⟩]))) def C52 : IFn := ⟨20, (.seq (.ops [⟨some 2, .op (.mov (.c (.int .i64 0))), none⟩]) (.seq (.ops [⟨some 3, .op (.mov (.c (.int .i64 0))), none⟩]) (.seq (.seq (.ops [⟨some 5, .op (.mov (.t 0)), none⟩, ⟨some 6, .op (.mov (.t 3)), none⟩, ⟨some 7, .call 51 [.t 5, .t 6], none⟩, ⟨some 4, .op (.mov (.t 7)), none⟩]) (.block 0 (.loop C52L0))) (.seq (.ops [⟨some 19, .op (.mov (.t 3)), none⟩, ⟨some 2, .op (.mov (.t 19)), none⟩]) .ret)))), [.tmp 2]⟩
def C50L0 : IC := (.seq (.seq (.draw [⟨some 60, .op (.mov (.t 0)), none⟩, ⟨some 61, .op (.nilck (.t 60)), none⟩, ⟨some 62, .op (.faddr 1 (.t 61)), none⟩, ⟨some 63, .op (.load none (.t 62)), none⟩, ⟨some 64, .op (.mov (.t 0)), none⟩, ⟨some 65, .op (.nilck (.t 64)), none⟩, ⟨some 66, .op (.faddr 0 (.t 65)), none⟩, ⟨some 67, .op (.load none (.t 66)), none⟩, ⟨some 68, .op (.len .str (.t 67)), none⟩, ⟨some 69, .op (.bin .lss (.t 63) (.t 68)), none⟩, ⟨some 70, .op (.mov (.t 69)), none⟩, ⟨some 71, .op (.mov (.t 0)), (some (70, true))⟩, ⟨some 72, .op (.nilck (.t 71)), (some (70, true))⟩, ⟨some 73, .op (.faddr 0 (.t 72)), (some (70, true))⟩, ⟨some 74, .op (.load none (.t 73)), (some (70, true))⟩, ⟨some 75, .op (.mov (.t 0)), (some (70, true))⟩, ⟨some 76, .op (.nilck (.t 75)), (some (70, true))⟩, ⟨some 77, .op (.faddr 1 (.t 76)), (some (70, true))⟩, ⟨some 78, .op (.load none (.t 77)), (some (70, true))⟩, ⟨some 79, .op (.sidx (.t 74) (.t 78)), (some (70, true))⟩, ⟨some 80, .op (.bin .neq (.t 79) (.c (.int .u8 10))), (some (70, true))⟩, ⟨some 81, .op (.pick (.t 70) (.t 80) (.c (.bool false))), none⟩] [[], [0], [1, 0], [2, 1, 0], [], [4], [5, 4], [6, 5, 4], [7, 6, 5, 4], [8, 7, 6, 5, 4, 3, 2, 1, 0], [9, 8, 7, 6, 5, 4, 3, 2, 1, 0], [10, 9, 8, 7, 6, 5, 4, 3, 2, 1, 0], [10, 9, 8, 7, 6, 5, 4, 3, 2, 1, 0, 11], [10, 9, 8, 7, 6, 5, 4, 3, 2, 1, 0, 12, 11], [10, 9, 8, 7, 6, 5, 4, 3, 2, 1, 0, 13, 12, 11], [10, 9, 8, 7, 6, 5, 4, 3, 2, 1, 0], [10, 9, 8, 7, 6, 5, 4, 3, 2, 1, 0, 15], [10, 9, 8, 7, 6, 5, 4, 3, 2, 1, 0, 16, 15], [10, 9, 8, 7, 6, 5, 4, 3, 2, 1, 0, 17, 16, 15], [10, 9, 8, 7, 6, 5, 4, 3, 2, 1, 0, 18, 17, 16, 15, 14, 13, 12, 11], [10, 9, 8, 7, 6, 5, 4, 3, 2, 1, 0, 19, 18, 17, 16, 15, 14, 13, 12, 11], [20, 10, 9, 8, 7, 6, 5, 4, 3, 2, 1, 0, 19, 18, 17, 16, 15, 14, 13, 12, 11]]) (.cond (.t 81) .skip (.exit 3))) (.block 4 (.ops [⟨some 82, .op (.mov (.t 0)), none⟩, ⟨some 83, .op (.nilck (.t 82)), none⟩, ⟨some 84, .op (.faddr 1 (.t 83)), none⟩, ⟨some 85, .op (.load none (.t 84)), none⟩, ⟨some 86, .op (.bin .add (.t 85) (.c (.int .i64 1))), none⟩, ⟨some 87, .op (.nilck (.t 82)), none⟩, ⟨some 88, .op (.faddr 1 (.t 87)), none⟩, ⟨none, .op (.store 1 (.t 88) (.t 86)), none⟩]))) def C50L1 : IC := (.seq (.seq (.draw [⟨some 2, .op (.mov (.t 0)), none⟩, ⟨some 3, .op (.nilck (.t 2)), none⟩, ⟨some 4, .op (.faddr 1 (.t 3)), none⟩, ⟨some 5, .op (.load none (.t 4)), none⟩, ⟨some 6, .op (.mov (.t 0)), none⟩, ⟨some 7, .op (.nilck (.t 6)), none⟩, ⟨some 8, .op (.faddr 0 (.t 7)), none⟩, ⟨some 9, .op (.load none (.t 8)), none⟩, ⟨some 10, .op (.len .str (.t 9)), none⟩, ⟨some 11, .op (.bin .lss (.t 5) (.t 10)), none⟩] [[], [0], [1, 0], [2, 1, 0], [], [4], [5, 4], [6, 5, 4], [7, 6, 5, 4], [8, 7, 6, 5, 4, 3, 2, 1, 0]]) (.cond (.t 11) .skip (.exit 0))) (.block 1 (.seq (.block 2 (.seq (.ops [⟨some 13, .op (.mov (.t 0)), none⟩, ⟨some 14, .call 51 [.t 13, .c (.int .i64 0)], none⟩, ⟨some 15, .op (.bin .eql (.t 14) (.c (.int .i64 1))), none⟩, ⟨some 12, .op (.mov (.t 15)), none⟩]) (.cond (.t 12) (.seq (.ops [⟨some 16, .op (.mov (.t 0)), none⟩, ⟨some 17, .op (.nilck (.t 16)), none⟩, ⟨some 18, .op (.faddr 1 (.t 17)), none⟩, ⟨some 19, .op (.load none (.t 18)), none⟩, ⟨some 20, .op (.bin .add (.t 19) (.c (.int .i64 1))), none⟩, ⟨some 21, .op (.nilck (.t 16)), none⟩, ⟨some 22, .op (.faddr 1 (.t 21)), none⟩, ⟨none, .op (.store 1 (.t 22) (.t 20)), none⟩]) (.exit 1)) (.seq (.draw [⟨some 24, .op (.mov (.t 0)), none⟩, ⟨some 25, .op (.nilck (.t 24)), none⟩, ⟨some 26, .op (.faddr 0 (.t 25)), none⟩, ⟨some 27, .op (.load none (.t 26)), none⟩, ⟨some 28, .op (.mov (.t 0)), none⟩, ⟨some 29, .op (.nilck (.t 28)), none⟩, ⟨some 30, .op (.faddr 1 (.t 29)), none⟩, ⟨some 31, .op (.load none (.t 30)), none⟩, ⟨some 32, .op (.sidx (.t 27) (.t 31)), none⟩, ⟨some 33, .op (.bin .neq (.t 32) (.c (.int .u8 47))), none⟩, ⟨some 34, .op (.mov (.t 33)), none⟩, ⟨some 35, .op (.mov (.t 0)), (some (34, false))⟩, ⟨some 36, .op (.nilck (.t 35)), (some (34, false))⟩, ⟨some 37, .op (.faddr 1 (.t 36)), (some (34, false))⟩, ⟨some 38, .op (.load none (.t 37)), (some (34, false))⟩, ⟨some 39, .op (.bin .add (.t 38) (.c (.int .i64 1))), (some (34, false))⟩, ⟨some 40, .op (.mov (.t 0)), (some (34, false))⟩, ⟨some 41, .op (.nilck (.t 40)), (some (34, false))⟩, ⟨some 42, .op (.faddr 0 (.t 41)), (some (34, false))⟩, ⟨some 43, .op (.load none (.t 42)), (some (34, false))⟩, ⟨some 44, .op (.len .str (.t 43)), (some (34, false))⟩, ⟨some 45, .op (.bin .geq (.t 39) (.t 44)), (some (34, false))⟩, ⟨some 46, .op (.pick (.t 34) (.c (.bool true)) (.t 45)), none⟩, ⟨some 47, .op (.mov (.t 46)), none⟩, ⟨some 48, .op (.mov (.t 0)), (some (47, false))⟩, ⟨some 49, .op (.nilck (.t 48)), (some (47, false))⟩, ⟨some 50, .op (.faddr 0 (.t 49)), (some (47, false))⟩, ⟨some 51, .op (.load none (.t 50)), (some (47, false))⟩, ⟨some 52, .op (.mov (.t 0)), (some (47, false))⟩, ⟨some 53, .op (.nilck (.t 52)), (some (47, false))⟩, ⟨some 54, .op (.faddr 1 (.t 53)), (some (47, false))⟩, ⟨some 55, .op (.load none (.t 54)), (some (47, false))⟩, ⟨some 56, .op (.bin .add (.t 55) (.c (.int .i64 1))), (some (47, false))⟩, ⟨some 57, .op (.sidx (.t 51) (.t 56)), (some (47, false))⟩, ⟨some 58, .op (.bin .neq (.t 57) (.c (.int .u8 47))), (some (47, false))⟩, ⟨some 59, .op (.pick (.t 47) (.c (.bool true)) (.t 58)), none⟩, ⟨some 23, .op (.mov (.t 59)), none⟩] [[], [0], [1, 0], [2, 1, 0], [], [4], [5, 4], [6, 5, 4], [7, 6, 5, 4, 3, 2, 1, 0], [8, 7, 6, 5, 4, 3, 2, 1, 0], [9, 8, 7, 6, 5, 4, 3, 2, 1, 0], [10, 9, 8, 7, 6, 5, 4, 3, 2, 1, 0], [10, 9, 8, 7, 6, 5, 4, 3, 2, 1, 0, 11], [10, 9, 8, 7, 6, 5, 4, 3, 2, 1, 0, 12, 11], [10, 9, 8, 7, 6, 5, 4, 3, 2, 1, 0, 13, 12, 11], [10, 9, 8, 7, 6, 5, 4, 3, 2, 1, 0, 14, 13, 12, 11], [10, 9, 8, 7, 6, 5, 4, 3, 2, 1, 0], [10, 9, 8, 7, 6, 5, 4, 3, 2, 1, 0, 16], [10, 9, 8, 7, 6, 5, 4, 3, 2, 1, 0, 17, 16], [10, 9, 8, 7, 6, 5, 4, 3, 2, 1, 0, 18, 17, 16], [10, 9, 8, 7, 6, 5, 4, 3, 2, 1, 0, 19, 18, 17, 16], [10, 9, 8, 7, 6, 5, 4, 3, 2, 1, 0, 20, 19, 18, 17, 16, 15, 14, 13, 12, 11], [21, 10, 9, 8, 7, 6, 5, 4, 3, 2, 1, 0, 20, 19, 18, 17, 16, 15, 14, 13, 12, 11], [10, 9, 8, 7, 6, 5, 4, 3, 2, 1, 0, 22, 21, 20, 19, 18, 17, 16, 15, 14, 13, 12, 11], [23, 10, 9, 8, 7, 6, 5, 4, 3, 2, 1, 0, 22, 21, 20, 19, 18, 17, 16, 15, 14, 13, 12, 11], [23, 10, 9, 8, 7, 6, 5, 4, 3, 2, 1, 0, 22, 21, 20, 19, 18, 17, 16, 15, 14, 13, 12, 11, 24], [23, 10, 9, 8, 7, 6, 5, 4, 3, 2, 1, 0, 22, 21, 20, 19, 18, 17, 16, 15, 14, 13, 12, 11, 25, 24], [23, 10, 9, 8, 7, 6, 5, 4, 3, 2, 1, 0, 22, 21, 20, 19, 18, 17, 16, 15, 14, 13, 12, 11, 26, 25, 24], [23, 10, 9, 8, 7, 6, 5, 4, 3, 2, 1, 0, 22, 21, 20, 19, 18, 17, 16, 15, 14, 13, 12, 11], [23, 10, 9, 8, 7, 6, 5, 4, 3, 2, 1, 0, 22, 21, 20, 19, 18, 17, 16, 15, 14, 13, 12, 11, 28], [23, 10, 9, 8, 7, 6, 5, 4, 3, 2, 1, 0, 22, 21, 20, 19, 18, 17, 16, 15, 14, 13, 12, 11, 29, 28], [23, 10, 9, 8, 7, 6, 5, 4, 3, 2, 1, 0, 22, 21, 20, 19, 18, 17, 16, 15, 14, 13, 12, 11, 30, 29, 28], [23, 10, 9, 8, 7, 6, 5, 4, 3, 2, 1, 0, 22, 21, 20, 19, 18, 17, 16, 15, 14, 13, 12, 11, 31, 30, 29, 28], [23, 10, 9, 8, 7, 6, 5, 4, 3, 2, 1, 0, 22, 21, 20, 19, 18, 17, 16, 15, 14, 13, 12, 11, 32, 31, 30, 29, 28, 27, 26, 25, 24], [23, 10, 9, 8, 7, 6, 5, 4, 3, 2, 1, 0, 22, 21, 20, 19, 18, 17, 16, 15, 14, 13, 12, 11, 33, 32, 31, 30, 29, 28, 27, 26, 25, 24], [34, 23, 10, 9, 8, 7, 6, 5, 4, 3, 2, 1, 0, 22, 21, 20, 19, 18, 17, 16, 15, 14, 13, 12, 11, 33, 32, 31, 30, 29, 28, 27, 26, 25, 24], [23, 10, 9, 8, 7, 6, 5, 4, 3, 2, 1, 0, 22, 21, 20, 19, 18, 17, 16, 15, 14, 13, 12, 11, 35, 34, 33, 32, 31, 30, 29, 28, 27, 26, 25, 24]]) (.cond (.t 23) .ret .skip))))) (.block 3 (.loop C50L0))))) def C50 : IFn := ⟨89, (.seq .skip (.block 0 (.loop C50L1))), []⟩
def C54 : IFn := ⟨68, (.seq (.ops [⟨some 2, .op (.mov (.c (.int .i64 0))), none⟩]) (.seq (.draw [⟨some 5, .op (.mov (.t 0)), none⟩, ⟨some 6, .op (.nilck (.t 5)), none⟩, ⟨some 7, .op (.faddr 0 (.t 6)), none⟩, ⟨some 8, .op (.load none (.t 7)), none⟩, ⟨some 9, .op (.mov (.t 0)), none⟩, ⟨some 10, .op (.nilck (.t 9)), none⟩, ⟨some 11, .op (.faddr 1 (.t 10)), none⟩, ⟨some 12, .op (.load none (.t 11)), none⟩, ⟨some 13, .op (.sidx (.t 8) (.t 12)), none⟩, ⟨some 3, .op (.mov (.t 13)), none⟩] [[], [0], [1, 0], [2, 1, 0], [], [4], [5, 4], [6, 5, 4], [7, 6, 5, 4, 3, 2, 1, 0], [8, 7, 6, 5, 4, 3, 2, 1, 0]]) (.seq (.ops [⟨some 4, .op (.mov (.c (.int .u8 0))), none⟩]) (.seq (.seq (.draw [⟨some 14, .op (.mov (.t 0)), none⟩, ⟨some 15, .op (.nilck (.t 14)), none⟩, ⟨some 16, .op (.faddr 1 (.t 15)), none⟩, ⟨some 17, .op (.load none (.t 16)), none⟩, ⟨some 18, .op (.bin .add (.t 17) (.c (.int .i64 1))), none⟩, ⟨some 19, .op (.mov (.t 0)), none⟩, ⟨some 20, .op (.nilck (.t 19)), none⟩, ⟨some 21, .op (.faddr 0 (.t 20)), none⟩, ⟨some 22, .op (.load none (.t 21)), none⟩, ⟨some 23, .op (.len .str (.t 22)), none⟩, ⟨some 24, .op (.bin .lss (.t 18) (.t 23)), none⟩] [[], [0], [1, 0], [2, 1, 0], [3, 2, 1, 0], [], [5], [6, 5], [7, 6, 5], [8, 7, 6, 5], [9, 8, 7, 6, 5, 4, 3, 2, 1, 0]]) (.cond (.t 24) (.draw [⟨some 25, .op (.mov (.t 0)), none⟩, ⟨some 26, .op (.nilck (.t 25)), none⟩, ⟨some 27, .op (.faddr 0 (.t 26)), none⟩, ⟨some 28, .op (.load none (.t 27)), none⟩, ⟨some 29, .op (.mov (.t 0)), none⟩, ⟨some 30, .op (.nilck (.t 29)), none⟩, ⟨some 31, .op (.faddr 1 (.t 30)), none⟩, ⟨some 32, .op (.load none (.t 31)), none⟩, ⟨some 33, .op (.bin .add (.t 32) (.c (.int .i64 1))), none⟩, ⟨some 34, .op (.sidx (.t 28) (.t 33)), none⟩, ⟨some 4, .op (.mov (.t 34)), none⟩] [[], [0], [1, 0], [2, 1, 0], [], [4], [5, 4], [6, 5, 4], [7, 6, 5, 4], [8, 7, 6, 5, 4, 3, 2, 1, 0], [9, 8, 7, 6, 5, 4, 3, 2, 1, 0]]) .skip)) (.seq (.block 0 (.seq (.ops [⟨some 36, .op (.mov (.t 3)), none⟩, ⟨some 37, .op (.bin .eql (.t 36) (.c (.int .u8 62))), none⟩, ⟨some 38, .op (.mov (.t 37)), none⟩, ⟨some 39, .op (.mov (.t 4)), (some (38, true))⟩, ⟨some 40, .op (.bin .neq (.t 39) (.c (.int .u8 62))), (some (38, true))⟩, ⟨some 41, .op (.pick (.t 38) (.t 40) (.c (.bool false))), none⟩, ⟨some 35, .op (.mov (.t 41)), none⟩]) (.cond (.t 35) (.seq (.ops [⟨some 2, .op (.mov (.c (.int .i64 0))), none⟩]) .ret) (.seq (.seq (.ops [⟨some 43, .op (.mov (.t 3)), none⟩, ⟨some 44, .op (.bin .eql (.t 43) (.c (.int .u8 60))), none⟩, ⟨some 45, .op (.mov (.t 44)), none⟩, ⟨some 46, .op (.mov (.t 3)), (some (45, false))⟩, ⟨some 47, .op (.bin .eql (.t 46) (.c (.int .u8 62))), (some (45, false))⟩, ⟨some 48, .op (.pick (.t 45) (.c (.bool true)) (.t 47)), none⟩, ⟨some 49, .op (.mov (.t 48)), none⟩, ⟨some 50, .op (.mov (.t 4)), (some (49, true))⟩, ⟨some 51, .op (.mov (.t 3)), (some (49, true))⟩, ⟨some 52, .op (.bin .eql (.t 50) (.t 51)), (some (49, true))⟩, ⟨some 53, .op (.pick (.t 49) (.t 52) (.c (.bool false))), none⟩, ⟨some 42, .op (.mov (.t 53)), none⟩]) (.cond (.t 42) .skip (.ops [⟨some 54, .op (.mov (.t 3)), none⟩, ⟨some 55, .op (.bin .eql (.t 54) (.c (.int .u8 61))), none⟩, ⟨some 56, .op (.mov (.t 55)), none⟩, ⟨some 57, .op (.mov (.t 3)), (some (56, false))⟩, ⟨some 58, .op (.bin .eql (.t 57) (.c (.int .u8 33))), (some (56, false))⟩, ⟨some 59, .op (.pick (.t 56) (.c (.bool true)) (.t 58)), none⟩, ⟨some 60, .op (.mov (.t 59)), none⟩, ⟨some 61, .op (.mov (.t 3)), (some (60, false))⟩, ⟨some 62, .op (.bin .eql (.t 61) (.c (.int .u8 60))), (some (60, false))⟩, ⟨some 63, .op (.pick (.t 60) (.c (.bool true)) (.t 62)), none⟩, ⟨some 64, .op (.mov (.t 63)), none⟩, ⟨some 65, .op (.mov (.t 4)), (some (64, true))⟩, ⟨some 66, .op (.bin .eql (.t 65) (.c (.int .u8 61))), (some (64, true))⟩, ⟨some 67, .op (.pick (.t 64) (.t 66) (.c (.bool false))), none⟩, ⟨some 42, .op (.mov (.t 67)), none⟩]))) (.cond (.t 42) (.seq (.ops [⟨some 2, .op (.mov (.c (.int .i64 2))), none⟩]) .ret) .skip))))) (.seq (.ops [⟨some 2, .op (.mov (.c (.int .i64 1))), none⟩]) .ret)))))), [.tmp 2]⟩
def C31 : IFn := ⟨125, (.seq (.ops [⟨some 2, .op (.alloc [.int .i64 0, .string ⟨#[]⟩, .int .i64 0, .int .i64 0, .int .i64 0]), none⟩, ⟨some 3, .op (.mov (.c (.int .i64 0))), none⟩]) (.seq (.ops [⟨some 8, .op (.mov (.t 0)), none⟩, ⟨some 9, .call 50 [.t 8], none⟩]) (.seq (.draw [⟨some 10, .op (.mov (.t 0)), none⟩, ⟨some 11, .op (.nilck (.t 10)), none⟩, ⟨some 12, .op (.faddr 1 (.t 11)), none⟩, ⟨some 13, .op (.load none (.t 12)), none⟩, ⟨some 14, .op (.mov (.t 0)), none⟩, ⟨some 15, .op (.nilck (.t 14)), none⟩, ⟨some 16, .op (.faddr 1 (.t 15)), none⟩, ⟨some 17, .op (.load none (.t 16)), none⟩, ⟨some 18, .op (.build [.int .i64 0, .string ⟨#[]⟩, .int .i64 0, .int .i64 0, .int .i64 0] [(2, 1, .t 13), (3, 1, .t 17)]), none⟩, ⟨some 4, .op (.alloc [.int .i64 0, .string ⟨#[]⟩, .int .i64 0, .int .i64 0, .int .i64 0]), none⟩, ⟨none, .op (.store 5 (.t 4) (.t 18)), none⟩] [[], [0], [1, 0], [2, 1, 0], [], [4], [5, 4], [6, 5, 4], [7, 6, 5, 4, 3, 2, 1, 0], [], [9, 8, 7, 6, 5, 4, 3, 2, 1, 0]]) (.seq (.ops [⟨some 5, .op (.mov (.c (.int .i64 0))), none⟩]) (.seq (.seq (.ops [⟨some 19, .op (.mov (.t 0)), none⟩, ⟨some 20, .call 51 [.t 19, .c (.int .i64 0)], none⟩]) (.block 0 (.seq (.ops [⟨some 33, .op (.bin .eql (.t 20) (.c (.int .i64 2))), none⟩, ⟨some 32, .op (.mov (.t 33)), none⟩]) (.cond (.t 32) (.seq (.ops [⟨some 34, .op (.mov (.t 0)), none⟩, ⟨some 35, .call 52 [.t 34], none⟩, ⟨some 5, .op (.mov (.t 35)), none⟩]) (.seq (.ops [⟨some 36, .op (.faddr 0 (.t 4)), none⟩, ⟨none, .op (.store 1 (.t 36) (.c (.int .i64 1))), none⟩]) (.seq (.draw [⟨some 37, .op (.mov (.t 0)), none⟩, ⟨some 38, .op (.nilck (.t 37)), none⟩, ⟨some 39, .op (.faddr 0 (.t 38)), none⟩, ⟨some 40, .op (.load none (.t 39)), none⟩, ⟨some 41, .op (.mov (.t 0)), none⟩, ⟨some 42, .op (.nilck (.t 41)), none⟩, ⟨some 43, .op (.faddr 1 (.t 42)), none⟩, ⟨some 44, .op (.load none (.t 43)), none⟩, ⟨some 45, .op (.mov (.t 0)), none⟩, ⟨some 46, .op (.nilck (.t 45)), none⟩, ⟨some 47, .op (.faddr 1 (.t 46)), none⟩, ⟨some 48, .op (.load none (.t 47)), none⟩, ⟨some 49, .op (.mov (.t 5)), none⟩, ⟨some 50, .op (.bin .add (.t 48) (.t 49)), none⟩, ⟨some 51, .op (.sub .str (.t 40) (some (.t 44)) (some (.t 50)) none), none⟩, ⟨some 52, .call 53 [.t 51], none⟩] [[], [0], [1, 0], [2, 1, 0], [], [4], [5, 4], [6, 5, 4], [], [8], [9, 8], [10, 9, 8], [], [12, 11, 10, 9, 8], [13, 12, 11, 10, 9, 8, 7, 6, 5, 4, 3, 2, 1, 0], [14, 13, 12, 11, 10, 9, 8, 7, 6, 5, 4, 3, 2, 1, 0]]) (.cond (.t 52) (.ops [⟨some 53, .op (.faddr 0 (.t 4)), none⟩, ⟨none, .op (.store 1 (.t 53) (.c (.int .i64 2))), none⟩]) .skip)))) (.seq (.ops [⟨some 55, .op (.bin .eql (.t 20) (.c (.int .i64 3))), none⟩, ⟨some 54, .op (.mov (.t 55)), none⟩]) (.cond (.t 54) (.seq (.ops [⟨some 56, .op (.faddr 0 (.t 4)), none⟩, ⟨none, .op (.store 1 (.t 56) (.c (.int .i64 4))), none⟩]) (.ops [⟨some 57, .op (.mov (.t 0)), none⟩, ⟨some 58, .call 52 [.t 57], none⟩, ⟨some 5, .op (.mov (.t 58)), none⟩])) (.seq (.ops [⟨some 60, .op (.bin .eql (.t 20) (.c (.int .i64 5))), none⟩, ⟨some 59, .op (.mov (.t 60)), none⟩]) (.cond (.t 59) (.seq (.ops [⟨some 61, .op (.faddr 0 (.t 4)), none⟩, ⟨none, .op (.store 1 (.t 61) (.c (.int .i64 4))), none⟩]) (.draw [⟨some 62, .op (.mov (.t 0)), none⟩, ⟨some 63, .op (.nilck (.t 62)), none⟩, ⟨some 64, .op (.faddr 0 (.t 63)), none⟩, ⟨some 65, .op (.load none (.t 64)), none⟩, ⟨some 66, .op (.len .str (.t 65)), none⟩, ⟨some 67, .op (.mov (.t 0)), none⟩, ⟨some 68, .op (.nilck (.t 67)), none⟩, ⟨some 69, .op (.faddr 1 (.t 68)), none⟩, ⟨some 70, .op (.load none (.t 69)), none⟩, ⟨some 71, .op (.bin .sub (.t 66) (.t 70)), none⟩, ⟨some 72, .op (.minmax false (.c (.int .i64 3)) (.t 71)), none⟩, ⟨some 5, .op (.mov (.t 72)), none⟩] [[], [0], [1, 0], [2, 1, 0], [3, 2, 1, 0], [], [5], [6, 5], [7, 6, 5], [8, 7, 6, 5, 4, 3, 2, 1, 0], [9, 8, 7, 6, 5, 4, 3, 2, 1, 0], [10, 9, 8, 7, 6, 5, 4, 3, 2, 1, 0]])) (.seq (.ops [⟨some 74, .op (.bin .eql (.t 20) (.c (.int .i64 4))), none⟩, ⟨some 73, .op (.mov (.t 74)), none⟩]) (.cond (.t 73) (.seq (.ops [⟨some 75, .op (.faddr 0 (.t 4)), none⟩, ⟨none, .op (.store 1 (.t 75) (.c (.int .i64 3))), none⟩]) (.ops [⟨some 76, .op (.mov (.t 0)), none⟩, ⟨some 77, .call 54 [.t 76], none⟩, ⟨some 5, .op (.mov (.t 77)), none⟩])) (.seq (.draw [⟨some 21, .op (.mov (.t 0)), none⟩, ⟨some 22, .op (.nilck (.t 21)), none⟩, ⟨some 23, .op (.faddr 1 (.t 22)), none⟩, ⟨some 24, .op (.load none (.t 23)), none⟩, ⟨some 25, .op (.mov (.t 0)), none⟩, ⟨some 26, .op (.nilck (.t 25)), none⟩, ⟨some 27, .op (.faddr 0 (.t 26)), none⟩, ⟨some 28, .op (.load none (.t 27)), none⟩, ⟨some 29, .op (.len .str (.t 28)), none⟩, ⟨some 30, .op (.bin .eql (.t 24) (.t 29)), none⟩] [[], [0], [1, 0], [2, 1, 0], [], [4], [5, 4], [6, 5, 4], [7, 6, 5, 4], [8, 7, 6, 5, 4, 3, 2, 1, 0]]) (.cond (.t 30) (.seq (.ops [⟨some 31, .op (.load (some 5) (.t 4)), none⟩, ⟨none, .op (.store 5 (.t 2) (.t 31)), none⟩, ⟨some 3, .op (.mov (.c (.int .i64 0))), none⟩]) .ret) .skip)))))))))))) (.seq (.draw [⟨some 78, .op (.mov (.t 0)), none⟩, ⟨some 79, .op (.nilck (.t 78)), none⟩, ⟨some 80, .op (.faddr 0 (.t 79)), none⟩, ⟨some 81, .op (.load none (.t 80)), none⟩, ⟨some 82, .op (.mov (.t 0)), none⟩, ⟨some 83, .op (.nilck (.t 82)), none⟩, ⟨some 84, .op (.faddr 1 (.t 83)), none⟩, ⟨some 85, .op (.load none (.t 84)), none⟩, ⟨some 86, .op (.mov (.t 0)), none⟩, ⟨some 87, .op (.nilck (.t 86)), none⟩, ⟨some 88, .op (.faddr 1 (.t 87)), none⟩, ⟨some 89, .op (.load none (.t 88)), none⟩, ⟨some 90, .op (.mov (.t 5)), none⟩, ⟨some 91, .op (.bin .add (.t 89) (.t 90)), none⟩, ⟨some 92, .op (.sub .str (.t 81) (some (.t 85)) (some (.t 91)) none), none⟩, ⟨some 93, .op (.faddr 1 (.t 4)), none⟩, ⟨none, .op (.store 1 (.t 93) (.t 92)), none⟩] [[], [0], [1, 0], [2, 1, 0], [], [4], [5, 4], [6, 5, 4], [], [8], [9, 8], [10, 9, 8], [], [12, 11, 10, 9, 8], [13, 12, 11, 10, 9, 8, 7, 6, 5, 4, 3, 2, 1, 0], [14, 13, 12, 11, 10, 9, 8, 7, 6, 5, 4, 3, 2, 1, 0], [14, 13, 12, 11, 10, 9, 8, 7, 6, 5, 4, 3, 2, 1, 0, 15]]) (.seq (.seq (.ops [⟨some 94, .op (.faddr 0 (.t 4)), none⟩, ⟨some 95, .op (.load none (.t 94)), none⟩, ⟨some 96, .op (.bin .eql (.t 95) (.c (.int .i64 4))), none⟩]) (.cond (.t 96) (.seq (.ops [⟨some 98, .op (.faddr 1 (.t 4)), none⟩, ⟨some 99, .op (.load none (.t 98)), none⟩, ⟨some 100, .call 39 [.t 99], none⟩, ⟨some 97, .op (.mov (.t 100)), none⟩, ⟨some 101, .op (.extract (.t 97) 0), none⟩, ⟨some 102, .op (.extract (.t 97) 1), none⟩, ⟨some 6, .op (.mov (.t 101)), none⟩, ⟨some 7, .op (.mov (.t 102)), none⟩]) (.seq (.seq (.ops [⟨some 103, .op (.mov (.t 7)), none⟩, ⟨some 104, .op (.un .not (.t 103)), none⟩]) (.cond (.t 104) (.seq (.ops [⟨some 105, .op (.load (some 5) (.t 4)), none⟩, ⟨none, .op (.store 5 (.t 2) (.t 105)), none⟩, ⟨some 3, .op (.mov (.c (.int .i64 41))), none⟩]) .ret) .skip)) (.ops [⟨some 106, .op (.mov (.t 6)), none⟩, ⟨some 107, .op (.faddr 4 (.t 4)), none⟩, ⟨none, .op (.store 1 (.t 107) (.t 106)), none⟩]))) .skip)) (.seq (.seq (.ops [⟨some 108, .op (.mov (.t 5)), none⟩, ⟨some 109, .op (.bin .eql (.t 108) (.c (.int .i64 0))), none⟩]) (.cond (.t 109) (.seq (.ops [⟨some 110, .op (.load (some 5) (.t 4)), none⟩, ⟨none, .op (.store 5 (.t 2) (.t 110)), none⟩, ⟨some 3, .op (.mov (.c (.int .i64 40))), none⟩]) .ret) .skip)) (.seq (.ops [⟨some 111, .op (.mov (.t 0)), none⟩, ⟨some 112, .op (.nilck (.t 111)), none⟩, ⟨some 113, .op (.faddr 1 (.t 112)), none⟩, ⟨some 114, .op (.load none (.t 113)), none⟩, ⟨some 115, .op (.mov (.t 5)), none⟩, ⟨some 116, .op (.bin .add (.t 114) (.t 115)), none⟩, ⟨some 117, .op (.nilck (.t 111)), none⟩, ⟨some 118, .op (.faddr 1 (.t 117)), none⟩, ⟨none, .op (.store 1 (.t 118) (.t 116)), none⟩]) (.seq (.ops [⟨some 119, .op (.mov (.t 0)), none⟩, ⟨some 120, .op (.nilck (.t 119)), none⟩, ⟨some 121, .op (.faddr 1 (.t 120)), none⟩, ⟨some 122, .op (.load none (.t 121)), none⟩, ⟨some 123, .op (.faddr 3 (.t 4)), none⟩, ⟨none, .op (.store 1 (.t 123) (.t 122)), none⟩]) (.seq (.ops [⟨some 124, .op (.load (some 5) (.t 4)), none⟩, ⟨none, .op (.store 5 (.t 2) (.t 124)), none⟩, ⟨some 3, .op (.mov (.c (.int .i64 0))), none⟩]) .ret))))))))))), [.cell 2 (some 5), .tmp 3]⟩
def C16L0 : IC := (.block 1 (.seq (.ops [⟨some 17, .op (.mov (.t 5)), none⟩, ⟨some 18, .call 31 [.t 17], none⟩, ⟨some 16, .op (.mov (.t 18)), none⟩, ⟨some 19, .op (.extract (.t 16) 0), none⟩, ⟨some 20, .op (.extract (.t 16) 1), none⟩, ⟨some 7, .op (.alloc [.int .i64 0, .string ⟨#[]⟩, .int .i64 0, .int .i64 0, .int .i64 0]), none⟩, ⟨none, .op (.store 5 (.t 7) (.t 19)), none⟩, ⟨some 8, .op (.mov (.t 20)), none⟩]) (.seq (.seq (.ops [⟨some 21, .op (.mov (.t 8)), none⟩, ⟨some 22, .op (.bin .neq (.t 21) (.c (.int .i64 0))), none⟩]) (.cond (.t 22) (.seq (.draw [⟨some 23, .op (.faddr 2 (.t 7)), none⟩, ⟨some 24, .op (.load none (.t 23)), none⟩, ⟨some 25, .op (.mov (.t 8)), none⟩, ⟨some 2, .op (.mov (.c (.slice none 0 0))), none⟩, ⟨some 3, .op (.mov (.t 24)), none⟩, ⟨some 4, .op (.mov (.t 25)), none⟩] [[], [0], [], [], [3, 1, 0], [4, 3, 1, 0, 2]]) .ret) .skip)) (.seq (.ops [⟨some 26, .op (.mov (.t 6)), none⟩, ⟨some 27, .op (.load (some 5) (.t 7)), none⟩, ⟨some 28, .op (.lit 5 1 [.int .i64 0, .string ⟨#[]⟩, .int .i64 0, .int .i64 0, .int .i64 0] [(0, 5, .t 27)]), none⟩, ⟨some 29, .op (.append 5 48 (.t 26) (.t 28)), none⟩, ⟨some 6, .op (.mov (.t 29)), none⟩]) (.seq (.ops [⟨some 30, .op (.faddr 0 (.t 7)), none⟩, ⟨some 31, .op (.load none (.t 30)), none⟩, ⟨some 32, .op (.bin .eql (.t 31) (.c (.int .i64 0))), none⟩]) (.cond (.t 32) (.seq (.ops [⟨some 33, .op (.mov (.t 6)), none⟩, ⟨some 2, .op (.mov (.t 33)), none⟩, ⟨some 3, .op (.mov (.c (.int .i64 0))), none⟩, ⟨some 4, .op (.mov (.c (.int .i64 0))), none⟩]) .ret) .skip)))))) def C16 : IFn := ⟨34, (.seq (.ops [⟨some 2, .op (.mov (.c (.slice none 0 0))), none⟩, ⟨some 3, .op (.mov (.c (.int .i64 0))), none⟩, ⟨some 4, .op (.mov (.c (.int .i64 0))), none⟩]) (.seq (.seq (.ops [⟨some 9, .op (.mov (.t 0)), none⟩, ⟨some 10, .op (.len .str (.t 9)), none⟩, ⟨some 11, .op (.bin .gtr (.t 10) (.c (.int .i64 200000))), none⟩]) (.cond (.t 11) (.seq (.ops [⟨some 2, .op (.mov (.c (.slice none 0 0))), none⟩, ⟨some 3, .op (.mov (.c (.int .i64 0))), none⟩, ⟨some 4, .op (.mov (.c (.int .i64 2))), none⟩]) .ret) .skip)) (.seq (.ops [⟨some 12, .op (.mov (.t 0)), none⟩, ⟨some 13, .call 30 [], none⟩, ⟨some 14, .op (.build [.string ⟨#[]⟩, .int .i64 0, .int .i64 0, .int .i64 0, .int .i64 0, .int .i64 0, .int .i64 0, .int .i64 0, .int .i64 0, .int .i64 0, .int .i64 0, .int .i64 0, .int .i64 0, .int .i64 0, .int .i64 0, .int .i64 0, .int .i64 0, .int .i64 0, .int .i64 0, .int .i64 0, .int .i64 0, .int .i64 0, .int .i64 0, .int .i64 0, .int .i64 0, .int .i64 0, .int .i64 0, .int .i64 0, .int .i64 0, .int .i64 0, .int .i64 0, .int .i64 0, .int .i64 0, .int .i64 0, .int .i64 0, .int .i64 0, .int .i64 0, .int .i64 0, .int .i64 0, .int .i64 0, .int .i64 0, .int .i64 0, .int .i64 0, .int .i64 0, .int .i64 0, .int .i64 0, .int .i64 0, .int .i64 0, .int .i64 0, .int .i64 0, .int .i64 0, .int .i64 0, .int .i64 0, .int .i64 0, .int .i64 0, .int .i64 0, .int .i64 0, .int .i64 0, .int .i64 0, .int .i64 0, .int .i64 0, .int .i64 0, .int .i64 0, .int .i64 0, .int .i64 0, .int .i64 0, .int .i64 0, .int .i64 0, .int .i64 0, .int .i64 0, .int .i64 0, .int .i64 0, .int .i64 0, .int .i64 0, .int .i64 0, .int .i64 0, .int .i64 0, .int .i64 0, .int .i64 0, .int .i64 0, .int .i64 0, .int .i64 0, .int .i64 0, .int .i64 0, .int .i64 0, .int .i64 0, .int .i64 0, .int .i64 0, .int .i64 0, .int .i64 0, .int .i64 0, .int .i64 0, .int .i64 0, .int .i64 0, .int .i64 0, .int .i64 0, .int .i64 0, .int .i64 0, .int .i64 0, .int .i64 0, .int .i64 0, .int .i64 0, .int .i64 0, .int .i64 0, .int .i64 0, .int .i64 0, .int .i64 0, .int .i64 0, .int .i64 0, .int .i64 0, .int .i64 0, .int .i64 0, .int .i64 0, .int .i64 0, .int .i64 0, .int .i64 0, .int .i64 0, .int .i64 0, .int .i64 0, .int .i64 0, .int .i64 0, .int .i64 0, .int .i64 0, .int .i64 0, .int .i64 0, .int .i64 0, .int .i64 0, .int .i64 0, .int .i64 0, .int .i64 0, .int .i64 0, .int .i64 0, .int .i64 0, .int .i64 0, .int .i64 0, .int .i64 0, .int .i64 0, .int .i64 0, .int .i64 0, .int .i64 0, .int .i64 0, .int .i64 0, .int .i64 0, .int .i64 0, .int .i64 0, .int .i64 0, .int .i64 0, .int .i64 0, .int .i64 0, .int .i64 0, .int .i64 0, .int .i64 0, .int .i64 0, .int .i64 0, .int .i64 0, .int .i64 0, .int .i64 0, .int .i64 0, .int .i64 0, .int .i64 0, .int .i64 0, .int .i64 0, .int .i64 0, .int .i64 0, .int .i64 0, .int .i64 0, .int .i64 0, .int .i64 0, .int .i64 0, .int .i64 0, .int .i64 0, .int .i64 0, .int .i64 0, .int .i64 0, .int .i64 0, .int .i64 0, .int .i64 0, .int .i64 0, .int .i64 0, .int .i64 0, .int .i64 0, .int .i64 0, .int .i64 0, .int .i64 0, .int .i64 0, .int .i64 0, .int .i64 0, .int .i64 0, .int .i64 0, .int .i64 0, .int .i64 0, .int .i64 0, .int .i64 0, .int .i64 0, .int .i64 0, .int .i64 0, .int .i64 0, .int .i64 0, .int .i64 0, .int .i64 0, .int .i64 0, .int .i64 0, .int .i64 0, .int .i64 0, .int .i64 0, .int .i64 0, .int .i64 0, .int .i64 0, .int .i64 0, .int .i64 0, .int .i64 0, .int .i64 0, .int .i64 0, .int .i64 0, .int .i64 0, .int .i64 0, .int .i64 0, .int .i64 0, .int .i64 0, .int .i64 0, .int .i64 0, .int .i64 0, .int .i64 0, .int .i64 0, .int .i64 0, .int .i64 0, .int .i64 0, .int .i64 0, .int .i64 0, .int .i64 0, .int .i64 0, .int .i64 0, .int .i64 0, .int .i64 0, .int .i64 0, .int .i64 0, .int .i64 0, .int .i64 0, .int .i64 0, .int .i64 0, .int .i64 0, .int .i64 0, .int .i64 0, .int .i64 0, .int .i64 0, .int .i64 0, .int .i64 0, .int .i64 0, .int .i64 0, .int .i64 0, .int .i64 0, .int .i64 0, .int .i64 0, .int .i64 0, .int .i64 0, .int .i64 0, .int .i64 0, .int .i64 0] [(0, 1, .t 12), (2, 256, .t 13)]), none⟩, ⟨some 15, .op (.box (.t 14)), none⟩, ⟨some 5, .op (.mov (.t 15)), none⟩]) (.seq (.ops [⟨some 6, .op (.mov (.c (.slice none 0 0))), none⟩]) (.block 0 (.loop C16L0)))))), [.tmp 2, .tmp 3, .tmp 4]⟩
end Go.Idl
end

section
namespace Go.Idl
variable {T : Tbl}
def isL (c : Int) : Bool := decide (97 ≤ c) && decide (c ≤ 122) || decide (65 ≤ c) && decide (c ≤ 90) || decide (c = 95)
def isD (c : Int) : Bool := decide (48 ≤ c) && decide (c ≤ 57)
def figI (d c : Int) : Int := if 48 ≤ c ∧ c ≤ 57 then c - 48 else if 97 ≤ c ∧ c ≤ 102 then c - 87 else if 65 ≤ c ∧ c ≤ 70 then c - 55 else d
def wordsL : List ByteArray := [⟨#[114, 101, 99]⟩, ⟨#[102, 110]⟩, ⟨#[108, 101, 116]⟩, ⟨#[105, 102]⟩, ⟨#[101, 108, 115, 101]⟩, ⟨#[119, 104, 105, 108, 101]⟩, ⟨#[114, 101, 116, 117, 114, 110]⟩, ⟨#[111, 117, 116]⟩, ⟨#[115, 116, 111, 112]⟩, ⟨#[109, 101, 114, 103, 101]⟩, ⟨#[112, 114, 111, 109, 111, 116, 101]⟩, ⟨#[110, 101, 119]⟩, ⟨#[97, 114, 114]⟩, ⟨#[108, 101, 110]⟩, ⟨#[105, 110]⟩, ⟨#[105, 109, 103]⟩, ⟨#[115, 105, 122, 101]⟩, ⟨#[110, 117, 108, 108]⟩, ⟨#[114, 111, 111, 116]⟩]
theorem wrapU8 {x : Int} (h1 : 0 ≤ x) (h2 : x ≤ 255) : IntKind.u8.wrap x = x := by
  simp [IntKind.wrap, IntKind.signed, IntKind.bits]; omega
theorem wrapU64 {x : Int} (h1 : 0 ≤ x) (h2 : x ≤ 18446744073709551615) : IntKind.u64.wrap x = x := by
  simp [IntKind.wrap, IntKind.signed, IntKind.bits]; omega
end Go.Idl
end

section
namespace Go.Idl
variable {T : Tbl}
def bs (s : ByteArray) : List UInt8 := s.data.toList
theorem bs_size (s : ByteArray) : s.size = (bs s).length := (Array.length_toList).symm
theorem bs_inj {s t : ByteArray} (h : bs s = bs t) : s = t := by
  obtain ⟨⟨l⟩⟩ := s
  obtain ⟨⟨k⟩⟩ := t
  simp only [bs] at h
  rw [h]
theorem bs_extract (s : ByteArray) (a b : Nat) : bs (s.extract a b) = ((bs s).take b).drop a := by
  simp only [bs, ByteArray.data_extract, Array.toList_extract, List.extract_eq_take_drop]
  rw [List.drop_take]
theorem bs_at {s : ByteArray} {j : Nat} (h : j < s.size) : ∃ b, (bs s)[j]? = some b := ⟨_, List.getElem?_eq_getElem (by rw [← bs_size]; exact h)⟩
theorem u8_lt (b : UInt8) : 0 ≤ ((b.toNat : Nat) : Int) ∧ ((b.toNat : Nat) : Int) ≤ 255 := ⟨by omega, by have := b.toNat_lt; omega⟩
def wholeF (base : Int) : List UInt8 → Int → Option Int
  | [], n => some n
  | c :: r, n => if base ≤ figI 255 c.toNat then none else if (9223372036854775807 - figI 255 c.toNat) / base < n then none else wholeF base r (n * base + figI 255 c.toNat)
def wholeR (base : Int) (l : List UInt8) : Int × Bool := match wholeF base l 0 with
  | some n => (n, decide (l ≠ []))
  | none => (0, false)
def pre (base : Int) (l : List UInt8) (j : Nat) : Option Int := wholeF base (l.take j) 0
theorem wholeF_append (base : Int) : ∀ (a b : List UInt8) (n : Int), wholeF base (a ++ b) n = match wholeF base a n with | some m => wholeF base b m | none => none
  | [], b, n => rfl
  | c :: a, b, n => by
    simp only [List.cons_append, wholeF]
    split
    · rfl
    · split
      · rfl
      · exact wholeF_append base a b _
theorem pre_succ {base : Int} {l : List UInt8} {j : Nat} {c : UInt8} (h : l[j]? = some c) : pre base l (j + 1) = match pre base l j with | some m => wholeF base [c] m | none => none := by
  unfold pre
  rw [List.take_add_one, h, wholeF_append]; rfl
theorem whole_none {base : Int} {l : List UInt8} {j : Nat} (h : pre base l j = none) : wholeR base l = (0, false) := by
  unfold wholeR
  have := wholeF_append base (l.take j) (l.drop j) 0
  rw [List.take_append_drop] at this
  rw [this, show wholeF base (l.take j) 0 = none from h]
theorem whole_all {base : Int} {l : List UInt8} {n : Int} (h : pre base l l.length = some n) : wholeR base l = (n, decide (l ≠ [])) := by
  unfold wholeR
  unfold pre at h
  rw [List.take_length] at h
  rw [h]
theorem wholeF_range {base : Int} (hb : 0 < base) : ∀ {l : List UInt8} {n m : Int}, 0 ≤ n → n ≤ 9223372036854775807 → wholeF base l n = some m → 0 ≤ m ∧ m ≤ 9223372036854775807
  | [], n, m, h0, h1, h => by simp only [wholeF, Option.some.injEq] at h; omega
  | c :: l, n, m, h0, h1, h => by
    simp only [wholeF] at h
    split at h
    · cases h
    · split at h
      · cases h
      · rename_i a b
        have hf : 0 ≤ figI 255 c.toNat := by unfold figI; repeat' split; all_goals omega
        have hq : n ≤ (9223372036854775807 - figI 255 c.toNat) / base := by omega
        have := (Int.le_ediv_iff_mul_le hb).1 hq
        exact wholeF_range hb (by have := Int.mul_nonneg h0 (Int.le_of_lt hb); omega) (by omega) h
end Go.Idl
end

section
namespace Go.Idl
variable {T : Tbl}
theorem idx0 {k : IntKind} {n : Nat} (h : 0 < n) : idxV n (.int k 0) = some 0 := by simp [idxV, h]
theorem idx1 {k : IntKind} {n : Nat} (h : 1 < n) : idxV n (.int k 1) = some 1 := by simp [idxV]; omega
theorem idx2 {k : IntKind} {n : Nat} (h : 2 < n) : idxV n (.int k 2) = some 2 := by simp [idxV]; omega
def bt (l : List UInt8) (i : Nat) : Int := ((l.getD i 0).toNat : Nat)
theorem bt_at {l : List UInt8} {i : Nat} {b : UInt8} (h : l[i]? = some b) : bt l i = ((b.toNat : Nat) : Int) := by simp [bt, List.getD_eq_getElem?_getD, h]
theorem bt_no {l : List UInt8} {i : Nat} (h : l.length ≤ i) : bt l i = 0 := by simp [bt, List.getD_eq_getElem?_getD, List.getElem?_eq_none h]
def numR (l : List UInt8) : Int × Bool :=
  match bt l 0 == 39 with
  | true => match decide (l.length = 3) && (bt l 2 == 39) && decide (32 ≤ bt l 1) && decide (bt l 1 ≤ 126) with
    | true => (bt l 1, true)
    | false => (0, false)
  | false => match decide (1 < l.length) && (bt l 0 == 48) && (bt l 1 == 120) with
    | true => wholeR 16 (l.drop 2)
    | false => wholeR 10 l
def numV (s : ByteArray) : Value := .tuple #[.int .i64 (numR (bs s)).1, .bool (numR (bs s)).2]
end Go.Idl
end

section
namespace Go.Idl
variable {T : Tbl}
def wordB (s : ByteArray) : Bool := wordsL.any fun w => decide (s = w)
theorem wordB_of {s : ByteArray} (h : s ∈ wordsL) : wordB s = true := List.any_eq_true.2 ⟨s, h, decide_eq_true rfl⟩
theorem wordB_no {s : ByteArray} (h : ∀ x ∈ wordsL, s ≠ x) : wordB s = false := by
  cases hb : wordB s with
  | false => rfl
  | true =>
    obtain ⟨x, hx, he⟩ := List.any_eq_true.1 hb
    exact absurd (of_decide_eq_true he) (h x hx)
def nameC (l : List UInt8) : Bool := match l with
  | [] => true
  | c :: r => isL c.toNat && r.all fun c => isL c.toNat || isD c.toNat
def nameB (s : ByteArray) : Bool := nameC (bs s) && decide (bs s ≠ []) && !wordB s
end Go.Idl
end

section
namespace Go.Idl
variable {T : Tbl}
def clsL : List Int := [0, 0, 0, 0, 0, 0, 0, 0, 0, 1, 1, 0, 0, 1, 0, 0, 0, 0, 0, 0, 0, 0, 0, 0, 0, 0, 0, 0, 0, 0, 0, 0, 1, 4, 0, 0, 0, 4, 4, 5, 4, 4, 4, 4, 4, 4, 4, 4, 3, 3, 3, 3, 3, 3, 3, 3, 3, 3, 0, 4, 4, 4, 4, 0, 0, 2, 2, 2, 2, 2, 2, 2, 2, 2, 2, 2, 2, 2, 2, 2, 2, 2, 2, 2, 2, 2, 2, 2, 2, 2, 2, 4, 0, 4, 4, 2, 0, 2, 2, 2, 2, 2, 2, 2, 2, 2, 2, 2, 2, 2, 2, 2, 2, 2, 2, 2, 2, 2, 2, 2, 2, 2, 2, 4, 4, 4, 4, 0, 0, 0, 0, 0, 0, 0, 0, 0, 0, 0, 0, 0, 0, 0, 0, 0, 0, 0, 0, 0, 0, 0, 0, 0, 0, 0, 0, 0, 0, 0, 0, 0, 0, 0, 0, 0, 0, 0, 0, 0, 0, 0, 0, 0, 0, 0, 0, 0, 0, 0, 0, 0, 0, 0, 0, 0, 0, 0, 0, 0, 0, 0, 0, 0, 0, 0, 0, 0, 0, 0, 0, 0, 0, 0, 0, 0, 0, 0, 0, 0, 0, 0, 0, 0, 0, 0, 0, 0, 0, 0, 0, 0, 0, 0, 0, 0, 0, 0, 0, 0, 0, 0, 0, 0, 0, 0, 0, 0, 0, 0, 0, 0, 0, 0, 0, 0, 0, 0, 0, 0, 0, 0, 0, 0, 0, 0, 0, 0]
def clsC : List Value := clsL.map fun n => Value.int .i64 n
def clsV : Value := .agg clsC.toArray
def clsI (c : Nat) : Int := clsL.getD c 0
theorem cls_facts : ((List.range 256).all fun c => decide (clsI c = 2) == isL c && (decide (clsI c = 3) == isD c)) = true := by kernel_rfl
theorem cls2 {c : Nat} (h : c < 256) : decide (clsI c = 2) = isL c := by
  have := List.all_eq_true.1 cls_facts c (List.mem_range.2 h)
  simp only [Bool.and_eq_true, beq_iff_eq] at this
  exact this.1
theorem cls3 {c : Nat} (h : c < 256) : decide (clsI c = 3) = isD c := by
  have := List.all_eq_true.1 cls_facts c (List.mem_range.2 h)
  simp only [Bool.and_eq_true, beq_iff_eq] at this
  exact this.2
theorem clsL_len : clsL.length = 256 := by kernel_rfl
theorem clsC_at {c : Nat} (h : c < 256) : clsC[c]? = some (.int .i64 (clsI c)) := by
  simp only [clsC, List.getElem?_map, clsI, List.getD_eq_getElem?_getD]
  rw [List.getElem?_eq_getElem (by rw [clsL_len]; exact h)]
  rfl
def scnC (s : ByteArray) (at' : Nat) : List Value := .string s :: .int .i64 at' :: clsC
def clsAt (s : ByteArray) (j : Nat) : Int := match (bs s)[j]? with
  | some c => clsI c.toNat
  | none => 0
theorem peek_ok (hT : T.fn 51 = some C51) {s : ByteArray} {a k b : Nat} {o : Bool} {z : Nat} {h : Heap} (hg : h.get b = some (.cells (scnC s a) o z)) (hs : a + k < 9223372036854775807) :
    Wk T (.fn 51) [ptr b 0, .int .i64 k] h (fun o h' => h' = h ∧ o = .ret (.int .i64 (clsAt s (a + k)))) := by
  refine Wk_fn hT (by simp [C51]) ?_
  simp only [C51]
  have hw : IntKind.i64.wrap ((a : Int) + (k : Int)) = ((a + k : Nat) : Int) := by rw [wrap64] <;> omega
  refine Wc_seq (Wc_ops (Wo_run (fun call => by simp only [go_sem, seval]; rfl) ?_))
  show Wc T _ _ _
  refine Wc_seq (Wc_seq (Wc_draw_calm (by decide) (Wo_run (fun call => by simp only [iops_nil, iops_op, iK_some, iop, ev, upd, dstUpd, binV, binI, ptr, Heap.cell, args0, scnC, hg, hw, List.getD_cons_zero, List.getD_cons_succ, List.getElem?_cons_zero, List.getElem?_cons_succ, reduceIte, Nat.reduceEqDiff, Nat.reduceAdd, Nat.zero_add, Option.map_some, ge_iff_le]; rfl) ⟨rfl, ?_⟩)))
  show Wc T _ _ _
  by_cases hlt : a + k < s.size
  case neg =>
    refine Wc_cond true (by simp [ev, upd]; omega) (fun _ => ?_) (fun e => by cases e)
    refine Wc_seq (Wc_ops (Wo_run (fun call => by simp only [go_sem, seval]; rfl) ?_))
    refine Wc_ret ⟨.inr rfl, rfl, [.int .i64 0], by simp only [resAll, resV, upd, dstUpd, reduceIte, Nat.reduceEqDiff], rfl, ?_⟩
    rw [clsAt, List.getElem?_eq_none (by rw [← bs_size]; omega)]; rfl
  refine Wc_cond false (by simp [ev, upd]; omega) (fun e => by cases e) (fun _ => Wc_skip ?_)
  obtain ⟨c, hc⟩ := bs_at hlt
  have hsc : s.data.toList[a + k]? = some c := hc
  have hc2 := u8_lt c
  have hi : idxV 256 (.int .u8 ((c.toNat : Nat) : Int)) = some c.toNat := by simp only [idxV, Int.toNat_natCast]; rw [if_pos (by omega)]
  have hcell : (scnC s a)[2 + c.toNat]? = some (.int .i64 (clsI c.toNat)) := by
    rw [scnC, show 2 + c.toNat = c.toNat + 1 + 1 by omega, List.getElem?_cons_succ, List.getElem?_cons_succ]; exact clsC_at (by omega)
  have hc0 : (scnC s a)[0]? = some (.string s) := rfl
  have hc1 : (scnC s a)[1]? = some (.int .i64 a) := rfl
  show Wc T _ _ _
  refine Wc_seq (Wc_draw_calm (by decide) (Wo_run (fun call => by simp only [iops_nil, iops_op, iK_some, iop, ev, upd, dstUpd, binV, binI, ptr, Heap.cell, args0, hg, hc0, hc1, hcell, hw, idx_ok hlt, hi, hsc, List.getD_cons_zero, List.getD_cons_succ, reduceIte, Nat.reduceEqDiff, Nat.reduceAdd, Nat.zero_add, Nat.mul_one, Option.map_some]; rfl) ⟨rfl, ?_⟩))
  refine Wc_ret ⟨.inr rfl, rfl, [.int .i64 (clsI c.toNat)], by simp only [resAll, resV, upd, dstUpd, reduceIte, Nat.reduceEqDiff], rfl, ?_⟩
  rw [clsAt, hc]; rfl
def runN : List UInt8 → Nat
  | [] => 0
  | c :: r => if isL c.toNat || isD c.toNat then runN r + 1 else 0
def isLD (s : ByteArray) (j : Nat) : Bool := decide (clsAt s j = 2) || decide (clsAt s j = 3)
theorem isLD_of {s : ByteArray} {j : Nat} {c : UInt8} (h : (bs s)[j]? = some c) : isLD s j = (isL c.toNat || isD c.toNat) := by
  have := u8_lt c
  rw [isLD, clsAt, h]
  simp only
  rw [cls2 (by omega), cls3 (by omega)]
theorem isLD_no {s : ByteArray} {j : Nat} (h : (bs s).length ≤ j) : isLD s j = false := by
  rw [isLD, clsAt, List.getElem?_eq_none h]; rfl
theorem runN_le : ∀ l : List UInt8, runN l ≤ l.length
  | [] => Nat.le_refl _
  | c :: r => by
    have := runN_le r
    simp only [runN, List.length_cons]
    split <;> omega
theorem runN_step {s : ByteArray} {j : Nat} : runN ((bs s).drop j) = if isLD s j then runN ((bs s).drop (j + 1)) + 1 else 0 := by
  by_cases hj : j < (bs s).length
  · have hc := List.getElem?_eq_getElem hj
    rw [isLD_of hc, List.drop_eq_getElem_cons hj]; rfl
  · rw [isLD_no (by omega), List.drop_of_length_le (by omega)]; rfl
theorem goes_ok (hT : T.fn 52 = some C52) (hp : T.fn 51 = some C51) {s : ByteArray} {a b : Nat} {o : Bool} {z : Nat} {h : Heap} (hg : h.get b = some (.cells (scnC s a) o z)) (ha : a ≤ s.size) (hs : s.size < 4611686018427387904) :
    Wk T (.fn 52) [ptr b 0] h (fun o h' => h' = h ∧ o = .ret (.int .i64 ((runN ((bs s).drop a) : Nat) : Int))) := by
  refine Wk_fn hT (by simp [C52]) ?_
  simp only [C52]
  refine Wc_seq (Wc_ops (Wo_run (fun call => by simp only [go_sem, seval]; rfl) ?_))
  show Wc T _ _ _
  refine Wc_seq (Wc_ops (Wo_run (fun call => by simp only [go_sem, seval]; rfl) ?_))
  show Wc T _ _ _
  refine Wc_seq (Wc_seq (Wc_ops (Wo_pre 2 (fun call => by simp only [go_sem, seval]; rfl) ?_)))
  refine Wo_call (Wk_pure (peek_ok (k := 0) hp hg (by omega)) ?_)
  refine (Wo_run (fun call => by simp only [go_sem, seval]; rfl) ?_)
  show Wc T _ _ _
  refine Wc_block (Wc_loopF (fun e h' d => d = some [] ∧ h' = h ∧ ∃ k : Nat, a + k ≤ s.size ∧ e 3 = .int .i64 k ∧ e 4 = .int .i64 (clsAt s (a + k)) ∧ runN ((bs s).drop a) = k + runN ((bs s).drop (a + k))) (fun e _ => match e 3 with | .int _ k => (s.size - k).toNat | _ => 0) ?_ ?_)
  · exact ⟨rfl, rfl, 0, ha, (by first | rfl | assumption), (by first | rfl | assumption), by rw [Nat.zero_add]; rfl⟩
  rintro e h' d ⟨rfl, hh, k, hk, h3, h4, hrun⟩ hfr
  rw [hh]
  have e0 : e 0 = ptr b 0 := ((hfr 0 (by decide)).trans (by first | rfl | assumption | (symm; assumption)))
  rw [C52L0]
  refine Wc_mid (fun s' => s'.d = some [] ∧ s'.h = h ∧ FrE [8, 9, 10, 11, 12, 13] e s'.e ∧ isLD s (a + k) = true) ?_ ?_
  · refine Wc_fr (Wc_seq ?_)
    have ex : isLD s (a + k) = false → ∀ e' : Env, e' 13 = .bool false → e' 3 = .int .i64 k → Wc T (.cond (.t 13) .skip (.exit 0)) ⟨e', h, some []⟩ (fun x s' => FrE (mods (.seq (.ops [⟨(some 8), .op (.mov (.t 4)), none⟩, ⟨(some 9), .op (.bin .eql (.t 8) (.c (.int .i64 2))), none⟩, ⟨(some 10), .op (.mov (.t 9)), none⟩, ⟨(some 11), .op (.mov (.t 4)), (some (10, false))⟩, ⟨(some 12), .op (.bin .eql (.t 11) (.c (.int .i64 3))), (some (10, false))⟩, ⟨(some 13), .op (.pick (.t 10) (.c (.bool true)) (.t 12)), none⟩]) (.cond (.t 13) .skip (.exit 0)))) e s'.e → match x with
        | .normal => s'.d = some [] ∧ s'.h = h ∧ FrE [8, 9, 10, 11, 12, 13] e s'.e ∧ isLD s (a + k) = true
        | x => (match x with
          | .normal => (s'.d = some [] ∧ s'.h = h ∧ ∃ k : Nat, a + k ≤ s.size ∧ s'.e 3 = .int .i64 k ∧ s'.e 4 = .int .i64 (clsAt s (a + k)) ∧ runN ((bs s).drop a) = k + runN ((bs s).drop (a + k))) ∧ (match s'.e 3 with | .int _ k => (s.size - k).toNat | _ => 0) < (match e 3 with | .int _ k => (s.size - k).toNat | _ => 0)
          | x => Tb 0 (Tn T (.seq (.ops [⟨(some 19), .op (.mov (.t 3)), none⟩, ⟨(some 2), .op (.mov (.t 19)), none⟩]) .ret) fun x s_1 => (x = .normal ∨ x = .ret) ∧ s_1.d = some [] ∧ ∃ vs, resAll s_1.e s_1.h [.tmp 2] = some vs ∧ s_1.h = h ∧ Out.ret (tup vs) = .ret (.int .i64 ((runN ((bs s).drop a) : Nat) : Int))) x s')) := by
      intro hno e' h13 h3'
      refine Wc_cond false h13 (fun e => by cases e) (fun _ => Wc_exit fun _ => ?_)
      show Wc T _ _ _
      refine Wc_seq (Wc_ops (Wo_run (fun call => by simp only [go_sem, seval, h3']; rfl) ?_))
      refine Wc_ret ⟨.inr rfl, rfl, [.int .i64 k], by simp only [resAll, resV, upd, dstUpd, reduceIte, Nat.reduceEqDiff], rfl, ?_⟩
      rw [hrun, runN_step (j := a + k), hno]; rfl
    cases y2 : (clsAt s (a + k) == 2)
    · cases y3 : (clsAt s (a + k) == 3)
      · refine Wc_ops (Wo_run (fun call => by simp only [go_sem, seval, h4, y2, y3]; rfl) ?_)
        exact ex (by rw [isLD, ← Bool.beq_eq_decide_eq, ← Bool.beq_eq_decide_eq, y2, y3]; rfl) _ (by first | rfl | assumption) (by simp only [go_sem, seval, h3] <;> first | rfl | assumption | (symm; assumption))
      · refine Wc_ops (Wo_run (fun call => by simp only [go_sem, seval, h4, y2, y3]; rfl) ?_)
        refine Wc_cond true (by first | rfl | assumption) (fun _ => Wc_skip fun hf => ⟨rfl, rfl, hf, ?_⟩) (fun e => by cases e)
        rw [isLD, decide_eq_true (beq_iff_eq.1 y3), Bool.or_true]
    · refine Wc_ops (Wo_run (fun call => by simp only [go_sem, seval, h4, y2]; rfl) ?_)
      refine Wc_cond true (by first | rfl | assumption) (fun _ => Wc_skip fun hf => ⟨rfl, rfl, hf, ?_⟩) (fun e => by cases e)
      rw [isLD, decide_eq_true (beq_iff_eq.1 y2), Bool.true_or]
  rintro ⟨e', h'', d'⟩ ⟨hd', hh', hf, hy⟩
  simp only at hd' hh' hf
  rw [hd', hh']
  have g3 : e' 3 = .int .i64 k := by rw [hf 3 (by decide)]; exact h3
  have g0 : e' 0 = ptr b 0 := by rw [hf 0 (by decide)]; exact e0
  have hlt : a + k < (bs s).length := by
    rcases Nat.lt_or_ge (a + k) (bs s).length with h | h
    · exact h
    · rw [isLD_no h] at hy; cases hy
  rw [← bs_size] at hlt
  have e1 : IntKind.i64.wrap ((k : Int) + 1) = ((k + 1 : Nat) : Int) := by rw [wrap64] <;> omega
  refine Wc_seq (Wc_block (Wc_ops (Wo_run (fun call => by simp only [go_sem, seval, g3, e1]; rfl) ?_)))
  show Wc T _ _ _
  refine Wc_ops (Wo_pre 2 (fun call => by simp only [go_sem, seval, g0]; rfl) ?_)
  refine Wo_call (Wk_pure (peek_ok (k := k + 1) hp hg (by omega)) ?_)
  refine (Wo_run (fun call => by simp only [go_sem, seval]; rfl) ?_)
  refine ⟨⟨rfl, rfl, k + 1, by omega, (by first | rfl | assumption), (by first | rfl | assumption), ?_⟩, ?_⟩
  · rw [hrun, runN_step (j := a + k), hy, if_pos rfl]; rw [show a + (k + 1) = a + k + 1 by omega]; omega
  · simp only [upd, dstUpd, reduceIte, Nat.reduceEqDiff, h3]
    exact (Int.toNat_lt_toNat (by omega)).2 (by omega)
end Go.Idl
end

section
namespace Go.Idl
variable {T : Tbl}
theorem reserved_ok (hT : T.fn 62 = some C62) {h : Heap} : Wk T (.fn 62) [] h (fun o h' => Kept h h' ∧ o = .ret (.agg (wordsL.map Value.string).toArray)) := by
  refine Wk_fn hT (by simp [C62]) ?_
  simp only [C62]
  refine Wc_seq (Wc_ops (Wo_op (by rfl) (Wo_nil ?_)))
  show Wc T _ _ _
  refine Wc_seq (Wc_ops (Wo_op (v := .agg (wordsL.map Value.string).toArray) (h' := h.new (.cells (List.replicate 19 (.string ⟨#[]⟩)) true 0)) (by kernel_rfl) ?_))
  refine Wo_store_new (cs := wordsL.map Value.string) (h := h) (by first | rfl | assumption) (by first | rfl | assumption) rfl rfl fun h1 n1 => Wo_nil ?_
  show Wc T _ _ _
  refine Wc_ret ⟨.inr rfl, rfl, [.agg (wordsL.map Value.string).toArray], ?_, n1.kept, rfl⟩
  have hc : h1.cells h.next 0 19 = some (wordsL.map Value.string) := cells_all n1.get rfl
  simp only [resAll, resV, upd, dstUpd, reduceIte, Nat.reduceEqDiff, ptr, hc, Option.map_some]
theorem wordS_ok (hT : T.fn 53 = some C53) (hr : T.fn 62 = some C62) {s : ByteArray} {h : Heap} : Wk T (.fn 53) [.string s] h (fun o h' => Kept h h' ∧ o = .ret (.bool (wordB s))) := by
  refine Wk_fn hT (by simp [C53]) ?_
  simp only [C53]
  refine Wc_seq (Wc_ops (Wo_run (fun call => by simp only [go_sem, seval]; rfl) ?_))
  show Wc T _ _ _
  refine Wc_seq (Wc_seq (Wc_ops (Wo_call (Wk_kept (reserved_ok hr) fun h1 k1 => ?_))))
  generalize hA : (wordsL.map Value.string).toArray = A
  refine (Wo_run (fun call => by simp only [go_sem, seval]; rfl) ?_)
  show Wc T _ _ _
  refine Wc_rangeG (n := .c (.int .i64 19)) 19 (fun j e h' d => d = some [] ∧ h' = h1 ∧ ∀ i, i < j → ∀ x, wordsL[i]? = some x → s ≠ x) (by decide) (by first | rfl | assumption) (fun _ _ => rfl) (by decide) (by decide) ⟨rfl, rfl, fun i hi => by omega⟩ ?_ ?_
  · rintro j e h' d hj ⟨rfl, hh, hne⟩ hfr h6
    rw [hh]
    obtain ⟨x, hx⟩ : ∃ x, wordsL[j]? = some x := ⟨_, List.getElem?_eq_getElem (by rw [show wordsL.length = 19 from rfl]; exact hj)⟩
    have e5 : e 5 = .agg A := ((hfr 5 (by decide)).trans (by first | rfl | assumption | (symm; assumption)))
    have e0 : e 0 = .string s := ((hfr 0 (by decide)).trans (by first | rfl | assumption | (symm; assumption)))
    have hcell : A.toList[j * 1]? = some (.string x) := by rw [← hA, Nat.mul_one]; simp only [List.toList_toArray, List.getElem?_map, hx, Option.map_some]
    refine Wc_seq (Wc_ops (Wo_run (fun call => by simp only [go_sem, seval, h6, e5, idx_ok hj, hcell]; rfl) ?_))
    show Wc T _ _ _
    refine Wc_seq (Wc_ops (Wo_run (fun call => by simp only [go_sem, seval, e0]; rfl) ?_))
    show Wc T _ _ _
    refine Wc_cond (decide (x = s)) (by first | rfl | assumption) (fun hd => ?_) (fun hd => Wc_skip ?_)
    · have hsx : x = s := by simpa using hd
      refine Wc_seq (Wc_ops (Wo_run (fun call => by simp only [go_sem, seval]; rfl) ?_))
      exact Wc_ret ⟨.inr rfl, rfl, [.bool true], by simp only [resAll, resV, upd, dstUpd, reduceIte, Nat.reduceEqDiff], k1, by rw [wordB_of (by rw [← hsx]; exact List.mem_of_getElem? hx)]; rfl⟩
    · refine ⟨rfl, rfl, fun i hi y hy => ?_⟩
      rcases Nat.lt_or_eq_of_le (Nat.le_of_lt_succ hi) with h1 | h1
      · exact hne i h1 y hy
      · subst h1; rw [hx] at hy; cases hy; exact fun e => by rw [e] at hd; simp at hd
  · rintro e h' d ⟨rfl, hh, hne⟩ hfr h6
    rw [hh]
    show Wc T _ _ _
    refine Wc_seq (Wc_ops (Wo_run (fun call => by simp only [go_sem, seval]; rfl) ?_))
    refine Wc_ret ⟨.inr rfl, rfl, [.bool false], by simp only [resAll, resV, upd, dstUpd, reduceIte, Nat.reduceEqDiff], k1, ?_⟩
    have : wordB s = false := wordB_no fun x hm => by
      obtain ⟨i, hi⟩ := List.getElem?_of_mem hm
      exact hne i (List.getElem?_eq_some_iff.1 hi).1 x hi
    rw [this]; rfl
theorem runN_all : ∀ {l : List UInt8}, (runN l = l.length ↔ ∀ c ∈ l, (isL c.toNat || isD c.toNat) = true)
  | [] => by simp [runN]
  | c :: r => by
    have ih := runN_all (l := r)
    have hle := runN_le r
    simp only [runN, List.length_cons, List.forall_mem_cons]
    split
    · rename_i hc
      constructor
      · intro h; exact ⟨hc, ih.1 (by omega)⟩
      · intro h; have := ih.2 h.2; omega
    · rename_i hc
      constructor
      · intro h; omega
      · intro h; exact absurd h.1 hc
theorem name_eq {l : List UInt8} {c : UInt8} (h0 : l[0]? = some c) : (isL c.toNat && decide (runN l = l.length)) = (nameC l && decide (l ≠ [])) := by
  cases l with
  | nil => simp at h0
  | cons x r =>
    simp at h0
    subst h0
    rw [decide_eq_true (List.cons_ne_nil x r), Bool.and_true, nameC]
    cases hL : isL x.toNat with
    | false => rfl
    | true =>
      rw [Bool.true_and, Bool.true_and]
      cases ha : (r.all fun c => isL c.toNat || isD c.toNat) with
      | true =>
        refine decide_eq_true (runN_all.2 fun c hc => ?_)
        rcases List.mem_cons.1 hc with rfl | hc
        · rw [hL]; rfl
        · exact List.all_eq_true.1 ha c hc
      | false =>
        refine decide_eq_false fun h => ?_
        have := runN_all.1 h
        rw [List.all_eq_true.2 fun c hc => this c (List.mem_cons_of_mem _ hc)] at ha
        cases ha
theorem build_scn (s : ByteArray) : fillL (.string ⟨#[]⟩ :: List.replicate 257 (.int .i64 0)) [(0, 1, .string s), (2, 256, clsV)] = some (scnC s 0) := by kernel_rfl
theorem nameS_ok (hT : T.fn 38 = some C38) (hc : ∀ (h : Heap) (K : Out → Heap → Prop), K (.ret clsV) h → Wk T (.fn 30) [] h K) (hp : T.fn 51 = some C51) (hg : T.fn 52 = some C52) (hw : T.fn 53 = some C53) (hr : T.fn 62 = some C62)
    {s : ByteArray} {h : Heap} (hs : s.size < 4611686018427387904) : Wk T (.fn 38) [.string s] h (fun o h' => Kept h h' ∧ o = .ret (.bool (nameB s))) := by
  refine Wk_fn hT (by simp [C38]) ?_
  simp only [C38]
  refine Wc_seq (Wc_ops (Wo_run (fun call => by simp only [go_sem, seval]; rfl) ?_))
  show Wc T _ _ _
  refine Wc_seq (Wc_ops (Wo_pre 1 (fun call => by simp only [go_sem, seval]; rfl) ?_))
  refine Wo_call (hc _ _ ?_)
  show Wo T _ _ _
  refine Wo_op (v := .agg (scnC s 0).toArray) (h' := h) ?_ ?_
  · have := build_scn s
    simp only [iop, evps, List.map_cons, List.map_nil, ev, upd, dstUpd, args0, List.getD_cons_zero, reduceIte, Nat.reduceEqDiff]
    exact congrArg (Option.map fun cs : List Value => (Value.agg cs.toArray, h)) this
  generalize hA : (scnC s 0).toArray = A
  refine Wo_box (cs := scnC s 0) (by simp only [upd, dstUpd, reduceIte, Nat.reduceEqDiff, ev, cellsOf]; rw [← hA]) fun h1 n1 => ?_
  refine (Wo_run (fun call => by simp only [go_sem, seval]; rfl) ?_)
  show Wc T _ _ _
  refine Wc_seq (Wc_ops (Wo_pre 1 (fun call => by simp only [go_sem, seval]; rfl) ?_))
  refine Wo_call (Wk_pure (peek_ok (k := 0) (a := 0) hp n1.get (by decide)) ?_)
  have yes : ∀ (e : Env) (h2 : Heap) (b : Bool), Kept h1 h2 → e 2 = .bool b → nameB s = b → (Ex.ret = .normal ∨ Ex.ret = .ret) ∧ some ([] : List Dfr) = some [] ∧ ∃ vs, resAll e h2 [.tmp 2] = some vs ∧ Kept h h2 ∧ Out.ret (tup vs) = .ret (.bool (nameB s)) := fun e h2 b hk he hb =>
    ⟨.inr rfl, rfl, [.bool b], by simp only [resAll, resV, he], n1.kept.trans hk, by rw [hb]; rfl⟩
  by_cases h0 : 0 < s.size
  case neg =>
    have hz : clsAt s (0 + 0) = 0 := by rw [clsAt, List.getElem?_eq_none (by rw [← bs_size]; omega)]
    refine (Wo_run (fun call => by simp only [go_sem, seval, hz]; rfl) ?_)
    refine Wc_ret (yes _ _ false (.refl _) (by first | rfl | assumption) ?_)
    have hn : bs s = [] := List.eq_nil_of_length_eq_zero (by rw [← bs_size]; omega)
    simp only [nameB, hn, ne_eq, not_true_eq_false, decide_false, Bool.and_false, Bool.false_and]
  obtain ⟨c, hc0⟩ := bs_at h0
  have hc2 := u8_lt c
  have hcl : clsAt s (0 + 0) = clsI c.toNat := by rw [clsAt, hc0]
  have hne := name_eq hc0
  have hL := cls2 (c := c.toNat) (by omega)
  cases y : (clsI c.toNat == 2)
  · refine (Wo_run (fun call => by simp only [go_sem, seval, hcl, y]; rfl) ?_)
    refine Wc_ret (yes _ _ false (.refl _) (by first | rfl | assumption) ?_)
    have : isL c.toNat = false := by rw [← hL, ← Bool.beq_eq_decide_eq, y]
    rw [this, Bool.false_and] at hne
    rw [nameB, ← hne, Bool.false_and]
  have hLt : isL c.toNat = true := by rw [← hL, ← Bool.beq_eq_decide_eq, y]
  rw [hLt, Bool.true_and] at hne
  refine (Wo_pre 3 (fun call => by simp only [go_sem, seval, hcl, y]; rfl) ?_)
  refine Wo_take (by simp only [upd, dstUpd, reduceIte, Nat.reduceEqDiff, gval_bool]; rfl) (Wo_call (Wk_pure (goes_ok (a := 0) hg hp n1.get (Nat.zero_le _) hs) ?_))
  rw [List.drop_zero]
  cases y2 : (((runN (bs s) : Nat) : Int) == ((s.size : Nat) : Int))
  · refine (Wo_run (fun call => by simp only [go_sem, seval, y2]; rfl) ?_)
    refine Wc_ret (yes _ _ false (.refl _) (by first | rfl | assumption) ?_)
    have : ¬ runN (bs s) = (bs s).length := fun e => by rw [e, ← bs_size, beq_self_eq_true] at y2; cases y2
    rw [decide_eq_false this] at hne
    rw [nameB, ← hne, Bool.false_and]
  refine (Wo_pre 6 (fun call => by simp only [go_sem, seval, y2]; rfl) ?_)
  refine Wo_take (by simp only [upd, dstUpd, reduceIte, Nat.reduceEqDiff, gval_bool]; rfl) (Wo_call (Wk_kept (wordS_ok hw hr) fun h2 k2 => ?_))
  refine (Wo_run (fun call => by simp only [go_sem, seval]; rfl) ?_)
  refine Wc_ret (yes _ _ (!wordB s) k2 (by first | rfl | assumption) ?_)
  have : runN (bs s) = (bs s).length := by have := beq_iff_eq.1 y2; rw [← bs_size]; omega
  rw [decide_eq_true this] at hne
  rw [nameB, ← hne, Bool.true_and]
end Go.Idl
end

section
namespace Go.Idl
variable {T : Tbl}
theorem worth_ok (hT : T.fn 58 = some C58) {c base : Int} {h : Heap} (h0 : 0 ≤ c) (h1 : c ≤ 255) : Wk T (.fn 58) [.int .u8 c, .int .u64 base] h (fun o h' => h' = h ∧ o = .ret (.tuple #[.int .u64 (figI 255 c), .bool (decide (figI 255 c < base))])) := by
  refine Wk_fn hT (by simp [C58]) ?_
  simp only [C58]
  refine Wc_seq (Wc_ops (Wo_run (fun call => by simp only [go_sem, seval]; rfl) ?_))
  show Wc T _ _ _
  refine Wc_seq (Wc_ops (Wo_run (fun call => by simp only [go_sem, seval]; rfl) ?_))
  show Wc T _ _ _
  refine Wc_mid (fun s' => s'.d = some [] ∧ s'.h = h ∧ s'.e 6 = .int .u64 (figI 255 c) ∧ s'.e 1 = .int .u64 base) (Wc_block ?_) ?_
  · refine Wc_mid (fun s' => s'.d = some [] ∧ s'.h = h ∧ s'.e 6 = .int .u64 255 ∧ s'.e 1 = .int .u64 base ∧ s'.e 0 = .int .u8 c ∧ s'.e 7 = .bool (decide (48 ≤ c ∧ c ≤ 57))) ?_ ?_
    · by_cases x1 : (48 : Int) ≤ c <;> by_cases x2 : c ≤ 57 <;> first
        | (exfalso; omega)
        | (refine Wc_ops (Wo_run (fun call => by simp only [go_sem, seval, x1, x2]; rfl) ?_); exact ⟨rfl, rfl, (by first | rfl | assumption), (by first | rfl | assumption), (by first | rfl | assumption), (by simp only [go_sem, seval, x1, x2, and_self, and_true, and_false, decide_true, decide_false] <;> first | rfl | assumption | (symm; assumption))⟩)
    rintro ⟨e, h', d⟩ ⟨hd, hh, e6, e1, e0, e7⟩
    simp only at hd hh e6 e1 e0 e7
    rw [hd, hh]
    refine Wc_cond _ e7 (fun x => ?_) (fun x => ?_)
    · have d1 : (48 : Int) ≤ c ∧ c ≤ 57 := by simpa using x
      refine Wc_ops (Wo_run (fun call => by simp only [go_sem, seval, e0, wrapU8 (show (0 : Int) ≤ c - 48 by omega) (show c - 48 ≤ 255 by omega), wrapU64 (show (0 : Int) ≤ c - 48 by omega) (show c - 48 ≤ 18446744073709551615 by omega)]; rfl) ?_)
      exact ⟨rfl, rfl, by simp only [upd, dstUpd, reduceIte, Nat.reduceEqDiff, figI, if_pos d1], (by simp only [go_sem, seval, e1] <;> first | rfl | assumption | (symm; assumption))⟩
    have d1 : ¬ ((48 : Int) ≤ c ∧ c ≤ 57) := by simpa using x
    refine Wc_mid (fun s' => s'.d = some [] ∧ s'.h = h ∧ s'.e 6 = .int .u64 255 ∧ s'.e 1 = .int .u64 base ∧ s'.e 0 = .int .u8 c ∧ s'.e 17 = .bool (decide (97 ≤ c ∧ c ≤ 102))) ?_ ?_
    · by_cases x1 : (97 : Int) ≤ c <;> by_cases x2 : c ≤ 102 <;> first
        | (exfalso; omega)
        | (refine Wc_ops (Wo_run (fun call => by simp only [go_sem, seval, e0, x1, x2]; rfl) ?_); exact ⟨rfl, rfl, (by simp only [go_sem, seval, e6] <;> first | rfl | assumption | (symm; assumption)), (by simp only [go_sem, seval, e1] <;> first | rfl | assumption | (symm; assumption)), (by simp only [go_sem, seval, e0] <;> first | rfl | assumption | (symm; assumption)), (by simp only [go_sem, seval, x1, x2, and_self, and_true, and_false, decide_true, decide_false] <;> first | rfl | assumption | (symm; assumption))⟩)
    rintro ⟨e, h', d⟩ ⟨hd, hh, e6, e1, e0, e17⟩
    simp only at hd hh e6 e1 e0 e17
    rw [hd, hh]
    refine Wc_cond _ e17 (fun x => ?_) (fun x => ?_)
    · have d2 : (97 : Int) ≤ c ∧ c ≤ 102 := by simpa using x
      refine Wc_ops (Wo_run (fun call => by simp only [go_sem, seval, e0, wrapU8 (show (0 : Int) ≤ c - 97 by omega) (show c - 97 ≤ 255 by omega), wrapU64 (show (0 : Int) ≤ c - 97 by omega) (show c - 97 ≤ 18446744073709551615 by omega), wrapU64 (show (0 : Int) ≤ c - 97 + 10 by omega) (show c - 97 + 10 ≤ 18446744073709551615 by omega)]; rfl) ?_)
      exact ⟨rfl, rfl, by simp only [upd, dstUpd, reduceIte, Nat.reduceEqDiff, figI, if_neg d1, if_pos d2]; congr 1; omega, (by simp only [go_sem, seval, e1] <;> first | rfl | assumption | (symm; assumption))⟩
    have d2 : ¬ ((97 : Int) ≤ c ∧ c ≤ 102) := by simpa using x
    refine Wc_mid (fun s' => s'.d = some [] ∧ s'.h = h ∧ s'.e 6 = .int .u64 255 ∧ s'.e 1 = .int .u64 base ∧ s'.e 0 = .int .u8 c ∧ s'.e 28 = .bool (decide (65 ≤ c ∧ c ≤ 70))) ?_ ?_
    · by_cases x1 : (65 : Int) ≤ c <;> by_cases x2 : c ≤ 70 <;> first
        | (exfalso; omega)
        | (refine Wc_ops (Wo_run (fun call => by simp only [go_sem, seval, e0, x1, x2]; rfl) ?_); exact ⟨rfl, rfl, (by simp only [go_sem, seval, e6] <;> first | rfl | assumption | (symm; assumption)), (by simp only [go_sem, seval, e1] <;> first | rfl | assumption | (symm; assumption)), (by simp only [go_sem, seval, e0] <;> first | rfl | assumption | (symm; assumption)), (by simp only [go_sem, seval, x1, x2, and_self, and_true, and_false, decide_true, decide_false] <;> first | rfl | assumption | (symm; assumption))⟩)
    rintro ⟨e, h', d⟩ ⟨hd, hh, e6, e1, e0, e28⟩
    simp only at hd hh e6 e1 e0 e28
    rw [hd, hh]
    refine Wc_cond _ e28 (fun x => ?_) (fun x => Wc_skip ?_)
    · have d3 : (65 : Int) ≤ c ∧ c ≤ 70 := by simpa using x
      refine Wc_ops (Wo_run (fun call => by simp only [go_sem, seval, e0, wrapU8 (show (0 : Int) ≤ c - 65 by omega) (show c - 65 ≤ 255 by omega), wrapU64 (show (0 : Int) ≤ c - 65 by omega) (show c - 65 ≤ 18446744073709551615 by omega), wrapU64 (show (0 : Int) ≤ c - 65 + 10 by omega) (show c - 65 + 10 ≤ 18446744073709551615 by omega)]; rfl) ?_)
      exact ⟨rfl, rfl, by simp only [upd, dstUpd, reduceIte, Nat.reduceEqDiff, figI, if_neg d1, if_neg d2, if_pos d3]; congr 1; omega, (by simp only [go_sem, seval, e1] <;> first | rfl | assumption | (symm; assumption))⟩
    have d3 : ¬ ((65 : Int) ≤ c ∧ c ≤ 70) := by simpa using x
    exact ⟨rfl, rfl, by show e 6 = _; rw [e6, figI, if_neg d1, if_neg d2, if_neg d3], e1⟩
  rintro ⟨e, h', d⟩ ⟨hd, hh, e6, e1⟩
  simp only at hd hh e6 e1
  rw [hd, hh]
  refine Wc_seq (Wc_ops (Wo_run (fun call => by simp only [go_sem, seval, e6, e1]; rfl) ?_))
  exact Wc_ret ⟨.inr rfl, rfl, [.int .u64 (figI 255 c), .bool (decide (figI 255 c < base))], by simp only [resAll, resV, upd, dstUpd, reduceIte, Nat.reduceEqDiff], rfl, rfl⟩
theorem whole_quote {l : List UInt8} {base : Int} (hb : base ≤ 16) (h : bt l 0 = 39) : wholeR base l = (0, false) := by
  cases l with
  | nil => simp [bt] at h
  | cons c r =>
    have hc : ((c.toNat : Nat) : Int) = 39 := by simpa [bt] using h
    have hf : figI 255 ((c.toNat : Nat) : Int) = 255 := by rw [hc]; rfl
    rw [wholeR, wholeF, hf, if_pos (by omega)]
theorem whole_x {l : List UInt8} (h0 : bt l 0 = 48) (h1 : bt l 1 = 120) (h2 : l.length = 2) : wholeR 10 l = (0, false) := by
  match l, h2 with
  | [a, b], _ =>
    have ha : ((a.toNat : Nat) : Int) = 48 := by simpa [bt] using h0
    have hb : ((b.toNat : Nat) : Int) = 120 := by simpa [bt] using h1
    have fa : figI 255 ((a.toNat : Nat) : Int) = 0 := by rw [ha]; rfl
    have fb : figI 255 ((b.toNat : Nat) : Int) = 255 := by rw [hb]; rfl
    simp only [wholeR, wholeF, fa, fb]
    rfl
def hexP (l : List UInt8) : Bool := decide (2 < l.length) && (bt l 0 == 48) && (bt l 1 == 120)
def quoP (l : List UInt8) : Bool := decide (l.length = 3) && (bt l 0 == 39) && (bt l 2 == 39) && decide (32 ≤ bt l 1) && decide (bt l 1 ≤ 126)
theorem numR_eq (l : List UInt8) : numR l = match quoP l with
    | true => (bt l 1, true)
    | false => match hexP l with
      | true => wholeR 16 (l.drop 2)
      | false => wholeR 10 l := by
  cases h0 : bt l 0 == 39 with
  | true =>
    have hq : quoP l = (decide (l.length = 3) && (bt l 2 == 39) && decide (32 ≤ bt l 1) && decide (bt l 1 ≤ 126)) := by rw [quoP, h0, Bool.and_true]
    rw [hq]
    cases hx : (decide (l.length = 3) && (bt l 2 == 39) && decide (32 ≤ bt l 1) && decide (bt l 1 ≤ 126)) with
    | true => simp only [numR, h0, hx]
    | false =>
      simp only [numR, h0, hx]
      have h39 := beq_iff_eq.1 h0
      have : hexP l = false := by rw [hexP, show (bt l 0 == 48) = false by rw [h39]; rfl, Bool.and_false]; rfl
      rw [this]
      exact (whole_quote (by decide) h39).symm
  | false =>
    have hq : quoP l = false := by rw [quoP, h0, Bool.and_false]; rfl
    rw [hq]
    simp only [numR, h0]
    cases hx : hexP l with
    | true =>
      simp only [hexP, Bool.and_eq_true, decide_eq_true_eq] at hx
      have : (decide (1 < l.length) && (bt l 0 == 48) && (bt l 1 == 120)) = true := by rw [decide_eq_true (by omega), hx.1.2, hx.2]; rfl
      rw [this]
    | false =>
      cases hy : (decide (1 < l.length) && (bt l 0 == 48) && (bt l 1 == 120)) with
      | false => rfl
      | true =>
        simp only [Bool.and_eq_true, decide_eq_true_eq] at hy
        have h2 : l.length = 2 := by
          rcases Nat.lt_or_ge 2 l.length with h | h
          · rw [hexP, decide_eq_true h, hy.1.2, hy.2] at hx; cases hx
          · omega
        have h20 := List.drop_of_length_le (l := l) (i := 2) (by omega)
        simp only [h20]
        rw [whole_x (beq_iff_eq.1 hy.1.2) (beq_iff_eq.1 hy.2) h2]; rfl
theorem numberS_ok (hT : T.fn 39 = some C39) (hw : T.fn 58 = some C58) {s : ByteArray} {h : Heap} (hs : s.size < 9223372036854775807) :
    Wk T (.fn 39) [.string s] h (fun o h' => h' = h ∧ o = .ret (numV s)) := by
  refine Wk_fn hT (by simp [C39]) ?_
  simp only [C39]
  have fin : ∀ (e : Env) (n : Int) (b : Bool), e 2 = .int .i64 n → e 3 = .bool b → numR (bs s) = (n, b) → (Ex.ret = .normal ∨ Ex.ret = .ret) ∧ some ([] : List Dfr) = some [] ∧ ∃ vs, resAll e h [.tmp 2, .tmp 3] = some vs ∧ h = h ∧ Out.ret (tup vs) = .ret (numV s) := fun e n b h2 h3 hn =>
    ⟨.inr rfl, rfl, [.int .i64 n, .bool b], by simp only [resAll, resV, h2, h3], rfl, by rw [numV, hn]; rfl⟩
  refine Wc_seq (Wc_ops (Wo_run (fun call => by simp only [go_sem, seval]; rfl) ?_))
  show Wc T _ _ _
  have hlen : (bs s).length = s.size := (bs_size s).symm
  have hnum := numR_eq (bs s)
  refine Wc_mid (fun s' => s'.d = some [] ∧ s'.h = h ∧ s'.e 0 = .string s ∧ quoP (bs s) = false) ?_ ?_
  · refine Wc_mid (fun s' => s'.d = some [] ∧ s'.h = h ∧ s'.e 0 = .string s ∧ s'.e 31 = .bool (quoP (bs s))) ?_ ?_
    · cases y : (((s.size : Nat) : Int) == 3)
      · refine Wc_ops (Wo_run (fun call => by simp only [go_sem, seval, y]; rfl) ?_)
        have : ¬ (bs s).length = 3 := by rw [hlen]; intro e; rw [e] at y; cases y
        exact ⟨rfl, rfl, (by first | rfl | assumption), by simp only [upd, dstUpd, reduceIte, Nat.reduceEqDiff]; rw [quoP, decide_eq_false this]; rfl⟩
      have h3 : s.size = 3 := by have := beq_iff_eq.1 y; omega
      obtain ⟨c0, hc0⟩ := bs_at (s := s) (j := 0) (by omega)
      obtain ⟨c1, hc1⟩ := bs_at (s := s) (j := 1) (by omega)
      obtain ⟨c2, hc2⟩ := bs_at (s := s) (j := 2) (by omega)
      have s0 : s.data.toList[0]? = some c0 := hc0
      have s1 : s.data.toList[1]? = some c1 := hc1
      have s2 : s.data.toList[2]? = some c2 := hc2
      have i0 := idx0 (k := .i64) (show 0 < s.size by omega)
      have i1 := idx1 (k := .i64) (show 1 < s.size by omega)
      have i2 := idx2 (k := .i64) (show 2 < s.size by omega)
      have hq : quoP (bs s) = ((((c0.toNat : Nat) : Int) == 39) && (((c2.toNat : Nat) : Int) == 39) && decide ((32 : Int) ≤ ((c1.toNat : Nat) : Int)) && decide (((c1.toNat : Nat) : Int) ≤ 126)) := by
        rw [quoP, bt_at hc0, bt_at hc1, bt_at hc2, hlen, decide_eq_true h3, Bool.true_and]
      cases y0 : (((c0.toNat : Nat) : Int) == 39)
      · refine Wc_ops (Wo_run (fun call => by simp only [go_sem, seval, y, i0, s0, y0]; rfl) ?_)
        exact ⟨rfl, rfl, (by first | rfl | assumption), by simp only [upd, dstUpd, reduceIte, Nat.reduceEqDiff, hq, y0, Bool.false_and]⟩
      cases y2 : (((c2.toNat : Nat) : Int) == 39)
      · refine Wc_ops (Wo_run (fun call => by simp only [go_sem, seval, y, i0, i2, s0, s2, y0, y2]; rfl) ?_)
        exact ⟨rfl, rfl, (by first | rfl | assumption), by simp only [upd, dstUpd, reduceIte, Nat.reduceEqDiff, hq, y0, y2, Bool.and_false, Bool.false_and]⟩
      cases y3 : decide ((32 : Int) ≤ ((c1.toNat : Nat) : Int))
      · have y3' := of_decide_eq_false y3
        refine Wc_ops (Wo_run (fun call => by simp only [go_sem, seval, y, i0, i1, i2, s0, s1, s2, y0, y2, y3']; rfl) ?_)
        exact ⟨rfl, rfl, (by first | rfl | assumption), by simp only [upd, dstUpd, reduceIte, Nat.reduceEqDiff, hq, y0, y2, y3, Bool.and_false, Bool.false_and]⟩
      have y3' := of_decide_eq_true y3
      refine Wc_ops (Wo_run (fun call => by simp only [go_sem, seval, y, i0, i1, i2, s0, s1, s2, y0, y2, y3']; rfl) ?_)
      exact ⟨rfl, rfl, (by first | rfl | assumption), by simp only [upd, dstUpd, reduceIte, Nat.reduceEqDiff, hq, y0, y2, y3, Bool.true_and]⟩
    rintro ⟨e, h', d⟩ ⟨hd, hh, e0, e31⟩
    simp only at hd hh e0 e31
    rw [hd, hh]
    refine Wc_cond _ e31 (fun x => ?_) (fun x => Wc_skip ⟨rfl, rfl, e0, x⟩)
    have h3 : s.size = 3 := by
      simp only [quoP, Bool.and_eq_true, decide_eq_true_eq] at x
      rw [← hlen]; exact x.1.1.1.1
    obtain ⟨c1, hc1⟩ := bs_at (s := s) (j := 1) (by omega)
    have s1 : s.data.toList[1]? = some c1 := hc1
    have hw1 : IntKind.i64.wrap ((c1.toNat : Nat) : Int) = ((c1.toNat : Nat) : Int) := by have := u8_lt c1; exact wrap64 (by omega) (by omega)
    refine Wc_seq (Wc_ops (Wo_run (fun call => by simp only [go_sem, seval, e0, idx1 (k := .i64) (show 1 < s.size by omega), s1, hw1]; rfl) ?_))
    exact Wc_ret (fin _ _ _ (by first | rfl | assumption) (by first | rfl | assumption) (by rw [hnum, x, bt_at hc1]))
  rintro ⟨e, h', d⟩ ⟨hd, hh, e0, hq⟩
  simp only at hd hh e0
  rw [hd, hh]
  rw [hq] at hnum
  simp only at hnum
  refine Wc_seq (Wc_ops (Wo_run (fun call => by simp only [go_sem, seval]; rfl) ?_))
  show Wc T _ _ _
  refine Wc_mid (fun s' => s'.d = some [] ∧ s'.h = h ∧ ∃ (s2 : ByteArray) (base : Int), s2.size < 9223372036854775807 ∧ 0 < base ∧ base ≤ 16 ∧ s'.e 0 = .string s2 ∧ s'.e 4 = .int .u64 base ∧ numR (bs s) = wholeR base (bs s2)) ?_ ?_
  · refine Wc_mid (fun s' => s'.d = some [] ∧ s'.h = h ∧ s'.e 0 = .string s ∧ s'.e 4 = .int .u64 10 ∧ s'.e 42 = .bool (hexP (bs s))) ?_ ?_
    · by_cases h2 : 2 < s.size
      · have y : decide ((2 : Int) < ((s.size : Nat) : Int)) = true := decide_eq_true (by omega)
        have hb2 : bndV 0 s.size (.int .i64 2) = some 2 := by simp [bndV]; omega
        have hb0 : bndO (fun _ => undef) 0 2 0 none = some 0 := rfl
        have hx : decide (s.extract 0 2 = ⟨#[48, 120]⟩) = hexP (bs s) := by
          obtain ⟨c0, hc0⟩ := bs_at (s := s) (j := 0) (by omega)
          obtain ⟨c1, hc1⟩ := bs_at (s := s) (j := 1) (by omega)
          have ht : bs (s.extract 0 2) = [c0, c1] := by
            rw [bs_extract, List.drop_zero]
            apply List.ext_getElem?
            intro i
            match i with
            | 0 => simp [List.getElem?_take, hc0]
            | 1 => simp [List.getElem?_take, hc1]
            | i + 2 => rw [List.getElem?_take, if_neg (by omega)]; rfl
          have hd2 : decide (2 < (bs s).length) = true := decide_eq_true (by rw [hlen]; exact h2)
          rw [hexP, bt_at hc0, bt_at hc1, hd2, Bool.true_and]
          have : (s.extract 0 2 = ⟨#[48, 120]⟩) ↔ (c0 = 48 ∧ c1 = 120) := by
            constructor
            · intro h
              have := congrArg bs h
              rw [ht] at this
              simpa [bs] using this
            · rintro ⟨rfl, rfl⟩
              exact bs_inj (by rw [ht]; rfl)
          rw [Bool.eq_iff_iff, decide_eq_true_iff, Bool.and_eq_true, beq_iff_eq, beq_iff_eq, this]
          constructor
          · rintro ⟨rfl, rfl⟩; exact ⟨rfl, rfl⟩
          · rintro ⟨z0, z1⟩
            exact ⟨UInt8.toNat_inj.1 (by rw [show (48 : UInt8).toNat = 48 from rfl]; omega), UInt8.toNat_inj.1 (by rw [show (120 : UInt8).toNat = 120 from rfl]; omega)⟩
        refine Wc_ops (Wo_run (fun call => by simp only [go_sem, seval, e0, y, bndO, hb2]; rfl) ?_)
        refine ⟨rfl, rfl, (by simp only [go_sem, seval, e0] <;> first | rfl | assumption | (symm; assumption)), (by first | rfl | assumption), by simp only [upd, dstUpd, reduceIte, Nat.reduceEqDiff]; rw [← hx]⟩
      · have y : decide ((2 : Int) < ((s.size : Nat) : Int)) = false := decide_eq_false (by omega)
        refine Wc_ops (Wo_run (fun call => by simp only [go_sem, seval, e0, y]; rfl) ?_)
        exact ⟨rfl, rfl, (by simp only [go_sem, seval, e0] <;> first | rfl | assumption | (symm; assumption)), (by first | rfl | assumption), by simp only [upd, dstUpd, reduceIte, Nat.reduceEqDiff, hexP, hlen, decide_eq_false h2, Bool.false_and]⟩
    rintro ⟨e, h', d⟩ ⟨hd, hh, e0, e4, e42⟩
    simp only at hd hh e0 e4 e42
    rw [hd, hh]
    refine Wc_cond _ e42 (fun x => ?_) (fun x => Wc_skip ⟨rfl, rfl, s, 10, hs, by decide, by decide, e0, e4, by rw [hnum, x]⟩)
    have h2 : 2 < s.size := by
      simp only [hexP, Bool.and_eq_true, decide_eq_true_eq] at x
      rw [← hlen]; exact x.1.1
    have hb2 : bndV 0 s.size (.int .i64 2) = some 2 := by simp [bndV]; omega
    refine Wc_draw_calm (by decide) (Wo_run (fun call => by simp only [go_sem, seval, e0, bndO, hb2]; rfl) ?_)
    refine ⟨rfl, ?_⟩
    have hx : bs (s.extract 2 s.size) = (bs s).drop 2 := by rw [bs_extract, List.take_of_length_le (by rw [hlen]; exact Nat.le_refl _)]
    exact ⟨rfl, rfl, s.extract 2 s.size, 16, by rw [bs_size, hx, List.length_drop]; omega, by decide, by decide, (by first | rfl | assumption), (by first | rfl | assumption), by rw [hnum, x, hx]⟩
  rintro ⟨e, h', d⟩ ⟨hd, hh, s2, base, hs2, hb, hb', e0, e4, hnum2⟩
  simp only at hd hh e0 e4
  rw [hd, hh]
  refine Wc_seq (Wc_ops (Wo_run (fun call => by simp only [go_sem, seval]; rfl) ?_))
  show Wc T _ _ _
  refine Wc_seq (Wc_seq (Wc_ops (Wo_run (fun call => by simp only [go_sem, seval, e0]; rfl) ?_)))
  show Wc T _ _ _
  refine Wc_range s2.size (fun j e h' d => d = some [] ∧ h' = h ∧ ∃ n, pre base (bs s2) j = some n ∧ e 5 = .int .u64 n) (by decide) (by first | rfl | assumption) (by first | rfl | assumption) (Nat.le_of_lt hs2) (by decide) ⟨rfl, rfl, 0, rfl, (by first | rfl | assumption)⟩ ?_ ?_
  · rintro j e h' d hj ⟨rfl, hh, n, hn, h5⟩ hfr h47 h46
    rw [hh]
    have e0 : e 0 = .string s2 := ((hfr 0 (by decide)).trans (by first | rfl | assumption | (symm; assumption)))
    have e4 : e 4 = .int .u64 base := ((hfr 4 (by decide)).trans (by first | rfl | assumption | (symm; assumption)))
    have hnr := wholeF_range hb (by omega) (by omega) hn
    obtain ⟨c, hc⟩ := bs_at hj
    have hsc : s2.data.toList[j]? = some c := hc
    have no : pre base (bs s2) (j + 1) = none → ∀ (e : Env), e 2 = .int .i64 0 → e 3 = .bool false → (Ex.ret = .normal ∨ Ex.ret = .ret) ∧ some ([] : List Dfr) = some [] ∧ ∃ vs, resAll e h [.tmp 2, .tmp 3] = some vs ∧ h = h ∧ Out.ret (tup vs) = .ret (numV s) := fun hp e h2 h3 =>
      fin e 0 false h2 h3 (by rw [hnum2, whole_none hp])
    refine Wc_seq (Wc_ops (Wo_run (fun call => by simp only [go_sem, seval, h47]; rfl) ?_))
    show Wc T _ _ _
    refine Wc_seq (Wc_ops (Wo_pre 4 (fun call => by simp only [go_sem, seval, e0, e4, idx_ok hj, hsc]; rfl) ?_))
    refine Wo_call (Wk_pure (worth_ok hw (u8_lt c).1 (u8_lt c).2) ?_)
    refine (Wo_run (fun call => by simp only [go_sem, seval]; rfl) ?_)
    show Wc T _ _ _
    have q1 : ¬ base ≤ figI 255 c.toNat → IntKind.u64.wrap (9223372036854775807 - figI 255 c.toNat) = 9223372036854775807 - figI 255 c.toNat := fun g => by
      have hf : 0 ≤ figI 255 c.toNat := by unfold figI; repeat' split; all_goals omega
      exact wrapU64 (by omega) (by omega)
    by_cases g1 : base ≤ figI 255 c.toNat
    · have z1 : ¬ figI 255 c.toNat < base := by omega
      refine Wc_seq (Wc_seq (Wc_ops (Wo_run (fun call => by simp only [go_sem, seval, z1]; rfl) ?_)))
      show Wc T _ _ _
      refine Wc_cond true (by first | rfl | assumption) (fun _ => ?_) (fun e => by cases e)
      refine Wc_seq (Wc_ops (Wo_run (fun call => by simp only [go_sem, seval]; rfl) ?_))
      exact Wc_ret (no (by rw [pre_succ hc, hn]; simp only [wholeF, if_pos g1]) _ (by first | rfl | assumption) (by first | rfl | assumption))
    have z1 : figI 255 c.toNat < base := by omega
    have q1 := q1 g1
    have hf : 0 ≤ figI 255 c.toNat := by unfold figI; repeat' split; all_goals omega
    have hdiv : (9223372036854775807 - figI 255 c.toNat).tdiv base = (9223372036854775807 - figI 255 c.toNat) / base := Int.tdiv_eq_ediv_of_nonneg (by omega)
    have hq0 : 0 ≤ (9223372036854775807 - figI 255 c.toNat) / base := Int.ediv_nonneg (by omega) (by omega)
    have hq1 : (9223372036854775807 - figI 255 c.toNat) / base ≤ 9223372036854775807 - figI 255 c.toNat := Int.ediv_le_self _ (by omega)
    have q2 : IntKind.u64.wrap ((9223372036854775807 - figI 255 c.toNat) / base) = (9223372036854775807 - figI 255 c.toNat) / base := wrapU64 hq0 (by omega)
    have hb0 : ¬ base = 0 := by omega
    by_cases g2 : (9223372036854775807 - figI 255 c.toNat) / base < n
    · refine Wc_seq (Wc_seq (Wc_ops (Wo_run (fun call => by simp only [go_sem, seval, z1, h5, e4, q1, hdiv, q2, hb0, g2]; rfl) ?_)))
      show Wc T _ _ _
      refine Wc_cond true (by first | rfl | assumption) (fun _ => ?_) (fun e => by cases e)
      refine Wc_seq (Wc_ops (Wo_run (fun call => by simp only [go_sem, seval]; rfl) ?_))
      exact Wc_ret (no (by rw [pre_succ hc, hn]; simp only [wholeF, if_neg g1, if_pos g2]) _ (by first | rfl | assumption) (by first | rfl | assumption))
    refine Wc_seq (Wc_seq (Wc_ops (Wo_run (fun call => by simp only [go_sem, seval, z1, h5, e4, q1, hdiv, q2, hb0, g2]; rfl) ?_)))
    show Wc T _ _ _
    refine Wc_cond false (by first | rfl | assumption) (fun e => by cases e) (fun _ => Wc_skip ?_)
    show Wc T _ _ _
    have hm := (Int.le_ediv_iff_mul_le hb).1 (show n ≤ (9223372036854775807 - figI 255 c.toNat) / base by omega)
    have hm0 : 0 ≤ n * base := Int.mul_nonneg hnr.1 (Int.le_of_lt hb)
    have q3 : IntKind.u64.wrap (n * base) = n * base := wrapU64 hm0 (by omega)
    have q4 : IntKind.u64.wrap (n * base + figI 255 c.toNat) = n * base + figI 255 c.toNat := wrapU64 (by omega) (by omega)
    refine Wc_ops (Wo_run (fun call => by simp only [go_sem, seval, h5, e4, q3, q4]; rfl) ?_)
    refine ⟨rfl, rfl, n * base + figI 255 c.toNat, ?_, (by first | rfl | assumption)⟩
    rw [pre_succ hc, hn]
    simp only [wholeF, if_neg g1, if_neg g2]
  · rintro e h' d ⟨rfl, hh, n, hn, h5⟩ hfr h47
    rw [hh]
    have e0 : e 0 = .string s2 := ((hfr 0 (by decide)).trans (by first | rfl | assumption | (symm; assumption)))
    have hnr := wholeF_range hb (by omega) (by omega) hn
    rw [bs_size] at hn
    show Wc T _ _ _
    have hw : IntKind.i64.wrap n = n := wrap64 (by omega) (by omega)
    refine Wc_seq (Wc_ops (Wo_run (fun call => by simp only [go_sem, seval, h5, e0, hw]; rfl) ?_))
    refine Wc_ret (fin _ n (!decide (s2 = ⟨#[]⟩)) (by first | rfl | assumption) (by first | rfl | assumption) ?_)
    rw [hnum2, whole_all hn]
    have : (!decide (s2 = ⟨#[]⟩)) = decide (bs s2 ≠ []) := by
      rw [← decide_not]
      congr 1
      refine propext ⟨fun hne he => hne (bs_inj he), fun hne he => hne (by rw [he]; rfl)⟩
    rw [this]
end Go.Idl
end

section
namespace Go.Idl
variable {T : Tbl}
def blankB (c : UInt8) : Bool := decide (clsI c.toNat = 1)
def skipN : List UInt8 → Bool → Nat
  | [], _ => 0
  | c :: r, true => if c = 10 then skipN r false + 1 else skipN r true + 1
  | c :: r, false => if blankB c then skipN r false + 1 else if c = 47 ∧ r[0]? = some 47 then skipN r true + 1 else 0
theorem skipN_le : ∀ (l : List UInt8) (b : Bool), skipN l b ≤ l.length
  | [], _ => Nat.le_refl _
  | c :: r, true => by
    have h1 := skipN_le r true
    have h2 := skipN_le r false
    rw [skipN, List.length_cons]; split <;> omega
  | c :: r, false => by
    have h1 := skipN_le r true
    have h2 := skipN_le r false
    rw [skipN, List.length_cons]; split
    · omega
    · split <;> omega
theorem blank10 : blankB 10 = true := by decide
theorem skipN_10 (r : List UInt8) : skipN (10 :: r) true = skipN (10 :: r) false := by simp [skipN, blank10]
structure Gone (b z : Nat) (s : ByteArray) (h h' : Heap) (a : Nat) : Prop where
  but : KeptBut b h h'
  next : h'.next = h.next
  get : h'.get b = some (.cells (scnC s a) true z)
theorem Gone.step {b z a a' : Nat} {s : ByteArray} {h h' : Heap} (g : Gone b z s h h' a) : Gone b z s h (h'.set b (.cells (scnC s a') true z)) a' :=
  ⟨g.but.trans ⟨Nat.le_refl _, fun k _ hm => set_get_ne' _ _ hm⟩, g.next, set_get' _ _ _⟩
theorem Gone.refl {b z a : Nat} {s : ByteArray} {h : Heap} (hg : h.get b = some (.cells (scnC s a) true z)) : Gone b z s h h a := ⟨.refl _ _, rfl, hg⟩
theorem scn_len (s : ByteArray) (a : Nat) : 1 < (scnC s a).length := by simp [scnC]
theorem drop_at {s : ByteArray} {a : Nat} {c : UInt8} (h : (bs s)[a]? = some c) : (bs s).drop a = c :: (bs s).drop (a + 1) := by
  obtain ⟨hl, h⟩ := List.getElem?_eq_some_iff.1 h
  rw [List.drop_eq_getElem_cons hl, h]
def farH (b : Nat) (s : ByteArray) (h : Heap) : Nat := match h.get b with
  | some (.cells (_ :: .int _ a :: _) _ _) => s.size - a.toNat
  | _ => 0
theorem Gone.far {b z a : Nat} {s : ByteArray} {h h' : Heap} (g : Gone b z s h h' a) : farH b s h' = s.size - a := by simp [farH, g.get, scnC]
theorem skip_ok (hT : T.fn 50 = some C50) (hp : T.fn 51 = some C51) {s : ByteArray} {a b z : Nat} {h : Heap} (hg : h.get b = some (.cells (scnC s a) true z)) (ha : a ≤ s.size) (hs : s.size < 4611686018427387904) :
    Wk T (.fn 50) [ptr b 0] h (fun o h' => (∃ r, o = .ret r) ∧ Gone b z s h h' (a + skipN ((bs s).drop a) false)) := by
  refine Wk_fn hT (by simp [C50]) ?_
  simp only [C50]
  have pb : ptr b 0 = .pointer (some ⟨b, 0, none⟩) := rfl
  have fin : ∀ (e : Env) (h' : Heap) (x : Ex), (x = .normal ∨ x = .ret) → Gone b z s h h' (a + skipN ((bs s).drop a) false) → (x = .normal ∨ x = .ret) ∧ some ([] : List Dfr) = some [] ∧ ∃ vs, resAll e h' [] = some vs ∧ (∃ r, Out.ret (tup vs) = .ret r) ∧ Gone b z s h h' (a + skipN ((bs s).drop a) false) := fun e h' x hx g => ⟨hx, rfl, [], rfl, ⟨_, rfl⟩, g⟩
  refine Wc_seq (Wc_skip ?_)
  show Wc T _ _ _
  refine Wc_block (Wc_loopF (fun e h' d => d = some [] ∧ ∃ a', a' ≤ s.size ∧ Gone b z s h h' a' ∧ a' + skipN ((bs s).drop a') false = a + skipN ((bs s).drop a) false) (fun _ h' => farH b s h') ⟨rfl, a, ha, .refl hg, rfl⟩ ?_)
  rintro e h' d ⟨rfl, a', ha', g, hsum⟩ hfr
  have e0 : e 0 = .pointer (some ⟨b, 0, none⟩) := ((hfr 0 (by decide)).trans (by first | rfl | assumption | (symm; assumption)))
  have hg' := g.get
  have hsz : s.size = (bs s).length := bs_size s
  have g0 : (scnC s a')[0]? = some (.string s) := rfl
  have g1 : (scnC s a')[1]? = some (.int .i64 a') := rfl
  have hi : (a' : Int) < 4611686018427387904 := by omega
  have hw : IntKind.i64.wrap (((a' : Nat) : Int) + 1) = ((a' + 1 : Nat) : Int) := by rw [wrap64] <;> omega
  by_cases hlt : a' < s.size
  case neg =>
    have hnlt : ¬ ((a' : Nat) : Int) < ((s.size : Nat) : Int) := by omega
    refine Wc_seq (Wc_seq (Wc_draw_calm (by decide) (Wo_run (fun call => by simp only [go_sem, seval, e0, hg', g0, g1, hnlt]; rfl) ?_)))
    refine ⟨rfl, ?_⟩
    show Wc T _ _ _
    refine Wc_cond false (by first | rfl | assumption) (fun e => by cases e) (fun _ => Wc_exit ?_)
    refine fin _ _ _ (.inl rfl) ?_
    rw [List.drop_of_length_le (by omega), skipN, Nat.add_zero] at hsum
    rw [← hsum]; exact g
  have hlt' : ((a' : Nat) : Int) < ((s.size : Nat) : Int) := by omega
  obtain ⟨c, hc⟩ := bs_at hlt
  have hdrop := drop_at hc
  have sc : s.data.toList[a']? = some c := hc
  have hcls : clsAt s (a' + 0) = clsI c.toNat := by rw [Nat.add_zero, clsAt, hc]
  refine Wc_seq (Wc_seq (Wc_draw_calm (by decide) (Wo_run (fun call => by simp only [go_sem, seval, e0, hg', g0, g1, hlt']; rfl) ?_)))
  refine ⟨rfl, ?_⟩
  show Wc T _ _ _
  refine Wc_cond true (by first | rfl | assumption) (fun _ => Wc_skip ?_) (fun e => by cases e)
  show Wc T _ _ _
  refine Wc_block (Wc_seq (Wc_block (Wc_seq (Wc_ops (Wo_pre 1 (fun call => by simp only [go_sem, seval, e0]; rfl) ?_)))))
  refine Wo_call (Wk_pure (peek_ok (a := a') (k := 0) hp hg' (by omega)) ?_)
  rw [hcls]
  by_cases hbl : blankB c = true
  · have hb1 : (clsI c.toNat == 1) = true := by rw [Bool.beq_eq_decide_eq]; exact hbl
    refine (Wo_run (fun call => by simp only [go_sem, seval, hb1]; rfl) ?_)
    show Wc T _ _ _
    refine Wc_cond true (by first | rfl | assumption) (fun _ => ?_) (fun e => by cases e)
    refine Wc_seq (Wc_ops (Wo_pre 7 (fun call => by simp only [go_sem, seval, e0, hg', g1, hw]; rfl) ?_))
    refine Wo_op (iop_store_at (k := 1) (v := .int .i64 ((a' + 1 : Nat) : Int)) (by first | rfl | assumption) (by simp only [ev, upd, dstUpd, reduceIte, Nat.reduceEqDiff]; rfl) hg' (scn_len _ _)) (Wo_nil ?_)
    show Wc T _ _ _
    refine Wc_exit ?_
    have g2 : Gone b z s h (h'.set b (.cells ((scnC s a').set 1 (.int .i64 ((a' + 1 : Nat) : Int))) true z)) (a' + 1) := g.step
    refine ⟨⟨rfl, a' + 1, by omega, g2, ?_⟩, ?_⟩
    · rw [hdrop, skipN, if_pos hbl] at hsum
      omega
    · rw [g.far, g2.far]; omega
  have hb1 : (clsI c.toNat == 1) = false := by rw [Bool.beq_eq_decide_eq]; simpa [blankB] using hbl
  refine (Wo_run (fun call => by simp only [go_sem, seval, hb1]; rfl) ?_)
  show Wc T _ _ _
  refine Wc_cond false (by first | rfl | assumption) (fun e => by cases e) (fun _ => ?_)
  have out : skipN ((bs s).drop a') false = 0 → Gone b z s h h' (a + skipN ((bs s).drop a) false) := fun h0 => by
    rw [h0, Nat.add_zero] at hsum
    rw [← hsum]; exact g
  have hidx : idxV s.size (.int .i64 ((a' : Nat) : Int)) = some a' := idx_ok hlt
  have c47 : (c = 47) ↔ (((c.toNat : Nat) : Int) == 47) = true := by
    rw [beq_iff_eq]
    constructor
    · rintro rfl; rfl
    · intro h; exact UInt8.toNat_inj.1 (by simp; omega)
  cases x47 : (((c.toNat : Nat) : Int) == 47)
  · refine Wc_seq (Wc_draw_calm (by decide) (Wo_run (fun call => by simp only [go_sem, seval, e0, hg', g0, g1, hidx, sc, bne, x47]; rfl) ?_))
    refine ⟨rfl, ?_⟩
    show Wc T _ _ _
    refine Wc_cond true (by first | rfl | assumption) (fun _ => Wc_ret (fin _ _ _ (.inr rfl) (out ?_))) (fun e => by cases e)
    rw [hdrop, skipN, if_neg hbl, if_neg]
    rintro ⟨h1, _⟩
    rw [c47.1 h1] at x47; cases x47
  have hc47 := c47.2 x47
  by_cases hlt1 : a' + 1 < s.size
  case neg =>
    have hge : ((s.size : Nat) : Int) ≤ ((a' + 1 : Nat) : Int) := by omega
    refine Wc_seq (Wc_draw_calm (by decide) (Wo_run (fun call => by simp only [go_sem, seval, e0, hg', g0, g1, hidx, sc, bne, x47, hw, hge]; rfl) ?_))
    refine ⟨rfl, ?_⟩
    show Wc T _ _ _
    refine Wc_cond true (by first | rfl | assumption) (fun _ => Wc_ret (fin _ _ _ (.inr rfl) (out ?_))) (fun e => by cases e)
    rw [hdrop, skipN, if_neg hbl, if_neg]
    rintro ⟨_, h1⟩
    rw [List.drop_of_length_le (by omega)] at h1; cases h1
  obtain ⟨c1, hc1⟩ := bs_at hlt1
  have sc1 : s.data.toList[a' + 1]? = some c1 := hc1
  have hge : ¬ ((s.size : Nat) : Int) ≤ ((a' + 1 : Nat) : Int) := by omega
  have hidx1 : idxV s.size (.int .i64 ((a' + 1 : Nat) : Int)) = some (a' + 1) := idx_ok hlt1
  have hr0 : ((bs s).drop (a' + 1))[0]? = some c1 := by rw [List.getElem?_drop]; exact hc1
  have c147 : (c1 = 47) ↔ (((c1.toNat : Nat) : Int) == 47) = true := by
    rw [beq_iff_eq]
    constructor
    · rintro rfl; rfl
    · intro h; exact UInt8.toNat_inj.1 (by simp; omega)
  cases y47 : (((c1.toNat : Nat) : Int) == 47)
  · refine Wc_seq (Wc_draw_calm (by decide) (Wo_run (fun call => by simp only [go_sem, seval, e0, hg', g0, g1, hidx, sc, bne, x47, hw, hge, hidx1, sc1, y47]; rfl) ?_))
    refine ⟨rfl, ?_⟩
    show Wc T _ _ _
    refine Wc_cond true (by first | rfl | assumption) (fun _ => Wc_ret (fin _ _ _ (.inr rfl) (out ?_))) (fun e => by cases e)
    rw [hdrop, skipN, if_neg hbl, if_neg]
    rintro ⟨_, h1⟩
    rw [hr0] at h1
    rw [c147.1 (Option.some.inj h1)] at y47; cases y47
  have hc147 := c147.2 y47
  refine Wc_seq (Wc_draw_calm (by decide) (Wo_run (fun call => by simp only [go_sem, seval, e0, hg', g0, g1, hidx, sc, bne, x47, hw, hge, hidx1, sc1, y47]; rfl) ?_))
  refine ⟨rfl, ?_⟩
  show Wc T _ _ _
  refine Wc_cond false (by first | rfl | assumption) (fun e => by cases e) (fun _ => Wc_skip ?_)
  show Wc T _ _ _
  have n10 : ¬ c = 10 := by rw [hc47]; decide
  have hnote : skipN ((bs s).drop a') false = skipN ((bs s).drop a') true := by
    have s1 : skipN (c :: (bs s).drop (a' + 1)) false = skipN ((bs s).drop (a' + 1)) true + 1 := by rw [skipN, if_neg hbl, if_pos ⟨hc47, by rw [hr0, hc147]⟩]
    have s2 : skipN (c :: (bs s).drop (a' + 1)) true = skipN ((bs s).drop (a' + 1)) true + 1 := by rw [skipN, if_neg n10]
    rw [hdrop, s1, s2]
  rw [hnote] at hsum
  refine Wc_block (Wc_loopF (fun e1 h1 d => d = some [] ∧ e1 0 = .pointer (some ⟨b, 0, none⟩) ∧ ∃ a1, a' ≤ a1 ∧ a1 ≤ s.size ∧ Gone b z s h h1 a1 ∧ a1 + skipN ((bs s).drop a1) true = a + skipN ((bs s).drop a) false) (fun _ h1 => farH b s h1) ⟨rfl, (by simp only [go_sem, seval, e0] <;> first | rfl | assumption | (symm; assumption)), a', Nat.le_refl _, ha', g, hsum⟩ ?_)
  rintro e1 h1 d ⟨rfl, e10, a1, hle, ha1, q, hsum1⟩ _
  have q' := q.get
  have q0 : (scnC s a1)[0]? = some (.string s) := rfl
  have q1 : (scnC s a1)[1]? = some (.int .i64 a1) := rfl
  have hw1 : IntKind.i64.wrap (((a1 : Nat) : Int) + 1) = ((a1 + 1 : Nat) : Int) := by rw [wrap64] <;> omega
  have leave : a1 ≠ a' → skipN ((bs s).drop a1) true = skipN ((bs s).drop a1) false → (some ([] : List Dfr) = some [] ∧ ∃ a', a' ≤ s.size ∧ Gone b z s h h1 a' ∧ a' + skipN ((bs s).drop a') false = a + skipN ((bs s).drop a) false) ∧ farH b s h1 < farH b s h' := fun hne heq =>
    ⟨⟨rfl, a1, ha1, q, by rw [← heq]; exact hsum1⟩, by rw [q.far, g.far]; omega⟩
  by_cases hl1 : a1 < s.size
  case neg =>
    have hnl : ¬ ((a1 : Nat) : Int) < ((s.size : Nat) : Int) := by omega
    refine Wc_seq (Wc_seq (Wc_draw_calm (by decide) (Wo_run (fun call => by simp only [go_sem, seval, e10, q', q0, q1, hnl]; rfl) ?_)))
    refine ⟨rfl, ?_⟩
    show Wc T _ _ _
    refine Wc_cond false (by first | rfl | assumption) (fun e => by cases e) (fun _ => Wc_exit ?_)
    exact leave (by omega) (by rw [List.drop_of_length_le (by omega)]; rfl)
  have hl1' : ((a1 : Nat) : Int) < ((s.size : Nat) : Int) := by omega
  obtain ⟨k, hk⟩ := bs_at hl1
  have sk : s.data.toList[a1]? = some k := hk
  have hidk : idxV s.size (.int .i64 ((a1 : Nat) : Int)) = some a1 := idx_ok hl1
  cases x10 : (((k.toNat : Nat) : Int) == 10)
  · refine Wc_seq (Wc_seq (Wc_draw_calm (by decide) (Wo_run (fun call => by simp only [go_sem, seval, e10, q', q0, q1, hl1', hidk, sk, bne, x10]; rfl) ?_)))
    refine ⟨rfl, ?_⟩
    show Wc T _ _ _
    refine Wc_cond true (by first | rfl | assumption) (fun _ => Wc_skip ?_) (fun e => by cases e)
    show Wc T _ _ _
    refine Wc_block (Wc_ops (Wo_pre 7 (fun call => by simp only [go_sem, seval, e10, q', q1, hw1]; rfl) ?_))
    refine Wo_op (iop_store_at (k := 1) (v := .int .i64 ((a1 + 1 : Nat) : Int)) (by first | rfl | assumption) (by simp only [ev, upd, dstUpd, reduceIte, Nat.reduceEqDiff]; rfl) q' (scn_len _ _)) (Wo_nil ?_)
    have q2 : Gone b z s h (h1.set b (.cells ((scnC s a1).set 1 (.int .i64 ((a1 + 1 : Nat) : Int))) true z)) (a1 + 1) := q.step
    refine ⟨⟨rfl, (by simp only [go_sem, seval, e10] <;> first | rfl | assumption | (symm; assumption)), a1 + 1, by omega, by omega, q2, ?_⟩, ?_⟩
    · have hn : ¬ k = 10 := by rintro rfl; cases x10
      rw [drop_at hk, skipN, if_neg hn] at hsum1
      omega
    · rw [q.far, q2.far]; omega
  · have hk10 : k = 10 := UInt8.toNat_inj.1 (by have := beq_iff_eq.1 x10; simp; omega)
    refine Wc_seq (Wc_seq (Wc_draw_calm (by decide) (Wo_run (fun call => by simp only [go_sem, seval, e10, q', q0, q1, hl1', hidk, sk, bne, x10]; rfl) ?_)))
    refine ⟨rfl, ?_⟩
    show Wc T _ _ _
    refine Wc_cond false (by first | rfl | assumption) (fun e => by cases e) (fun _ => Wc_exit ?_)
    refine leave ?_ ?_
    · rintro rfl
      rw [hk] at hc; cases hc; exact n10 hk10
    · rw [drop_at hk, hk10]; exact skipN_10 _
end Go.Idl
end

section
namespace Go.Idl
variable {T : Tbl}
def signN (c d : Int) : Nat := if (c == 62 && !(d == 62)) then 0 else if ((c == 60 || c == 62) && d == c) then 2 else if ((c == 61 || c == 33 || c == 60) && d == 61) then 2 else 1
theorem sign_ok (hT : T.fn 54 = some C54) {s : ByteArray} {a b z : Nat} {o : Bool} {h : Heap} (hg : h.get b = some (.cells (scnC s a) o z)) {c0 : UInt8} (hc0 : (bs s)[a]? = some c0) (hs : s.size < 4611686018427387904) :
    Wk T (.fn 54) [ptr b 0] h (fun o h' => h' = h ∧ o = .ret (.int .i64 ((signN ((c0.toNat : Nat) : Int) (bt (bs s) (a + 1)) : Nat) : Int))) := by
  refine Wk_fn hT (by simp [C54]) ?_
  simp only [C54]
  have hsz : s.size = (bs s).length := bs_size s
  have hlt : a < s.size := by rw [hsz]; exact (List.getElem?_eq_some_iff.1 hc0).1
  have sc : s.data.toList[a]? = some c0 := hc0
  have g0 : (scnC s a)[0]? = some (.string s) := rfl
  have g1 : (scnC s a)[1]? = some (.int .i64 a) := rfl
  have hidx : idxV s.size (.int .i64 ((a : Nat) : Int)) = some a := idx_ok hlt
  have hw : IntKind.i64.wrap (((a : Nat) : Int) + 1) = ((a + 1 : Nat) : Int) := by rw [wrap64] <;> omega
  refine Wc_seq (Wc_ops (Wo_run (fun call => by simp only [go_sem, seval]; rfl) ?_))
  show Wc T _ _ _
  refine Wc_seq (Wc_draw_calm (by decide) (Wo_run (fun call => by simp only [go_sem, seval, hg, g0, g1, hidx, sc]; rfl) ?_))
  refine ⟨rfl, ?_⟩
  show Wc T _ _ _
  refine Wc_seq (Wc_ops (Wo_run (fun call => by simp only [go_sem, seval]; rfl) ?_))
  show Wc T _ _ _
  generalize hcc : ((c0.toNat : Nat) : Int) = c
  refine Wc_mid (fun s' => s'.d = some [] ∧ s'.h = h ∧ s'.e 3 = .int .u8 c ∧ s'.e 4 = .int .u8 (bt (bs s) (a + 1))) ?_ ?_
  · by_cases h1 : a + 1 < s.size
    case neg =>
      have hn : ¬ ((a + 1 : Nat) : Int) < ((s.size : Nat) : Int) := by omega
      refine Wc_seq (Wc_draw_calm (by decide) (Wo_run (fun call => by simp only [go_sem, seval, hg, g0, g1, hw, hn]; rfl) ?_))
      refine ⟨rfl, ?_⟩
      show Wc T _ _ _
      refine Wc_cond false (by first | rfl | assumption) (fun e => by cases e) (fun _ => Wc_skip ⟨rfl, rfl, (by first | rfl | assumption), ?_⟩)
      rw [bt_no (by omega)]
      simp only [upd, dstUpd, reduceIte, Nat.reduceEqDiff]
    have hp : ((a + 1 : Nat) : Int) < ((s.size : Nat) : Int) := by omega
    obtain ⟨d, hd⟩ := bs_at h1
    have sd : s.data.toList[a + 1]? = some d := hd
    have hidd : idxV s.size (.int .i64 ((a + 1 : Nat) : Int)) = some (a + 1) := idx_ok h1
    refine Wc_seq (Wc_draw_calm (by decide) (Wo_run (fun call => by simp only [go_sem, seval, hg, g0, g1, hw, hp]; rfl) ?_))
    refine ⟨rfl, ?_⟩
    show Wc T _ _ _
    refine Wc_cond true (by first | rfl | assumption) (fun _ => ?_) (fun e => by cases e)
    refine Wc_draw_calm (by decide) (Wo_run (fun call => by simp only [go_sem, seval, hg, g0, g1, hw, hidd, sd]; rfl) ?_)
    refine ⟨rfl, rfl, rfl, (by first | rfl | assumption), ?_⟩
    rw [bt_at hd]
    simp only [upd, dstUpd, reduceIte, Nat.reduceEqDiff]
  generalize hdd : bt (bs s) (a + 1) = d
  rintro ⟨e, h', ds⟩ ⟨hd, hh, e3, e4⟩
  simp only at hd hh e3 e4
  rw [hd, hh]
  have fin : ∀ (e : Env) (x : Ex) (n : Nat), (x = .normal ∨ x = .ret) → e 2 = .int .i64 ((n : Nat) : Int) → signN c d = n → (x = .normal ∨ x = .ret) ∧ some ([] : List Dfr) = some [] ∧ ∃ vs, resAll e h [.tmp 2] = some vs ∧ h = h ∧ Out.ret (tup vs) = .ret (.int .i64 ((signN c d : Nat) : Int)) := fun e x n hx h2 hn => ⟨hx, rfl, [.int .i64 ((n : Nat) : Int)], by simp only [resAll, resV, h2], rfl, by rw [hn]; rfl⟩
  refine Wc_mid (fun s' => s'.d = some [] ∧ s'.h = h ∧ (c == 62 && !(d == 62)) = false ∧ ((c == 60 || c == 62) && d == c) = false ∧ ((c == 61 || c == 33 || c == 60) && d == 61) = false) ?_ ?_
  · refine Wc_block (Wc_mid (fun s' => s'.d = some [] ∧ s'.h = h ∧ s'.e 3 = .int .u8 c ∧ s'.e 4 = .int .u8 d ∧ s'.e 35 = .bool (c == 62 && !(d == 62))) ?_ ?_)
    · cases x1 : (c == 62)
      · refine Wc_ops (Wo_run (fun call => by simp only [go_sem, seval, e3, e4, bne, x1]; rfl) ?_)
        exact ⟨rfl, rfl, (by simp only [go_sem, seval, e3] <;> first | rfl | assumption | (symm; assumption)), (by simp only [go_sem, seval, e4] <;> first | rfl | assumption | (symm; assumption)), (by first | rfl | assumption)⟩
      · cases x2 : (d == 62) <;> (refine Wc_ops (Wo_run (fun call => by simp only [go_sem, seval, e3, e4, bne, x1, x2]; rfl) ?_); exact ⟨rfl, rfl, (by simp only [go_sem, seval, e3] <;> first | rfl | assumption | (symm; assumption)), (by simp only [go_sem, seval, e4] <;> first | rfl | assumption | (symm; assumption)), (by first | rfl | assumption)⟩)
    rintro ⟨e, h', ds⟩ ⟨hd, hh, e3, e4, e35⟩
    simp only at hd hh e3 e4 e35
    rw [hd, hh]
    refine Wc_cond _ e35 (fun y => ?_) (fun n1 => ?_)
    · refine Wc_seq (Wc_ops (Wo_run (fun call => by simp only [go_sem, seval]; rfl) ?_))
      exact Wc_ret (fin _ _ 0 (.inr rfl) (by first | rfl | assumption) (by rw [signN, if_pos y]))
    refine Wc_mid (fun s' => s'.d = some [] ∧ s'.h = h ∧ s'.e 42 = .bool ((c == 60 || c == 62) && d == c || (c == 61 || c == 33 || c == 60) && d == 61)) ?_ ?_
    · refine Wc_mid (fun s' => s'.d = some [] ∧ s'.h = h ∧ s'.e 3 = .int .u8 c ∧ s'.e 4 = .int .u8 d ∧ s'.e 42 = .bool ((c == 60 || c == 62) && d == c)) ?_ ?_
      · cases x1 : (c == 60) <;> cases x2 : (c == 62) <;> cases x3 : (d == c) <;> (refine Wc_ops (Wo_run (fun call => by simp only [go_sem, seval, e3, e4, bne, x1, x2, x3]; rfl) ?_); exact ⟨rfl, rfl, (by simp only [go_sem, seval, e3] <;> first | rfl | assumption | (symm; assumption)), (by simp only [go_sem, seval, e4] <;> first | rfl | assumption | (symm; assumption)), (by first | rfl | assumption)⟩)
      rintro ⟨e, h', ds⟩ ⟨hd, hh, e3, e4, e42⟩
      simp only at hd hh e3 e4 e42
      rw [hd, hh]
      refine Wc_cond _ e42 (fun y => Wc_skip ⟨rfl, rfl, by simp only; rw [e42, y]; rfl⟩) (fun y => ?_)
      rw [y]
      cases x1 : (c == 61) <;> cases x2 : (c == 33) <;> cases x3 : (c == 60) <;> cases x4 : (d == 61) <;> (refine Wc_ops (Wo_run (fun call => by simp only [go_sem, seval, e3, e4, bne, x1, x2, x3, x4]; rfl) ?_); exact ⟨rfl, rfl, (by first | rfl | assumption)⟩)
    rintro ⟨e, h', ds⟩ ⟨hd, hh, e42⟩
    simp only at hd hh e42
    rw [hd, hh]
    refine Wc_cond _ e42 (fun y => ?_) (fun y => Wc_skip ?_)
    · refine Wc_seq (Wc_ops (Wo_run (fun call => by simp only [go_sem, seval]; rfl) ?_))
      refine Wc_ret (fin _ _ 2 (.inr rfl) (by first | rfl | assumption) ?_)
      rw [signN, if_neg (by rw [n1]; decide)]
      cases hA : ((c == 60 || c == 62) && d == c)
      · rw [hA, Bool.false_or] at y
        rw [if_neg (by decide), if_pos y]
      · rw [if_pos rfl]
    · rw [Bool.or_eq_false_iff] at y
      exact ⟨rfl, rfl, n1, y.1, y.2⟩
  rintro ⟨e, h', ds⟩ ⟨hd, hh, y1, y2, y3⟩
  simp only at hd hh
  rw [hd, hh]
  refine Wc_seq (Wc_ops (Wo_run (fun call => by simp only [go_sem, seval]; rfl) ?_))
  refine Wc_ret (fin _ _ 1 (.inr rfl) (by first | rfl | assumption) ?_)
  rw [signN, y1, y2, y3]; rfl
end Go.Idl
end

section
namespace Go.Idl
variable {T : Tbl}
structure Tok where
  kind : Int
  text : ByteArray
  frm : Nat
  upto : Nat
  num : Int
def Tok.cells (t : Tok) : List Value := [.int .i64 t.kind, .string t.text, .int .i64 t.frm, .int .i64 t.upto, .int .i64 t.num]
def lenT (l : List UInt8) (c : UInt8) : Nat := if clsI c.toNat = 2 then runN l else if clsI c.toNat = 3 then runN l else if clsI c.toNat = 5 then min 3 l.length else if clsI c.toNat = 4 then signN c.toNat (bt l 1) else 0
def kindT (c : UInt8) (w : Bool) : Int := if clsI c.toNat = 2 then (if w then 2 else 1) else if clsI c.toNat = 3 then 4 else if clsI c.toNat = 5 then 4 else if clsI c.toNat = 4 then 3 else 0
def nextA (l : List UInt8) (a : Nat) : Tok × Int × Nat :=
  match l with
  | [] => (⟨0, ⟨#[]⟩, a, a, 0⟩, 0, a)
  | c :: r =>
    let n := lenT (c :: r) c
    let text : ByteArray := ⟨((c :: r).take n).toArray⟩
    let kind := kindT c (wordB text)
    if kind = 4 ∧ (numR (bs text)).2 = false then (⟨4, text, a, a, 0⟩, 41, a)
    else if n = 0 then (⟨kind, text, a, a, if kind = 4 then (numR (bs text)).1 else 0⟩, 40, a)
    else (⟨kind, text, a, a + n, if kind = 4 then (numR (bs text)).1 else 0⟩, 0, a + n)
def nextL (l : List UInt8) (a : Nat) : Tok × Int × Nat := nextA (l.drop (skipN l false)) (a + skipN l false)
def z5 : List Value := [.int .i64 0, .string ⟨#[]⟩, .int .i64 0, .int .i64 0, .int .i64 0]
structure Mid (b z tb : Nat) (s : ByteArray) (a : Nat) (h0 h' : Heap) (tk : List Value) : Prop where
  but : KeptBut b h0 h'
  scn : h'.get b = some (.cells (scnC s a) true z)
  res : h'.get h0.next = some (.cells z5 true 0)
  tok : h'.get tb = some (.cells tk true 0)
  lt : tb < h'.next
  low : b < h0.next ∧ h0.next < tb
theorem Mid.keep {b z tb a : Nat} {s : ByteArray} {h0 h h' : Heap} {tk : List Value} (m : Mid b z tb s a h0 h tk) (k : Kept h h') : Mid b z tb s a h0 h' tk := by
  have := m.but.next; have := m.lt; have := m.low
  exact ⟨m.but.kept k, by rw [k.get _ (by omega)]; exact m.scn, by rw [k.get _ (by omega)]; exact m.res, by rw [k.get _ (by omega)]; exact m.tok, Nat.lt_of_lt_of_le m.lt k.next, m.low⟩
theorem Mid.put {b z tb a : Nat} {s : ByteArray} {h0 h : Heap} {tk : List Value} (m : Mid b z tb s a h0 h tk) (tk' : List Value) : Mid b z tb s a h0 (h.set tb (.cells tk' true 0)) tk' := by
  have := m.low
  exact ⟨m.but.set _ (.inr (by omega)), by rw [set_get_ne' _ _ (by omega)]; exact m.scn, by rw [set_get_ne' _ _ (by omega)]; exact m.res, set_get' _ _ _, m.lt, m.low⟩
theorem Mid.go {b z tb a : Nat} {s : ByteArray} {h0 h : Heap} {tk : List Value} (m : Mid b z tb s a h0 h tk) (a' : Nat) : Mid b z tb s a' h0 (h.set b (.cells (scnC s a') true z)) tk := by
  have := m.low
  exact ⟨m.but.set _ (.inl rfl), set_get' _ _ _, by rw [set_get_ne' _ _ (by omega)]; exact m.res, by rw [set_get_ne' _ _ (by omega)]; exact m.tok, m.lt, m.low⟩
theorem ext_eq {s : ByteArray} {a n : Nat} {l : List UInt8} (h : (bs s).drop a = l) : s.extract a (a + n) = ⟨(l.take n).toArray⟩ := bs_inj (by
  rw [bs_extract, List.drop_take, h, Nat.add_sub_cancel_left]
  exact (List.toList_toArray).symm)
end Go.Idl
end

section
namespace Go.Idl
variable {T : Tbl}
structure LexFns (T : Tbl) : Prop where
  next : T.fn 31 = some C31
  skip : T.fn 50 = some C50
  peek : T.fn 51 = some C51
  goes : T.fn 52 = some C52
  sign : T.fn 54 = some C54
  word : T.fn 53 = some C53
  reserved : T.fn 62 = some C62
  Number : T.fn 39 = some C39
  worth : T.fn 58 = some C58
theorem signN_le (c d : Int) : signN c d ≤ 2 := by unfold signN; split <;> (try split) <;> (try split) <;> omega
theorem lenT_le {l : List UInt8} {c : UInt8} {r : List UInt8} (h : l = c :: r) (hd : clsI c.toNat = 4 → signN c.toNat (bt l 1) ≤ l.length) : lenT l c ≤ l.length := by
  unfold lenT
  have := runN_le l
  split
  · omega
  · split
    · omega
    · split
      · exact Nat.min_le_right _ _
      · split
        · exact hd (by assumption)
        · exact Nat.zero_le _
theorem sign_fits {l : List UInt8} {c : UInt8} {r : List UInt8} (h : l = c :: r) : signN c.toNat (bt l 1) ≤ l.length := by
  subst h
  have h2 := signN_le c.toNat (bt (c :: r) 1)
  match r with
  | d :: r => simp only [List.length_cons]; omega
  | [] =>
    have hb : bt [c] 1 = 0 := rfl
    rw [hb]
    simp only [List.length_singleton]
    unfold signN
    split
    · omega
    · split
      · rename_i h
        simp only [Bool.and_eq_true, Bool.or_eq_true, beq_iff_eq] at h
        omega
      · split
        · rename_i h
          simp only [Bool.and_eq_true, beq_iff_eq] at h
          exact absurd h.2 (by decide)
        · omega
theorem tok0 (t : Tok) (k : Int) : t.cells.set 0 (.int .i64 k) = ({ t with kind := k } : Tok).cells := rfl
theorem tok1 (t : Tok) (x : ByteArray) : t.cells.set 1 (.string x) = ({ t with text := x } : Tok).cells := rfl
theorem tok3 (t : Tok) (n : Nat) : t.cells.set 3 (.int .i64 n) = ({ t with upto := n } : Tok).cells := rfl
theorem tok4 (t : Tok) (k : Int) : t.cells.set 4 (.int .i64 k) = ({ t with num := k } : Tok).cells := rfl
theorem next_ok (F : LexFns T) {s : ByteArray} {a b z : Nat} {h : Heap} (hg : h.get b = some (.cells (scnC s a) true z)) (hb : b < h.next) (ha : a ≤ s.size) (hs : s.size < 4611686018427387904) :
    Wk T (.fn 31) [ptr b 0] h (fun o h' => KeptBut b h h' ∧ h'.get b = some (.cells (scnC s (nextL ((bs s).drop a) a).2.2) true z) ∧ o = .ret (.tuple #[.agg (nextL ((bs s).drop a) a).1.cells.toArray, .int .i64 (nextL ((bs s).drop a) a).2.1])) := by
  have hsz : s.size = (bs s).length := bs_size s
  refine Wk_fn F.next (by simp [C31]) ?_
  simp only [C31]
  refine Wc_seq (Wc_ops (Wo_alloc fun h1 n1 => (Wo_run (fun call => by simp only [go_sem, seval]; rfl) ?_)))
  show Wc T _ _ _
  have hg1 : h1.get b = some (.cells (scnC s a) true z) := by rw [n1.kept.get _ hb]; exact hg
  refine Wc_seq (Wc_ops (Wo_pre 1 (fun call => by simp only [go_sem, seval]; rfl) ?_))
  refine Wo_call ((skip_ok F.skip F.peek hg1 ha hs).mono ?_)
  rintro o h2 ⟨⟨r, rfl⟩, g2⟩
  show Wo T _ _ _
  refine Wo_nil ?_
  show Wc T _ _ _
  have hk := skipN_le ((bs s).drop a) false
  rw [List.length_drop] at hk
  have hl1 : ((bs s).drop a).drop (skipN ((bs s).drop a) false) = (bs s).drop (a + skipN ((bs s).drop a) false) := List.drop_drop ..
  rw [nextL, hl1]
  generalize ha1 : a + skipN ((bs s).drop a) false = a1 at g2 ⊢
  have ha1' : a1 ≤ s.size := by omega
  clear hk hl1 ha1
  generalize hres : nextA ((bs s).drop a1) a1 = res
  have g20 := g2.get
  have q0 : (scnC s a1)[0]? = some (.string s) := rfl
  have q1 : (scnC s a1)[1]? = some (.int .i64 a1) := rfl
  have h12 : h2.next = h1.next := g2.next
  refine Wc_seq (Wc_draw_still (by decide) ?_)
  refine (Wo_pre 8 (fun call => by simp only [go_sem, seval, g20, q1]; rfl) ?_)
  refine Wo_op (v := .agg (Tok.cells ⟨0, ⟨#[]⟩, a1, a1, 0⟩).toArray) (h' := h2) (by rfl) ?_
  refine Wo_op (v := ptr h2.next 0) (h' := h2.new (.cells z5 true 0)) rfl ?_
  refine Wo_store_new (cs := Tok.cells ⟨0, ⟨#[]⟩, a1, a1, 0⟩) (h := h2) (by first | rfl | assumption) (by first | rfl | assumption) rfl rfl fun h3 n3 => Wo_nil ⟨rfl, ?_⟩
  show Wc T _ _ _
  have hh1 : h.next < h1.next := by rw [n1.next]; exact Nat.lt_succ_self _
  have m3 : Mid b z h2.next s a1 h h3 (Tok.cells ⟨0, ⟨#[]⟩, a1, a1, 0⟩) := by
    refine ⟨(((n1.kept.but b).trans g2.but).kept n3.kept), ?_, ?_, n3.get, by rw [n3.next]; exact Nat.lt_succ_self _, hb, by omega⟩
    · rw [n3.kept.get _ (by omega)]; exact g20
    · rw [n3.kept.get _ (by omega), g2.but.get _ hh1 (by omega)]; exact n1.get
  generalize h2.next = tb at m3 ⊢
  clear n3 g20 g2 h12
  refine Wc_seq (Wc_ops (Wo_run (fun call => by simp only [go_sem, seval]; rfl) ?_))
  show Wc T _ _ _
  have fin : ∀ (e : Env) (h' : Heap) (t : Tok) (er : Int) (a' : Nat), nextA ((bs s).drop a1) a1 = (t, er, a') → e 2 = ptr h.next 0 → e 3 = .int .i64 er → Mid b z tb s a' h h' t.cells → (Ex.ret = .normal ∨ Ex.ret = .ret) ∧ some ([] : List Dfr) = some [] ∧ ∃ vs, resAll e (h'.set h.next (.cells t.cells true 0)) [.cell 2 (some 5), .tmp 3] = some vs ∧ KeptBut b h (h'.set h.next (.cells t.cells true 0)) ∧ (h'.set h.next (.cells t.cells true 0)).get b = some (.cells (scnC s res.2.2) true z) ∧ Out.ret (tup vs) = .ret (.tuple #[.agg res.1.cells.toArray, .int .i64 res.2.1]) := by
    intro e h' t er a' hn e2 e3 m
    rw [hres] at hn
    subst hn
    have hlow := m.low
    refine ⟨.inr rfl, rfl, [.agg t.cells.toArray, .int .i64 er], ?_, m.but.set _ (.inr (Nat.le_refl _)), by rw [set_get_ne' _ _ (by omega)]; exact m.scn, rfl⟩
    have hc : (h'.set h.next (.cells t.cells true 0)).cells h.next 0 5 = some t.cells := cells_all (set_get' _ _ _) rfl
    simp only [resAll, resV, e2, e3, ptr, hc, Option.map_some]
  have tell : ∀ (e : Env) (h' : Heap) (t : Tok) (er : Int) (a' : Nat) (x : Nat), x ≠ 2 → x ≠ 4 → nextA ((bs s).drop a1) a1 = (t, er, a') → e 2 = .pointer (some ⟨h.next, 0, none⟩) → e 4 = .pointer (some ⟨tb, 0, none⟩) → Mid b z tb s a' h h' t.cells →
      Wc T (.seq (.ops [⟨some x, .op (.load (some 5) (.t 4)), none⟩, ⟨none, .op (.store 5 (.t 2) (.t x)), none⟩, ⟨some 3, .op (.mov (.c (.int .i64 er))), none⟩]) .ret) ⟨e, h', some []⟩ (fun y s' => y = .ret ∧ (Ex.ret = .normal ∨ Ex.ret = .ret) ∧ s'.d = some [] ∧ ∃ vs, resAll s'.e s'.h [.cell 2 (some 5), .tmp 3] = some vs ∧ KeptBut b h s'.h ∧ s'.h.get b = some (.cells (scnC s res.2.2) true z) ∧ Out.ret (tup vs) = .ret (.tuple #[.agg res.1.cells.toArray, .int .i64 res.2.1])) := by
    intro e h' t er a' x x2 x4 hn e2 e4 m
    have hct : h'.cells tb 0 5 = some t.cells := cells_all m.tok rfl
    refine Wc_seq (Wc_ops (Wo_op (v := .agg t.cells.toArray) (h' := h') (by simp only [iop, ev, e4, hct, Option.map_some]) ?_))
    refine Wo_op (iop_store (b := h.next) (esz := 0) (cs := t.cells) (z := z5) (by simp only [dstUpd, upd]; rw [if_neg (Ne.symm x2)]; exact e2) (by simp only [dstUpd, upd, if_true]) rfl m.res rfl) ?_
    refine Wo_op (v := .int .i64 er) (h' := _) rfl (Wo_nil ?_)
    have := fin (dstUpd (dstUpd (dstUpd e (some x) (.agg t.cells.toArray)) none undef) (some 3) (.int .i64 er)) h' t er a' hn (by simp only [dstUpd, upd]; rw [if_neg (by decide), if_neg (Ne.symm x2)]; exact e2) (by simp only [dstUpd, upd, if_true]) m
    exact Wc_ret ⟨rfl, this⟩
  have tellK : ∀ {c : IC} {st : St} {Q : Ex → St → Prop}, Wc T c st (fun y s' => y = .ret ∧ (Ex.ret = .normal ∨ Ex.ret = .ret) ∧ s'.d = some [] ∧ ∃ vs, resAll s'.e s'.h [.cell 2 (some 5), .tmp 3] = some vs ∧ KeptBut b h s'.h ∧ s'.h.get b = some (.cells (scnC s res.2.2) true z) ∧ Out.ret (tup vs) = .ret (.tuple #[.agg res.1.cells.toArray, .int .i64 res.2.1])) →
      (∀ s', ((Ex.ret = .normal ∨ Ex.ret = .ret) ∧ s'.d = some [] ∧ ∃ vs, resAll s'.e s'.h [.cell 2 (some 5), .tmp 3] = some vs ∧ KeptBut b h s'.h ∧ s'.h.get b = some (.cells (scnC s res.2.2) true z) ∧ Out.ret (tup vs) = .ret (.tuple #[.agg res.1.cells.toArray, .int .i64 res.2.1])) → Q .ret s') → Wc T c st Q := by
    intro c st Q hc hq
    exact hc.mono fun y s' hs => by
      obtain ⟨hy, hs⟩ := hs
      subst hy
      exact hq s' hs
  have pb : ptr b 0 = .pointer (some ⟨b, 0, none⟩) := rfl
  have hscn := m3.scn
  cases hc : (bs s)[a1]? with
  | none =>
    have hge : s.size ≤ a1 := by
      rw [hsz]; exact List.getElem?_eq_none_iff.1 hc
    have ha : a1 = s.size := by omega
    have hdrop : (bs s).drop a1 = [] := List.drop_of_length_le (by omega)
    refine Wc_seq (Wc_seq (Wc_ops (Wo_pre 1 (fun call => by simp only [go_sem, seval]; rfl) ?_)))
    refine Wo_call (Wk_pure (peek_ok (a := a1) (k := 0) F.peek hscn (by omega)) ?_)
    have hcls : clsAt s (a1 + 0) = 0 := by rw [Nat.add_zero, clsAt, hc]
    rw [hcls]
    refine Wo_nil ?_
    show Wc T _ _ _
    refine Wc_block ?_
    refine Wc_case (by first | rfl | assumption) (fun y => absurd y (by decide)) (fun _ => ?_)
    refine Wc_case (by first | rfl | assumption) (fun y => absurd y (by decide)) (fun _ => ?_)
    refine Wc_case (by first | rfl | assumption) (fun y => absurd y (by decide)) (fun _ => ?_)
    refine Wc_case (by first | rfl | assumption) (fun y => absurd y (by decide)) (fun _ => ?_)
    have heq : (((a1 : Nat) : Int) == ((s.size : Nat) : Int)) = true := by rw [ha]; exact beq_self_eq_true _
    refine Wc_seq (Wc_draw_calm (by decide) (Wo_run (fun call => by simp only [go_sem, seval, hscn, q0, q1, heq]; rfl) ?_))
    refine ⟨rfl, ?_⟩
    show Wc T _ _ _
    refine Wc_cond true (by first | rfl | assumption) (fun _ => ?_) (fun e => by cases e)
    exact tellK (tell _ h3 ⟨0, ⟨#[]⟩, a1, a1, 0⟩ 0 a1 31 (by decide) (by decide) (by rw [hdrop]; rfl) (by first | rfl | assumption) (by first | rfl | assumption) m3) fun s' hs => hs
  | some c =>
    have hdrop := drop_at hc
    generalize (bs s).drop (a1 + 1) = r at hdrop
    have hl : ((bs s).drop a1).length = s.size - a1 := by rw [List.length_drop, hsz]
    have hn := lenT_le hdrop (fun _ => sign_fits hdrop)
    generalize hnn : lenT ((bs s).drop a1) c = n at hn
    have hna : a1 + n ≤ s.size := by omega
    have hlt : a1 < s.size := by rw [hsz]; exact (List.getElem?_eq_some_iff.1 hc).1
    have htx := ext_eq (n := n) hdrop
    generalize htt : s.extract a1 (a1 + n) = text at htx
    have hw : IntKind.i64.wrap (((a1 : Nat) : Int) + ((n : Nat) : Int)) = ((a1 + n : Nat) : Int) := by rw [wrap64] <;> omega
    have hb1 : bndV 0 s.size (.int .i64 ((a1 + n : Nat) : Int)) = some (a1 + n) := bnd_ok (Nat.zero_le _) hna
    have hb2 : bndV 0 (a1 + n) (.int .i64 ((a1 : Nat) : Int)) = some a1 := bnd_ok (Nat.zero_le _) (Nat.le_add_right _ _)
    have hcls : clsAt s (a1 + 0) = clsI c.toNat := by rw [Nat.add_zero, clsAt, hc]
    have hd : (bs s).drop a1 = c :: r := hdrop
    refine Wc_mid (fun s' => s'.d = some [] ∧ s'.e 0 = .pointer (some ⟨b, 0, none⟩) ∧ s'.e 2 = .pointer (some ⟨h.next, 0, none⟩) ∧ s'.e 4 = .pointer (some ⟨tb, 0, none⟩) ∧ s'.e 5 = .int .i64 ((n : Nat) : Int) ∧ Mid b z tb s a1 h s'.h (Tok.cells ⟨kindT c (wordB text), ⟨#[]⟩, a1, a1, 0⟩)) ?_ ?_
    · refine Wc_seq (Wc_ops (Wo_pre 1 (fun call => by simp only [go_sem, seval]; rfl) ?_))
      refine Wo_call (Wk_pure (peek_ok (a := a1) (k := 0) F.peek hscn (by omega)) ?_)
      rw [hcls]
      refine Wo_nil ?_
      show Wc T _ _ _
      have tl : 0 < (Tok.cells ⟨0, ⟨#[]⟩, a1, a1, 0⟩).length := by simp [Tok.cells]
      refine Wc_block ?_
      refine Wc_case (by first | rfl | assumption) (fun k2 => ?_) (fun k2 => ?_)
      · -- a name or a word
        have hn2 : n = runN ((bs s).drop a1) := by rw [← hnn, lenT, if_pos k2]
        refine Wc_seq (Wc_ops (Wo_pre 1 (fun call => by simp only [go_sem, seval]; rfl) ?_))
        refine Wo_call (Wk_pure (goes_ok F.goes F.peek hscn ha1' hs) ?_)
        rw [← hn2]
        refine (Wo_run (fun call => by simp only [go_sem, seval]; rfl) ?_)
        show Wc T _ _ _
        refine Wc_seq (Wc_ops (Wo_pre 1 (fun call => by simp only [go_sem, seval]; rfl) ?_))
        refine Wo_op (iop_store_at (k := 0) (v := .int .i64 1) (by first | rfl | assumption) rfl m3.tok tl) (Wo_nil ?_)
        show Wc T _ _ _
        rw [tok0]
        have m4 := m3.put (Tok.cells ⟨1, ⟨#[]⟩, a1, a1, 0⟩)
        have hscn4 := m4.scn
        refine Wc_seq (Wc_draw_still (by decide) ?_)
        refine (Wo_pre 15 (fun call => by simp only [go_sem, seval, hscn4, q0, q1, hw, bndO, hb1, hb2, htt]; rfl) ?_)
        refine Wo_call (Wk_kept (wordS_ok F.word F.reserved (s := text)) fun h5 k5 => ?_)
        refine Wo_nil ⟨rfl, ?_⟩
        show Wc T _ _ _
        have m5 := m4.keep k5
        cases hwb : wordB text
        · refine Wc_cond false (by simp only [go_sem, seval, hwb] <;> first | rfl | assumption | (symm; assumption)) (fun e => by cases e) (fun _ => Wc_skip ?_)
          refine ⟨rfl, (by first | rfl | assumption), (by first | rfl | assumption), (by first | rfl | assumption), (by first | rfl | assumption), ?_⟩
          rw [kindT, if_pos k2]; exact m5
        · refine Wc_cond true (by simp only [go_sem, seval, hwb] <;> first | rfl | assumption | (symm; assumption)) (fun _ => ?_) (fun e => by cases e)
          refine Wc_ops (Wo_pre 1 (fun call => by simp only [go_sem, seval]; rfl) ?_)
          refine Wo_op (iop_store_at (k := 0) (v := .int .i64 2) (by first | rfl | assumption) rfl m5.tok (by simp [Tok.cells])) (Wo_nil ?_)
          rw [tok0]
          refine ⟨rfl, (by first | rfl | assumption), (by first | rfl | assumption), (by first | rfl | assumption), (by first | rfl | assumption), ?_⟩
          rw [kindT, if_pos k2]; exact m5.put _
      refine Wc_case (by first | rfl | assumption) (fun k3 => ?_) (fun k3 => ?_)
      · have hn3 : n = runN ((bs s).drop a1) := by rw [← hnn, lenT, if_neg k2, if_pos k3]
        refine Wc_seq (Wc_ops (Wo_pre 1 (fun call => by simp only [go_sem, seval]; rfl) ?_))
        refine Wo_op (iop_store_at (k := 0) (v := .int .i64 4) (by first | rfl | assumption) rfl m3.tok tl) (Wo_nil ?_)
        show Wc T _ _ _
        rw [tok0]
        have m4 := m3.put (Tok.cells ⟨4, ⟨#[]⟩, a1, a1, 0⟩)
        refine Wc_ops (Wo_pre 1 (fun call => by simp only [go_sem, seval]; rfl) ?_)
        refine Wo_call (Wk_pure (goes_ok F.goes F.peek m4.scn ha1' hs) ?_)
        rw [← hn3]
        refine (Wo_run (fun call => by simp only [go_sem, seval]; rfl) ?_)
        refine ⟨rfl, (by first | rfl | assumption), (by first | rfl | assumption), (by first | rfl | assumption), (by first | rfl | assumption), ?_⟩
        rw [kindT, if_neg k2, if_pos k3]; exact m4
      refine Wc_case (by first | rfl | assumption) (fun k5 => ?_) (fun k5 => ?_)
      · have hn5 : n = min 3 (s.size - a1) := by rw [← hnn, lenT, if_neg k2, if_neg k3, if_pos k5, hl]
        refine Wc_seq (Wc_ops (Wo_pre 1 (fun call => by simp only [go_sem, seval]; rfl) ?_))
        refine Wo_op (iop_store_at (k := 0) (v := .int .i64 4) (by first | rfl | assumption) rfl m3.tok tl) (Wo_nil ?_)
        show Wc T _ _ _
        rw [tok0]
        have m4 := m3.put (Tok.cells ⟨4, ⟨#[]⟩, a1, a1, 0⟩)
        have hscn4 := m4.scn
        have hws : IntKind.i64.wrap (((s.size : Nat) : Int) - ((a1 : Nat) : Int)) = ((s.size - a1 : Nat) : Int) := by rw [wrap64] <;> omega
        have hmin : (if ((s.size - a1 : Nat) : Int) < 3 then Value.int .i64 ((s.size - a1 : Nat) : Int) else .int .i64 3) = .int .i64 ((n : Nat) : Int) := by
          rw [hn5]
          split
          · congr 1; omega
          · congr 1; omega
        refine Wc_draw_calm (by decide) ?_
        refine (Wo_pre 10 (fun call => by simp only [go_sem, seval, hscn4, q0, q1, hws]; rfl) ?_)
        refine Wo_op (v := .int .i64 ((n : Nat) : Int)) (h' := _) (by
          simp only [iop, ev, upd, dstUpd, reduceIte, Nat.reduceEqDiff, Bool.false_eq_true]
          rw [← hmin]
          split <;> rfl) ?_
        refine (Wo_run (fun call => by simp only [go_sem, seval]; rfl) ?_)
        refine ⟨rfl, rfl, (by first | rfl | assumption), (by first | rfl | assumption), (by first | rfl | assumption), (by first | rfl | assumption), ?_⟩
        rw [kindT, if_neg k2, if_neg k3, if_pos k5]; exact m4
      refine Wc_case (by first | rfl | assumption) (fun k4 => ?_) (fun k4 => ?_)
      · have hn4 : n = signN c.toNat (bt (bs s) (a1 + 1)) := by
          rw [← hnn, lenT, if_neg k2, if_neg k3, if_neg k5, if_pos k4]
          congr 1
          simp [bt, List.getD_eq_getElem?_getD]
        refine Wc_seq (Wc_ops (Wo_pre 1 (fun call => by simp only [go_sem, seval]; rfl) ?_))
        refine Wo_op (iop_store_at (k := 0) (v := .int .i64 3) (by first | rfl | assumption) rfl m3.tok tl) (Wo_nil ?_)
        show Wc T _ _ _
        rw [tok0]
        have m4 := m3.put (Tok.cells ⟨3, ⟨#[]⟩, a1, a1, 0⟩)
        refine Wc_ops (Wo_pre 1 (fun call => by simp only [go_sem, seval]; rfl) ?_)
        refine Wo_call (Wk_pure (sign_ok F.sign m4.scn hc hs) ?_)
        rw [← hn4]
        refine (Wo_run (fun call => by simp only [go_sem, seval]; rfl) ?_)
        refine ⟨rfl, (by first | rfl | assumption), (by first | rfl | assumption), (by first | rfl | assumption), (by first | rfl | assumption), ?_⟩
        rw [kindT, if_neg k2, if_neg k3, if_neg k5, if_pos k4]; exact m4
      · have hn0 : n = 0 := by rw [← hnn, lenT, if_neg k2, if_neg k3, if_neg k5, if_neg k4]
        have hne : (((a1 : Nat) : Int) == ((s.size : Nat) : Int)) = false := beq_eq_false_iff_ne.2 (by omega)
        refine Wc_seq (Wc_draw_calm (by decide) (Wo_run (fun call => by simp only [go_sem, seval, hscn, q0, q1, hne]; rfl) ?_))
        refine ⟨rfl, ?_⟩
        show Wc T _ _ _
        refine Wc_cond false (by first | rfl | assumption) (fun e => by cases e) (fun _ => Wc_skip ?_)
        refine ⟨rfl, (by first | rfl | assumption), (by first | rfl | assumption), (by first | rfl | assumption), ?_, ?_⟩
        · rw [hn0]; simp only [upd, dstUpd, reduceIte, Nat.reduceEqDiff]; rfl
        · rw [kindT, if_neg k2, if_neg k3, if_neg k5, if_neg k4]; exact m3
    rintro ⟨e, h4, d⟩ ⟨hd4, e0, e2, e4, e5, m4⟩
    simp only at hd4 e0 e2 e4 e5 m4
    rw [hd4]
    generalize hkd : kindT c (wordB text) = kind at m4
    have hscn4 := m4.scn
    have hnx : nextA ((bs s).drop a1) a1 = if kind = 4 ∧ (numR (bs text)).2 = false then (⟨4, text, a1, a1, 0⟩, 41, a1) else if n = 0 then (⟨kind, text, a1, a1, if kind = 4 then (numR (bs text)).1 else 0⟩, 40, a1) else (⟨kind, text, a1, a1 + n, if kind = 4 then (numR (bs text)).1 else 0⟩, 0, a1 + n) := by
      rw [hd] at hnn ⊢
      simp only [nextA, hnn, ← htx, hkd]
    refine Wc_seq (Wc_draw_still (by decide) ?_)
    refine (Wo_pre 16 (fun call => by simp only [go_sem, seval, e0, hscn4, q0, q1, e4, e5, hw, bndO, hb1, hb2, htt]; rfl) ?_)
    refine Wo_op (iop_store_at (k := 1) (v := .string text) (by first | rfl | assumption) (by simp only [ev, upd, dstUpd, reduceIte, Nat.reduceEqDiff]; rfl) m4.tok (by simp [Tok.cells])) (Wo_nil ⟨rfl, ?_⟩)
    show Wc T _ _ _
    rw [tok1]
    have m5 := m4.put (Tok.cells ⟨kind, text, a1, a1, 0⟩)
    generalize h4.set tb (.cells (Tok.cells ⟨kind, text, a1, a1, 0⟩) true 0) = h5 at m5 ⊢
    have ht5 := m5.tok
    refine Wc_mid (fun s' => s'.d = some [] ∧ s'.e 0 = .pointer (some ⟨b, 0, none⟩) ∧ s'.e 2 = .pointer (some ⟨h.next, 0, none⟩) ∧ s'.e 4 = .pointer (some ⟨tb, 0, none⟩) ∧ s'.e 5 = .int .i64 ((n : Nat) : Int) ∧ ¬ (kind = 4 ∧ (numR (bs text)).2 = false) ∧ Mid b z tb s a1 h s'.h (Tok.cells ⟨kind, text, a1, a1, if kind = 4 then (numR (bs text)).1 else 0⟩)) ?_ ?_
    · by_cases k4 : kind = 4
      case neg =>
        have hk : (kind == 4) = false := beq_eq_false_iff_ne.2 k4
        refine Wc_seq (Wc_ops (Wo_run (fun call => by simp only [go_sem, seval, e4, ht5, Tok.cells, hk]; rfl) ?_))
        show Wc T _ _ _
        refine Wc_cond false (by first | rfl | assumption) (fun e => by cases e) (fun _ => Wc_skip ?_)
        refine ⟨rfl, (by simp only [go_sem, seval, e0] <;> first | rfl | assumption | (symm; assumption)), (by simp only [go_sem, seval, e2] <;> first | rfl | assumption | (symm; assumption)), (by simp only [go_sem, seval, e4] <;> first | rfl | assumption | (symm; assumption)), (by simp only [go_sem, seval, e5] <;> first | rfl | assumption | (symm; assumption)), fun h => k4 h.1, ?_⟩
        rw [if_neg k4]; exact m5
      have hk : (kind == 4) = true := beq_iff_eq.2 k4
      refine Wc_seq (Wc_ops (Wo_run (fun call => by simp only [go_sem, seval, e4, ht5, Tok.cells, hk]; rfl) ?_))
      show Wc T _ _ _
      refine Wc_cond true (by first | rfl | assumption) (fun _ => ?_) (fun e => by cases e)
      refine Wc_seq (Wc_ops (Wo_pre 2 (fun call => by simp only [go_sem, seval, e4, ht5, Tok.cells]; rfl) ?_))
      refine Wo_call (Wk_pure (numberS_ok F.Number F.worth (s := text) (by rw [← htt, ByteArray.size_extract]; omega)) ?_)
      refine (Wo_run (fun call => by simp only [go_sem, seval, numV]; rfl) ?_)
      show Wc T _ _ _
      cases hnum : (numR (bs text)).2
      · refine Wc_seq (Wc_seq (Wc_ops (Wo_run (fun call => by simp only [go_sem, seval, hnum]; rfl) ?_)))
        show Wc T _ _ _
        refine Wc_cond true (by first | rfl | assumption) (fun _ => ?_) (fun e => by cases e)
        refine tellK (tell _ h5 ⟨4, text, a1, a1, 0⟩ 41 a1 105 (by decide) (by decide) (by rw [hnx, if_pos ⟨k4, hnum⟩]) (by simp only [go_sem, seval, e2] <;> first | rfl | assumption | (symm; assumption)) (by simp only [go_sem, seval, e4] <;> first | rfl | assumption | (symm; assumption)) (by rw [← k4]; exact m5)) fun s' hs => hs
      refine Wc_seq (Wc_seq (Wc_ops (Wo_run (fun call => by simp only [go_sem, seval, hnum]; rfl) ?_)))
      show Wc T _ _ _
      refine Wc_cond false (by first | rfl | assumption) (fun e => by cases e) (fun _ => Wc_skip ?_)
      show Wc T _ _ _
      refine Wc_ops (Wo_pre 2 (fun call => by simp only [go_sem, seval, e4]; rfl) ?_)
      refine Wo_op (iop_store_at (k := 4) (v := .int .i64 (numR (bs text)).1) (by first | rfl | assumption) (by simp only [ev, upd, dstUpd, reduceIte, Nat.reduceEqDiff]; rfl) m5.tok (by simp [Tok.cells])) (Wo_nil ?_)
      rw [tok4]
      refine ⟨rfl, (by simp only [go_sem, seval, e0] <;> first | rfl | assumption | (symm; assumption)), (by simp only [go_sem, seval, e2] <;> first | rfl | assumption | (symm; assumption)), (by simp only [go_sem, seval, e4] <;> first | rfl | assumption | (symm; assumption)), (by simp only [go_sem, seval, e5] <;> first | rfl | assumption | (symm; assumption)), (fun h => by cases h.2), ?_⟩
      rw [if_pos k4]; exact m5.put _
    rintro ⟨e', h6, d⟩ ⟨hd6, f0, f2, f4, f5, hok, m6⟩
    simp only at hd6 f0 f2 f4 f5 m6
    rw [hd6]
    rw [if_neg hok] at hnx
    generalize hnm : (if kind = 4 then (numR (bs text)).1 else 0) = num at hnx m6
    by_cases hn0 : n = 0
    · have hz : (((n : Nat) : Int) == 0) = true := by rw [hn0]; rfl
      refine Wc_seq (Wc_seq (Wc_ops (Wo_run (fun call => by simp only [go_sem, seval, f5, hz]; rfl) ?_)))
      show Wc T _ _ _
      refine Wc_cond true (by first | rfl | assumption) (fun _ => ?_) (fun e => by cases e)
      exact tellK (tell _ h6 ⟨kind, text, a1, a1, num⟩ 40 a1 110 (by decide) (by decide) (by rw [hnx, if_pos hn0]) (by simp only [go_sem, seval, f2] <;> first | rfl | assumption | (symm; assumption)) (by simp only [go_sem, seval, f4] <;> first | rfl | assumption | (symm; assumption)) m6) fun s' hs => hs
    have hz : (((n : Nat) : Int) == 0) = false := beq_eq_false_iff_ne.2 (by omega)
    rw [if_neg hn0] at hnx
    have hscn6 := m6.scn
    refine Wc_seq (Wc_seq (Wc_ops (Wo_run (fun call => by simp only [go_sem, seval, f5, hz]; rfl) ?_)))
    show Wc T _ _ _
    refine Wc_cond false (by first | rfl | assumption) (fun e => by cases e) (fun _ => Wc_skip ?_)
    show Wc T _ _ _
    refine Wc_seq (Wc_ops (Wo_pre 8 (fun call => by simp only [go_sem, seval, f0, f5, hscn6, q1, hw]; rfl) ?_))
    refine Wo_op (iop_store_at (k := 1) (v := .int .i64 ((a1 + n : Nat) : Int)) (by first | rfl | assumption) (by simp only [ev, upd, dstUpd, reduceIte, Nat.reduceEqDiff]; rfl) hscn6 (scn_len _ _)) (Wo_nil ?_)
    show Wc T _ _ _
    have hset : (scnC s a1).set 1 (.int .i64 ((a1 + n : Nat) : Int)) = scnC s (a1 + n) := rfl
    rw [hset]
    have m7 := m6.go (a1 + n)
    have hscn7 := m7.scn
    have q1' : (scnC s (a1 + n))[1]? = some (.int .i64 ((a1 + n : Nat) : Int)) := rfl
    refine Wc_seq (Wc_ops (Wo_pre 5 (fun call => by simp only [go_sem, seval, f0, f4, hscn7, q1']; rfl) ?_))
    refine Wo_op (iop_store_at (k := 3) (v := .int .i64 ((a1 + n : Nat) : Int)) (by first | rfl | assumption) (by simp only [ev, upd, dstUpd, reduceIte, Nat.reduceEqDiff]; rfl) m7.tok (by simp [Tok.cells])) (Wo_nil ?_)
    show Wc T _ _ _
    rw [tok3]
    exact tellK (tell _ _ ⟨kind, text, a1, a1 + n, num⟩ 0 (a1 + n) 124 (by decide) (by decide) hnx (by simp only [go_sem, seval, f2] <;> first | rfl | assumption | (symm; assumption)) (by simp only [go_sem, seval, f4] <;> first | rfl | assumption | (symm; assumption)) (m7.put _)) fun s' hs => hs
end Go.Idl
end

section
namespace Go.Idl
variable {T : Tbl}
theorem tok_len (t : Tok) : t.cells.length = 5 := rfl
def scanL : Nat → List UInt8 → Nat → List Tok → List Tok × Nat × Int
  | 0, _, _, _ => ([], 0, 0)
  | f + 1, l, a, acc =>
    let r := nextL l a
    if r.2.1 = 0 then (if r.1.kind = 0 then (acc ++ [r.1], 0, 0) else scanL f (l.drop (r.2.2 - a)) r.2.2 (acc ++ [r.1])) else ([], r.1.frm, r.2.1)
def scanS (s : ByteArray) : List Tok × Nat × Int := if 200000 < s.size then ([], 0, 2) else scanL (s.size + 1) (bs s) 0 []
theorem nextL_go {l : List UInt8} {a : Nat} (h : (nextL l a).2.1 = 0) (hk : (nextL l a).1.kind ≠ 0) : a < (nextL l a).2.2 ∧ (nextL l a).2.2 ≤ a + l.length := by
  have hs := skipN_le l false
  rw [nextL] at h hk ⊢
  generalize hl : l.drop (skipN l false) = l1 at h hk ⊢
  have hl1 : l1.length = l.length - skipN l false := by rw [← hl, List.length_drop]
  cases l1 with
  | nil => exact absurd rfl hk
  | cons c r =>
    have hn := lenT_le (l := c :: r) rfl (fun _ => sign_fits rfl)
    rw [hl1] at hn
    have hpos : 0 < l.length - skipN l false := by rw [← hl1]; simp
    simp only [nextA] at h ⊢
    split at h
    · cases h
    · rename_i h1
      rw [if_neg h1]
      split at h
      · cases h
      · rename_i h2
        rw [if_neg h2]
        simp only
        omega
theorem scan_ok (F : LexFns T) (hT : T.fn 16 = some C16) (hc : ∀ (h : Heap) (K : Out → Heap → Prop), K (.ret clsV) h → Wk T (.fn 30) [] h K) {s : ByteArray} {h : Heap} (hs : s.size < 4611686018427387904) :
    Wk T (.fn 16) [.string s] h (fun o h' => Kept h h' ∧ ∃ v, o = .ret (.tuple #[v, .int .i64 (scanS s).2.1, .int .i64 (scanS s).2.2]) ∧ ownL Tok.cells 5 h.next h' v (scanS s).1) := by
  refine Wk_fn hT (by simp [C16]) ?_
  simp only [C16]
  generalize hres : scanS s = res
  have fin : ∀ (e : Env) (h' : Heap) (v : Value) (x : Ex), (x = .normal ∨ x = .ret) → Kept h h' → e 2 = v → e 3 = .int .i64 res.2.1 → e 4 = .int .i64 res.2.2 → ownL Tok.cells 5 h.next h' v res.1 → (x = .normal ∨ x = .ret) ∧ some ([] : List Dfr) = some [] ∧ ∃ vs, resAll e h' [.tmp 2, .tmp 3, .tmp 4] = some vs ∧ Kept h h' ∧ ∃ v, Out.ret (tup vs) = .ret (.tuple #[v, .int .i64 res.2.1, .int .i64 res.2.2]) ∧ ownL Tok.cells 5 h.next h' v res.1 := fun e h' v x hx hk e2 e3 e4 ho =>
    ⟨hx, rfl, [v, .int .i64 res.2.1, .int .i64 res.2.2], by simp only [resAll, resV, e2, e3, e4], hk, v, rfl, ho⟩
  refine Wc_seq (Wc_ops (Wo_run (fun call => by simp only [go_sem, seval]; rfl) ?_))
  show Wc T _ _ _
  by_cases hlong : 200000 < s.size
  · have h1 : (200000 : Int) < ((s.size : Nat) : Int) := by omega
    rw [scanS, if_pos hlong] at hres
    subst hres
    refine Wc_seq (Wc_seq (Wc_ops (Wo_run (fun call => by simp only [go_sem, seval, h1]; rfl) ?_)))
    show Wc T _ _ _
    refine Wc_cond true (by first | rfl | assumption) (fun _ => ?_) (fun e => by cases e)
    refine Wc_seq (Wc_ops (Wo_run (fun call => by simp only [go_sem, seval]; rfl) ?_))
    exact Wc_ret (fin _ _ (.slice none 0 0) _ (.inr rfl) (.refl _) (by first | rfl | assumption) (by first | rfl | assumption) (by first | rfl | assumption) (.inl ⟨rfl, rfl⟩))
  have h1 : ¬ (200000 : Int) < ((s.size : Nat) : Int) := by omega
  rw [scanS, if_neg hlong] at hres
  refine Wc_seq (Wc_seq (Wc_ops (Wo_run (fun call => by simp only [go_sem, seval, h1]; rfl) ?_)))
  show Wc T _ _ _
  refine Wc_cond false (by first | rfl | assumption) (fun e => by cases e) (fun _ => Wc_skip ?_)
  show Wc T _ _ _
  refine Wc_seq (Wc_ops (Wo_pre 1 (fun call => by simp only [go_sem, seval]; rfl) ?_))
  refine Wo_call (hc _ _ ?_)
  show Wo T _ _ _
  refine Wo_op (v := .agg (scnC s 0).toArray) (h' := h) ?_ ?_
  · have := build_scn s
    simp only [iop, evps, List.map_cons, List.map_nil, ev, upd, dstUpd, args0, List.getD_cons_zero, reduceIte, Nat.reduceEqDiff]
    rw [show ([(0, 1, Value.string s), (2, 256, clsV)] : List (Nat × Nat × Value)) = [(0, 1, .string s), (2, 256, clsV)] from rfl]
    exact congrArg (Option.map _) this
  refine Wo_box (cs := scnC s 0) rfl fun h2 n2 => ?_
  refine (Wo_run (fun call => by simp only [go_sem, seval]; rfl) ?_)
  show Wc T _ _ _
  refine Wc_seq (Wc_ops (Wo_run (fun call => by simp only [go_sem, seval]; rfl) ?_))
  show Wc T _ _ _
  have hsz : s.size = (bs s).length := bs_size s
  refine Wc_block (Wc_loopF (fun e h' d => d = some [] ∧ Kept h h' ∧ h.next < h'.next ∧ ∃ a acc f, a ≤ s.size ∧ s.size - a < f ∧ acc.length ≤ a ∧ h'.get h.next = some (.cells (scnC s a) true 0) ∧ scanL f ((bs s).drop a) a acc = res ∧ ownL Tok.cells 5 (h.next + 1) h' (e 6) acc) (fun _ h' => farH h.next s h') ?_ ?_)
  · refine ⟨rfl, n2.kept, by show h.next < h2.next; rw [n2.next]; exact Nat.lt_succ_self _, 0, [], s.size + 1, Nat.zero_le _, by omega, Nat.le_refl _, n2.get, hres, .inl ⟨rfl, (by first | rfl | assumption)⟩⟩
  rintro e h3 d ⟨rfl, hk, hlt, a, acc, f, ha, hf, hacc, hg, hsc, hown⟩ hfr
  have e5 : e 5 = .pointer (some ⟨h.next, 0, none⟩) := ((hfr 5 (by decide)).trans (by first | rfl | assumption | (symm; assumption)))
  obtain ⟨f, rfl⟩ : ∃ g, f = g + 1 := ⟨f - 1, by omega⟩
  have hgo := nextL_go (l := (bs s).drop a) (a := a)
  rw [List.length_drop, ← hsz] at hgo
  rw [scanL] at hsc
  have far3 : farH h.next s h3 = s.size - a := by simp [farH, hg, scnC]
  have pp : ptr h.next 0 = .pointer (some ⟨h.next, 0, none⟩) := rfl
  refine Wc_block (Wc_seq (Wc_ops (Wo_pre 1 (fun call => by simp only [go_sem, seval, e5]; rfl) ?_)))
  refine Wo_call ((next_ok F hg hlt ha hs).mono ?_)
  generalize nextL ((bs s).drop a) a = r at hsc hgo ⊢
  obtain ⟨t, er, a'⟩ := r
  rintro o h4 ⟨k4, g4, rfl⟩
  simp only at hsc hgo g4
  show Wo T _ _ _
  refine (Wo_pre 4 (fun call => by simp only [go_sem, seval]; rfl) ?_)
  refine Wo_store_new (cs := t.cells) (h := h4) (by first | rfl | assumption) (by first | rfl | assumption) rfl rfl fun h5 n5 => ?_
  refine (Wo_run (fun call => by simp only [go_sem, seval]; rfl) ?_)
  show Wc T _ _ _
  have k34 : Kept h h5 := ⟨Nat.le_trans hk.next (Nat.le_trans k4.next n5.kept.next), fun b hb => by
    have := hk.next
    rw [n5.kept.get _ (by have := k4.next; omega), k4.get _ (by omega) (by omega), hk.get _ hb]⟩
  have h4n : h3.next ≤ h4.next := k4.next
  have ht5 := n5.get
  have hct : h5.cells h4.next 0 5 = some t.cells := cells_all ht5 rfl
  have g5 : h5.get h.next = some (.cells (scnC s a') true 0) := by rw [n5.kept.get _ (by omega)]; exact g4
  by_cases her : er = 0
  case neg =>
    have hb : (er != 0) = true := by simp [her]
    rw [if_neg her] at hsc
    subst hsc
    refine Wc_seq (Wc_seq (Wc_ops (Wo_run (fun call => by simp only [go_sem, seval, hb]; rfl) ?_)))
    show Wc T _ _ _
    refine Wc_cond true (by first | rfl | assumption) (fun _ => ?_) (fun e => by cases e)
    refine Wc_seq (Wc_draw_calm (by decide) (Wo_run (fun call => by simp only [go_sem, seval, ht5, Tok.cells]; rfl) ?_))
    refine ⟨rfl, ?_⟩
    exact Wc_ret (fin _ _ (.slice none 0 0) _ (.inr rfl) k34 (by first | rfl | assumption) (by first | rfl | assumption) (by first | rfl | assumption) (.inl ⟨rfl, rfl⟩))
  have hb : (er != 0) = false := by simp [her]
  rw [if_pos her] at hsc
  refine Wc_seq (Wc_seq (Wc_ops (Wo_run (fun call => by simp only [go_sem, seval, hb]; rfl) ?_)))
  show Wc T _ _ _
  refine Wc_cond false (by first | rfl | assumption) (fun e => by cases e) (fun _ => Wc_skip ?_)
  show Wc T _ _ _
  have own5 : ownL Tok.cells 5 (h.next + 1) h5 (e 6) acc := hown.keep (by have := n5.kept.next; omega) fun b h1 h2 => by
    rw [n5.kept.get _ (by omega), k4.get _ h2 (by omega)]
  refine Wc_seq (Wc_ops (Wo_pre 2 (fun call => by simp only [go_sem, seval, hct]; rfl) ?_))
  refine Wo_new (v := .slice (some ⟨h5.next, 0, none⟩) 1 1) (B := .cells t.cells true 5) (by rfl) fun h6 n6 => ?_
  have hel : elemsOf h6 5 (.slice (some ⟨h5.next, 0, none⟩) 1 1) = some ([t].length, [t].flatMap Tok.cells) := by
    simp only [elemsOf, Nat.one_ne_zero, if_false, Heap.cells, n6.get]; rfl
  have own6 := own5.kept n6.kept
  have h56 : h5.next ≤ h6.next := n6.kept.next
  have h45 : h4.next < h5.next := by rw [n5.next]; exact Nat.lt_succ_self _
  obtain ⟨v', h7, happ, hbs, own7⟩ := own6.append tok_len (bytes := 48) (x := .slice (some ⟨h5.next, 0, none⟩) 1 1) (m := [t]) (by omega) hel (by simp; omega)
  refine Wo_op (v := v') (h' := h7) (by simp only [iop, ev, upd, dstUpd, reduceIte, Nat.reduceEqDiff]; exact happ) ?_
  refine (Wo_run (fun call => by simp only [go_sem, seval]; rfl) ?_)
  show Wc T _ _ _
  have lo : ∀ b, b < h.next + 1 → h7.get b = h5.get b := fun b hb => by
    rw [own6.beside hbs hb (by omega), n6.kept.get _ (by omega)]
  have k7 : Kept h h7 := ⟨Nat.le_trans k34.next (Nat.le_trans h56 hbs.next), fun b hb => by rw [lo b (by omega), k34.get b hb]⟩
  have hct7 : h7.get h4.next = some (.cells t.cells true 0) := by
    have : h7.get h4.next = h6.get h4.next := by
      refine hbs.get _ (by omega) ?_
      intro p n c hv
      rcases own6 with ⟨_, e1⟩ | ⟨k, e1, e2, e3, e4⟩
      · rw [e1] at hv; cases hv
      · rw [e3] at hv
        cases hv
        rintro rfl
        rcases own5 with ⟨_, e5'⟩ | ⟨k', q1, q2, q3, q4⟩
        · rw [e5'] at e3; cases e3
        · rw [q3] at e3
          simp only [Value.slice.injEq, Option.some.injEq, Addr.mk.injEq, true_and] at e3
          have hkk := e3.1.1
          subst hkk
          rw [ht5] at q4
          simp only [Option.some.injEq, Blk.cells.injEq] at q4
          exact absurd q4.2.2 (by decide)
    rw [this, n6.kept.get _ (by omega)]; exact ht5
  refine Wc_seq (Wc_ops (Wo_run (fun call => by simp only [go_sem, seval, hct7, Tok.cells]; rfl) ?_))
  show Wc T _ _ _
  by_cases hk0 : t.kind = 0
  · have hz : (t.kind == 0) = true := beq_iff_eq.2 hk0
    rw [if_pos hk0] at hsc
    subst hsc
    refine Wc_cond true (by simp only [go_sem, seval, hz] <;> first | rfl | assumption | (symm; assumption)) (fun _ => ?_) (fun e => by cases e)
    refine Wc_seq (Wc_ops (Wo_run (fun call => by simp only [go_sem, seval]; rfl) ?_))
    exact Wc_ret (fin _ _ v' _ (.inr rfl) k7 (by first | rfl | assumption) (by first | rfl | assumption) (by first | rfl | assumption) (own7.mono (by omega)))
  · have hz : (t.kind == 0) = false := beq_eq_false_iff_ne.2 hk0
    rw [if_neg hk0] at hsc
    obtain ⟨g1, g2⟩ := hgo her hk0
    have g7 : h7.get h.next = some (.cells (scnC s a') true 0) := by rw [lo _ (by omega)]; exact g5
    have hdd : ((bs s).drop a).drop (a' - a) = (bs s).drop a' := by rw [List.drop_drop]; congr 1; omega
    rw [hdd] at hsc
    refine Wc_cond false (by simp only [go_sem, seval, hz] <;> first | rfl | assumption | (symm; assumption)) (fun e => by cases e) (fun _ => Wc_skip ?_)
    refine ⟨⟨rfl, k7, ?_, a', acc ++ [t], f, by omega, by omega, by rw [List.length_append, List.length_singleton]; omega, g7, hsc, ?_⟩, ?_⟩
    · show h.next < h7.next
      have := hbs.next; omega
    · have : (upd (fun _ => undef) 0 undef : Env) = upd (fun _ => undef) 0 undef := rfl
      simpa only [upd, dstUpd, reduceIte, Nat.reduceEqDiff] using own7
    · rw [far3]
      show farH h.next s h7 < _
      have : farH h.next s h7 = s.size - a' := by simp [farH, g7, scnC]
      rw [this]; omega
end Go.Idl
end

section
namespace Go.Idl
def C21L0 : IC := (.seq (.ops [⟨some 23, .op (.bin .lss (.t 22) (.t 21)), none⟩]) (.seq (.cond (.t 23) .skip (.exit 2)) (.seq (.block 3 (.seq (.ops [⟨some 24, .op (.iaddr (.sl 1) (.t 20) (.t 22)), none⟩, ⟨some 25, .op (.load none (.t 24)), none⟩, ⟨some 7, .op (.mov (.t 25)), none⟩]) (.seq (.draw [⟨some 26, .op (.mov (.t 7)), none⟩, ⟨some 27, .op (.bin .geq (.t 26) (.c (.int .i64 0))), none⟩, ⟨some 28, .op (.mov (.t 27)), none⟩, ⟨some 29, .op (.mov (.t 7)), (some (28, true))⟩, ⟨some 30, .op (.mov (.t 4)), (some (28, true))⟩, ⟨some 31, .op (.bin .lss (.t 29) (.t 30)), (some (28, true))⟩, ⟨some 32, .op (.pick (.t 28) (.t 31) (.c (.bool false))), none⟩, ⟨some 33, .op (.mov (.t 32)), none⟩, ⟨some 34, .op (.mov (.t 3)), (some (33, true))⟩, ⟨some 35, .op (.mov (.t 7)), (some (33, true))⟩, ⟨some 36, .op (.iaddr (.sl 1) (.t 34) (.t 35)), (some (33, true))⟩, ⟨some 37, .op (.load none (.t 36)), (some (33, true))⟩, ⟨some 38, .op (.mov (.t 3)), (some (33, true))⟩, ⟨some 39, .op (.mov (.t 4)), (some (33, true))⟩, ⟨some 40, .op (.iaddr (.sl 1) (.t 38) (.t 39)), (some (33, true))⟩, ⟨some 41, .op (.load none (.t 40)), (some (33, true))⟩, ⟨some 42, .op (.bin .gtr (.t 37) (.t 41)), (some (33, true))⟩, ⟨some 43, .op (.pick (.t 33) (.t 42) (.c (.bool false))), none⟩] [[], [0], [1, 0], [2, 1, 0], [2, 1, 0], [2, 1, 0, 4, 3], [5, 2, 1, 0, 4, 3], [2, 1, 0, 6, 5, 4, 3], [7, 2, 1, 0, 6, 5, 4, 3], [7, 2, 1, 0, 6, 5, 4, 3], [7, 2, 1, 0, 6, 5, 4, 3, 9, 8], [7, 2, 1, 0, 6, 5, 4, 3, 10, 9, 8], [7, 2, 1, 0, 6, 5, 4, 3], [7, 2, 1, 0, 6, 5, 4, 3], [7, 2, 1, 0, 6, 5, 4, 3, 13, 12], [7, 2, 1, 0, 6, 5, 4, 3, 14, 13, 12], [7, 2, 1, 0, 6, 5, 4, 3, 15, 14, 13, 12, 11, 10, 9, 8], [16, 7, 2, 1, 0, 6, 5, 4, 3, 15, 14, 13, 12, 11, 10, 9, 8]]) (.cond (.t 43) (.ops [⟨some 44, .op (.mov (.t 3)), none⟩, ⟨some 45, .op (.mov (.t 4)), none⟩, ⟨some 46, .op (.mov (.t 3)), none⟩, ⟨some 47, .op (.mov (.t 7)), none⟩, ⟨some 48, .op (.iaddr (.sl 1) (.t 46) (.t 47)), none⟩, ⟨some 49, .op (.load none (.t 48)), none⟩, ⟨some 50, .op (.iaddr (.sl 1) (.t 44) (.t 45)), none⟩, ⟨none, .op (.store 1 (.t 50) (.t 49)), none⟩]) .skip)))) (.ops [⟨some 51, .op (.bin .add (.t 22) (.c (.int .i64 1))), none⟩, ⟨some 22, .op (.mov (.t 51)), none⟩])))) def C21L1 : IC := (.seq (.ops [⟨some 15, .op (.bin .lss (.t 14) (.t 13)), none⟩]) (.seq (.cond (.t 15) .skip (.exit 0)) (.seq (.block 1 (.seq (.ops [⟨some 16, .op (.mov (.t 14)), none⟩, ⟨some 17, .op (.iaddr (.sl 4) (.t 12) (.t 14)), none⟩, ⟨some 18, .op (.load (some 4) (.t 17)), none⟩, ⟨some 5, .op (.alloc [.int .i64 0, .string ⟨#[]⟩, (.slice none 0 0), .int .i64 0]), none⟩, ⟨some 4, .op (.mov (.t 16)), none⟩, ⟨none, .op (.store 4 (.t 5) (.t 18)), none⟩]) (.seq (.seq (.ops [⟨some 19, .op (.faddr 2 (.t 5)), none⟩, ⟨some 20, .op (.load none (.t 19)), none⟩, ⟨some 21, .op (.len .sl (.t 20)), none⟩, ⟨some 22, .op (.mov (.c (.int .i64 0))), none⟩]) (.block 2 (.loop C21L0))) (.ops [⟨some 52, .op (.mov (.t 3)), none⟩, ⟨some 53, .op (.mov (.t 4)), none⟩, ⟨some 54, .op (.iaddr (.sl 1) (.t 52) (.t 53)), none⟩, ⟨some 55, .op (.load none (.t 54)), none⟩, ⟨some 56, .op (.bin .add (.t 55) (.c (.int .i64 1))), none⟩, ⟨some 57, .op (.iaddr (.sl 1) (.t 52) (.t 53)), none⟩, ⟨none, .op (.store 1 (.t 57) (.t 56)), none⟩])))) (.ops [⟨some 58, .op (.bin .add (.t 14) (.c (.int .i64 1))), none⟩, ⟨some 14, .op (.mov (.t 58)), none⟩])))) def C21 : IFn := ⟨66, (.seq (.ops [⟨some 2, .op (.mov (.c (.int .i64 0))), none⟩]) (.seq (.ops [⟨some 8, .op (.mov (.t 0)), none⟩, ⟨some 9, .op (.len .sl (.t 8)), none⟩, ⟨some 10, .op (.bin .add (.t 9) (.c (.int .i64 1))), none⟩, ⟨some 11, .op (.mkslice 1 8 [.int .i64 0] (.t 10) (.t 10)), none⟩, ⟨some 3, .op (.mov (.t 11)), none⟩]) (.seq (.seq (.ops [⟨some 12, .op (.mov (.t 0)), none⟩, ⟨some 13, .op (.len .sl (.t 12)), none⟩, ⟨some 14, .op (.mov (.c (.int .i64 0))), none⟩]) (.block 0 (.loop C21L1))) (.seq (.ops [⟨some 59, .op (.mov (.t 3)), none⟩, ⟨some 60, .op (.mov (.t 0)), none⟩, ⟨some 61, .op (.len .sl (.t 60)), none⟩, ⟨some 62, .op (.bin .sub (.t 61) (.c (.int .i64 1))), none⟩, ⟨some 63, .op (.minmax true (.t 62) (.c (.int .i64 0))), none⟩, ⟨some 64, .op (.iaddr (.sl 1) (.t 59) (.t 63)), none⟩, ⟨some 65, .op (.load none (.t 64)), none⟩, ⟨some 2, .op (.mov (.t 65)), none⟩]) .ret)))), [.tmp 2]⟩
end Go.Idl
end

section
namespace Go.Idl
structure Nd where
  kind : Int
  text : ByteArray
  kids : List Int
  kv : Value
  pos : Int
def Nd.cells (x : Nd) : List Value := [.int .i64 x.kind, .string x.text, x.kv, .int .i64 x.pos]
def flatN : List Nd → List Value
  | [] => []
  | x :: l => .int .i64 x.kind :: .string x.text :: x.kv :: .int .i64 x.pos :: flatN l
def nodesAt (h : Heap) (v : Value) (l : List Nd) : Prop :=
  ((v = .slice none 0 0 ∧ l = []) ∨ ∃ b c, v = .slice (some ⟨b, 0, none⟩) l.length c ∧ b < h.next ∧ (l = [] ∨ ∃ o z, h.get b = some (.cells (flatN l) o z))) ∧ ∀ x ∈ l, intsAt h x.kv x.kids
theorem nodesAt.keep {h h' : Heap} (hk : Kept h h') {v : Value} {l : List Nd} (hh : nodesAt h v l) : nodesAt h' v l := by
  refine ⟨?_, fun x hx => (hh.2 x hx).keep hk⟩
  rcases hh.1 with hh | ⟨b, c, h1, h2, h3⟩
  · exact .inl hh
  · exact .inr ⟨b, c, h1, Nat.lt_of_lt_of_le h2 hk.next, h3.imp id fun ⟨o, z, h⟩ => ⟨o, z, by rw [hk.get b h2]; exact h⟩⟩
theorem flatN_length : ∀ l : List Nd, (flatN l).length = l.length * 4
  | [] => rfl
  | x :: l => by simp [flatN, flatN_length l]; omega
theorem flatN_drop : ∀ (l : List Nd) (i : Nat) (x : Nd), l[i]? = some x → ((flatN l).drop (i * 4)).take 4 = [.int .i64 x.kind, .string x.text, x.kv, .int .i64 x.pos]
  | [], i, x, h => by simp at h
  | y :: l, 0, x, h => by simp at h; subst h; simp [flatN]
  | y :: l, i + 1, x, h => by
    have := flatN_drop l i x (by simpa using h)
    rw [show (i + 1) * 4 = i * 4 + 4 by omega]
    simpa [flatN] using this
theorem nodesAt.load {h : Heap} {v : Value} {l : List Nd} (hh : nodesAt h v l) {i : Nat} {x : Nd} (hi : l[i]? = some x) : ∃ b c, v = .slice (some ⟨b, 0, none⟩) l.length c ∧ b < h.next ∧ (∃ o z, h.get b = some (.cells (flatN l) o z)) ∧ h.cells b (0 + i * 4) 4 = some [.int .i64 x.kind, .string x.text, x.kv, .int .i64 x.pos] := by
  have hlt : i < l.length := (List.getElem?_eq_some_iff.1 hi).1
  rcases hh.1 with ⟨_, rfl⟩ | ⟨b, c, h1, h2, h3⟩
  · simp at hlt
  · rcases h3 with rfl | h3
    · simp at hlt
    · refine ⟨b, c, h1, h2, h3, ?_⟩
      obtain ⟨o, z, h3⟩ := h3
      simp only [Heap.cells, h3, flatN_length, Nat.zero_add]
      rw [if_pos (by omega), flatN_drop l i x hi]
end Go.Idl
end

section
namespace Go.Idl
theorem nodesAt.len {h : Heap} {v : Value} {l : List Nd} (hh : nodesAt h v l) : ∃ a c, v = .slice a l.length c := by
  rcases hh.1 with ⟨rfl, rfl⟩ | ⟨b, c, h1, _⟩
  · exact ⟨none, 0, rfl⟩
  · exact ⟨_, c, h1⟩
end Go.Idl
end

section
namespace Go.Idl
def inner (D : List Nat) (m : Nat) (k : Int) : Nat := if 0 ≤ k ∧ k < D.length then max m (D.getD k.toNat 0 + 1) else m
def dep (D : List Nat) (ks : List Int) : Nat := ks.foldl (inner D) 1
def kidsOf (l : List Nd) (n : Nat) : List Int := (l[n]?.map (·.kids)).getD []
def depsN (l : List Nd) : Nat → List Nat
  | 0 => []
  | n + 1 => depsN l n ++ [dep (depsN l n) (kidsOf l n)]
def deepOf (l : List Nd) : Nat := (depsN l l.length).getD (l.length - 1) 0
theorem depsN_length (l : List Nd) : ∀ n, (depsN l n).length = n
  | 0 => rfl
  | n + 1 => by simp [depsN, depsN_length l n]
theorem inner_take {D : List Nat} {ks : List Int} {j : Nat} {k : Int} (h : ks[j]? = some k) (m : Nat) : (ks.take (j + 1)).foldl (inner D) m = inner D ((ks.take j).foldl (inner D) m) k := by
  rw [List.take_add_one, h]; simp
theorem fold_pos (D : List Nat) : ∀ (ks : List Int) (m : Nat), m ≤ ks.foldl (inner D) m
  | [], m => Nat.le_refl _
  | k :: ks, m => Nat.le_trans (by unfold inner; split <;> omega) (fold_pos D ks _)
theorem fold_le {D : List Nat} {B : Nat} (hD : ∀ k, D.getD k 0 ≤ B) : ∀ (ks : List Int) (m : Nat), m ≤ B + 1 → ks.foldl (inner D) m ≤ B + 1
  | [], m, h => h
  | k :: ks, m, h => fold_le hD ks _ (by have := hD k.toNat; unfold inner; split <;> omega)
theorem depsN_le (l : List Nd) : ∀ n k, (depsN l n).getD k 0 ≤ n
  | 0, k => by simp [depsN]
  | n + 1, k => by
    have ih := depsN_le l n
    simp only [depsN, List.getD_eq_getElem?_getD] at ih ⊢
    rw [List.getElem?_append]
    split
    · have := ih k; omega
    · rw [List.getElem?_singleton]
      split
      · exact fold_le (fun k => by simpa [List.getD_eq_getElem?_getD] using ih k) _ 1 (by omega)
      · simp
def natC (A : List Nat) : List Value := A.map fun (n : Nat) => Value.int .i64 (n : Int)
theorem natC_get {A : List Nat} {i a : Nat} (h : A[i]? = some a) : (natC A)[i]? = some (.int .i64 a) := by simp [natC, h]
theorem natC_set (A : List Nat) (i a : Nat) : (natC A).set i (.int .i64 a) = natC (A.set i a) := by simp [natC]
theorem natC_length (A : List Nat) : (natC A).length = A.length := by simp [natC]
theorem natC_zero (n : Nat) : (List.replicate n [Value.int .i64 0]).flatten = natC (List.replicate n 0) := by
  induction n with
  | zero => rfl
  | succ n ih => simp only [List.replicate_succ, List.flatten_cons, ih]; rfl
end Go.Idl
end

section
namespace Go.Idl
structure Arr (l : List Nd) (n m : Nat) (A : List Nat) : Prop where
  len : A.length = l.length + 1
  low : ∀ k, k < n → A[k]? = (depsN l n)[k]?
  at' : A[n]? = some (m - 1)
  high : ∀ k, n < k → k ≤ l.length → A[k]? = some 0
def slN (b n : Nat) : Value := .slice (some ⟨b, 0, none⟩) n n
theorem deep13_kid {T : Tbl} {l : List Nd} {n : Nat} (hn : n < l.length) (hN : l.length ≤ 100000) {ks : List Int} {h0 : Heap} {bl : Nat} {kv : Value} (hbl : h0.next ≤ bl) (hki : intsAt h0 kv ks)
    {e : Env} {hp : Heap} (h3 : e 3 = slN bl (l.length + 1)) (h4 : e 4 = .int .i64 n) (h20 : e 20 = kv) (h21 : e 21 = .int .i64 ks.length) {j : Nat} (hj : j ≤ ks.length) (h22 : e 22 = .int .i64 j)
    (hkl : ks.length < 4611686018427387904) (hk : Kept h0 hp) (hbn : bl < hp.next) {A : List Nat} (hA : hp.get bl = some (.cells (natC A) true 1)) (ha : Arr l n ((ks.take j).foldl (inner (depsN l n)) 1) A) {Q : Ex → St → Prop}
    (hgo : ∀ (e' : Env) (hp' : Heap) (A' : List Nat), (∀ t, t < 7 → e' t = e t) → (∀ t, 7 < t → t < 22 → e' t = e t) → e' 22 = .int .i64 ((j + 1 : Nat) : Int) → j < ks.length → Kept h0 hp' → hp.next = hp'.next → hp'.get bl = some (.cells (natC A') true 1) → Arr l n ((ks.take (j + 1)).foldl (inner (depsN l n)) 1) A' →
      (∀ b, b ≠ bl → hp'.get b = hp.get b) → Q .normal ⟨e', hp', some []⟩)
    (hend : ∀ e' : Env, (∀ t, t < 22 → e' t = e t) → j = ks.length → Q (.brk 2) ⟨e', hp, some []⟩) : Wc T C21L0 ⟨e, hp, some []⟩ Q := by
  rw [C21L0]
  refine Wc_seq (Wc_ops (Wo_run (fun call => by simp only [iops_nil, iops_op, iops_grd, iK_some, iG_true, iG_false, gval_bool, beq_true, beq_false, Bool.not_true, Bool.not_false, iop, ev, upd, dstUpd, h21, h22, binV, binI, reduceIte, Option.map_some]; rfl) ?_))
  show Wc T _ _ _
  refine Wc_seq (Wc_cond (decide ((j : Int) < ks.length)) (by simp [ev, upd]) (fun hlt => Wc_skip ?_) (fun hge => Wc_exit ?_))
  case refine_2 =>
    refine hend _ (fun t ht => by simp only [upd]; rw [if_neg (by omega)]) (by simp at hge; omega)
  show Wc T _ _ _
  have hjl : j < ks.length := by simpa using hlt
  obtain ⟨k, hkj⟩ : ∃ k, ks[j]? = some k := ⟨_, List.getElem?_eq_getElem hjl⟩
  obtain ⟨b, c, rfl, hb0, ⟨o, z, hg0⟩, hcell⟩ := hki.load hkj
  have hb : b < hp.next := Nat.lt_of_lt_of_le hb0 hk.next
  have hg : hp.get b = some (.cells (ints64 ks) o z) := by rw [hk.get b hb0]; exact hg0
  have e1 : IntKind.i64.wrap ((j : Int) + 1) = ((j + 1 : Nat) : Int) := by rw [wrap64] <;> omega
  have hfold := inner_take hkj (D := depsN l n) 1
  have hDl := depsN_length l n
  have hbb : b ≠ bl := by omega
  refine Wc_seq (Wc_block (Wc_seq (Wc_ops (Wo_run (fun call => by
    simp only [iops_nil, iops_op, iops_grd, iK_some, iG_true, iG_false, gval_bool, beq_true, beq_false, Bool.not_true, Bool.not_false, iop, ev, upd, dstUpd, h20, h22, idx_ok hjl, ptr, Heap.cell, hg, hcell, Option.map_some, reduceIte, Nat.reduceEqDiff]
    rfl) ?_))))
  show Wc T _ _ _
  have last : ∀ (e' : Env) (hp' : Heap) (A' : List Nat), (∀ t, t < 7 → e' t = e t) → (∀ t, 7 < t → t < 23 → e' t = e t) → Kept h0 hp' → hp.next = hp'.next → hp'.get bl = some (.cells (natC A') true 1) → Arr l n (inner (depsN l n) ((ks.take j).foldl (inner (depsN l n)) 1) k) A' → (∀ b, b ≠ bl → hp'.get b = hp.get b) →
      To (Tb 3 (Tn T (.ops [⟨(some 51), .op (.bin .add (.t 22) (.c (.int .i64 1))), none⟩, ⟨(some 22), .op (.mov (.t 51)), none⟩]) Q)) none ⟨e', hp', some []⟩ := by
    intro e' hp' A' f1 f2 f3 f4 f5 f6 f7
    show Wc T _ _ _
    have g22 : e' 22 = .int .i64 j := by rw [f2 22 (by omega) (by omega)]; exact h22
    refine Wc_ops (Wo_run (fun call => by simp only [iops_nil, iops_op, iops_grd, iK_some, iG_true, iG_false, gval_bool, beq_true, beq_false, Bool.not_true, Bool.not_false, iop, ev, upd, dstUpd, g22, e1, binV, binI, reduceIte, Nat.reduceEqDiff, Option.map_some]; rfl) ?_)
    refine hgo _ hp' A' (fun t ht => ?_) (fun t h1 h2 => ?_) (by simp [upd]) hjl f3 f4 f5 (by rw [hfold]; exact f6) f7
    · simp only [upd]; rw [if_neg (by omega), if_neg (by omega)]; exact f1 t ht
    · simp only [upd]; rw [if_neg (by omega), if_neg (by omega)]; exact f2 t h1 (by omega)
  have hcalm : calm [⟨(some 26), .op (.mov (.t 7)), none⟩,
      ⟨(some 27), .op (.bin .geq (.t 26) (.c (.int .i64 0))), none⟩,
      ⟨(some 28), .op (.mov (.t 27)), none⟩,
      ⟨(some 29), .op (.mov (.t 7)), (some (28, true))⟩,
      ⟨(some 30), .op (.mov (.t 4)), (some (28, true))⟩,
      ⟨(some 31), .op (.bin .lss (.t 29) (.t 30)), (some (28, true))⟩,
      ⟨(some 32), .op (.pick (.t 28) (.t 31) (.c (.bool false))), none⟩,
      ⟨(some 33), .op (.mov (.t 32)), none⟩,
      ⟨(some 34), .op (.mov (.t 3)), (some (33, true))⟩,
      ⟨(some 35), .op (.mov (.t 7)), (some (33, true))⟩,
      ⟨(some 36), .op (.iaddr (.sl 1) (.t 34) (.t 35)), (some (33, true))⟩,
      ⟨(some 37), .op (.load none (.t 36)), (some (33, true))⟩,
      ⟨(some 38), .op (.mov (.t 3)), (some (33, true))⟩,
      ⟨(some 39), .op (.mov (.t 4)), (some (33, true))⟩,
      ⟨(some 40), .op (.iaddr (.sl 1) (.t 38) (.t 39)), (some (33, true))⟩,
      ⟨(some 41), .op (.load none (.t 40)), (some (33, true))⟩,
      ⟨(some 42), .op (.bin .gtr (.t 37) (.t 41)), (some (33, true))⟩,
      ⟨(some 43), .op (.pick (.t 33) (.t 42) (.c (.bool false))), none⟩] = true := by decide
  have easy : ∀ (e' : Env), (∀ t, t < 7 → e' t = e t) → (∀ t, 7 < t → t < 23 → e' t = e t) → inner (depsN l n) ((ks.take j).foldl (inner (depsN l n)) 1) k = (ks.take j).foldl (inner (depsN l n)) 1 →
      To (Tb 3 (Tn T (.ops [⟨(some 51), .op (.bin .add (.t 22) (.c (.int .i64 1))), none⟩, ⟨(some 22), .op (.mov (.t 51)), none⟩]) Q)) none ⟨e', hp, some []⟩ := fun e' f1 f2 f3 =>
    last e' hp A f1 f2 hk rfl hA (by rw [f3]; exact ha) (fun _ _ => rfl)
  by_cases hk0 : 0 ≤ k
  case neg =>
    refine Wc_seq (Wc_draw_calm hcalm (Wo_run (fun call => by
      simp only [iops_nil, iops_op, iops_grd, iK_some, iG_true, iG_false, gval_bool, beq_true, beq_false, Bool.not_true, Bool.not_false, iop, ev, upd, dstUpd, h4, binV, binI, hk0, ge_iff_le, decide_false, reduceIte, Nat.reduceEqDiff, Option.map_some, Bool.false_eq_true, beq_iff_eq]
      rfl) ⟨rfl, ?_⟩))
    show Wc T _ _ _
    refine Wc_cond false (by simp [ev, upd]) (fun h => by cases h) (fun _ => Wc_skip ?_)
    exact easy _ (fun t ht => by simp only [upd]; repeat rw [if_neg (by omega)]) (fun t h1 h2 => by simp only [upd]; repeat rw [if_neg (by omega)]) (by unfold inner; rw [if_neg (by omega)])
  by_cases hkn : k < n
  case neg =>
    refine Wc_seq (Wc_draw_calm hcalm (Wo_run (fun call => by
      simp only [iops_nil, iops_op, iops_grd, iK_some, iG_true, iG_false, gval_bool, beq_true, beq_false, Bool.not_true, Bool.not_false, iop, ev, upd, dstUpd, h4, binV, binI, hk0, hkn, ge_iff_le, decide_true, decide_false, reduceIte, Nat.reduceEqDiff, Option.map_some, Bool.false_eq_true, beq_iff_eq]
      rfl) ⟨rfl, ?_⟩))
    show Wc T _ _ _
    refine Wc_cond false (by simp [ev, upd]) (fun h => by cases h) (fun _ => Wc_skip ?_)
    exact easy _ (fun t ht => by simp only [upd]; repeat rw [if_neg (by omega)]) (fun t h1 h2 => by simp only [upd]; repeat rw [if_neg (by omega)]) (by unfold inner; rw [if_neg (by omega)])
  obtain ⟨kk, rfl⟩ : ∃ kk : Nat, k = kk := ⟨k.toNat, by omega⟩
  have hkn' : kk < n := by omega
  obtain ⟨a, hDa⟩ : ∃ a, (depsN l n)[kk]? = some a := ⟨_, List.getElem?_eq_getElem (by omega)⟩
  have hAk : A[kk]? = some a := by rw [ha.low kk hkn', hDa]
  have hm := fold_pos (depsN l n) (ks.take j) 1
  have hin : inner (depsN l n) ((ks.take j).foldl (inner (depsN l n)) 1) (kk : Int) = max ((ks.take j).foldl (inner (depsN l n)) 1) (a + 1) := by
    unfold inner
    rw [if_pos (by omega)]
    simp [List.getD_eq_getElem?_getD, hDa]
  generalize (ks.take j).foldl (inner (depsN l n)) 1 = m at *
  have hkA : (natC A)[0 + kk * 1]? = some (.int .i64 a) := by rw [Nat.zero_add, Nat.mul_one]; exact natC_get hAk
  have hnA : (natC A)[0 + n * 1]? = some (.int .i64 ((m - 1 : Nat) : Int)) := by rw [Nat.zero_add, Nat.mul_one]; exact natC_get ha.at'
  have hset : (natC A).set (0 + n * 1) (.int .i64 a) = natC (A.set n a) := by rw [Nat.zero_add, Nat.mul_one]; exact natC_set A n a
  have hlen : 0 + n * 1 + 1 ≤ (natC A).length := by rw [natC_length, ha.len]; omega
  by_cases hgt : ((m - 1 : Nat) : Int) < (a : Int)
  · refine Wc_seq (Wc_draw_calm hcalm (Wo_run (fun call => by
      simp only [iops_nil, iops_op, iops_grd, iK_some, iG_true, iG_false, gval_bool, beq_true, beq_false, Bool.not_true, Bool.not_false, iop, ev, upd, dstUpd, h3, h4, slN, binV, binI, hk0, hkn, idx_ok (show kk < l.length + 1 by omega), idx_ok (show n < l.length + 1 by omega), ptr, Heap.cell, hA, hkA, hnA, hgt, gt_iff_lt, ge_iff_le, decide_true, decide_false, reduceIte, Nat.reduceEqDiff, Option.map_some, Bool.false_eq_true, beq_iff_eq]
      rfl) ⟨rfl, ?_⟩))
    show Wc T _ _ _
    refine Wc_cond true (by simp [ev, upd]) (fun _ => ?_) (fun h => by cases h)
    refine Wc_ops (Wo_run (fun call => by
      simp only [iops_nil, iops_op, iops_grd, iK_some, iop, ev, upd, dstUpd, h3, h4, slN, idx_ok (show kk < l.length + 1 by omega), idx_ok (show n < l.length + 1 by omega), ptr, Heap.cell, Heap.write, cellsOf, put, hA, hkA, hset, hlen, List.length_cons, List.length_nil, reduceIte, Nat.reduceEqDiff, Nat.reduceAdd, Option.map_some]
      rfl) ?_)
    refine last _ _ (A.set n a) (fun t ht => by simp only [upd]; repeat rw [if_neg (by omega)]) (fun t h1 h2 => by simp only [upd]; repeat rw [if_neg (by omega)]) (hk.set hbl _) rfl (set_get' _ _ _) ?_ (fun b hb => set_get_ne' _ _ hb)
    rw [hin]
    have he : max m (a + 1) = a + 1 := by omega
    rw [he]
    refine ⟨by simp [ha.len], fun t ht => ?_, ?_, fun t h1 h2 => ?_⟩
    · rw [List.getElem?_set_ne (by omega)]; exact ha.low t ht
    · rw [List.getElem?_set_self (by rw [ha.len]; omega)]; rfl
    · rw [List.getElem?_set_ne (by omega)]; exact ha.high t h1 h2
  · refine Wc_seq (Wc_draw_calm hcalm (Wo_run (fun call => by
      simp only [iops_nil, iops_op, iops_grd, iK_some, iG_true, iG_false, gval_bool, beq_true, beq_false, Bool.not_true, Bool.not_false, iop, ev, upd, dstUpd, h3, h4, slN, binV, binI, hk0, hkn, idx_ok (show kk < l.length + 1 by omega), idx_ok (show n < l.length + 1 by omega), ptr, Heap.cell, hA, hkA, hnA, hgt, gt_iff_lt, ge_iff_le, decide_true, decide_false, reduceIte, Nat.reduceEqDiff, Option.map_some, Bool.false_eq_true, beq_iff_eq]
      rfl) ⟨rfl, ?_⟩))
    show Wc T _ _ _
    refine Wc_cond false (by simp [ev, upd]) (fun h => by cases h) (fun _ => Wc_skip ?_)
    exact easy _ (fun t ht => by simp only [upd]; repeat rw [if_neg (by omega)]) (fun t h1 h2 => by simp only [upd]; repeat rw [if_neg (by omega)]) (by rw [hin]; omega)
end Go.Idl
end

section
namespace Go.Idl
theorem Arr.done {l : List Nd} {n : Nat} (hn : n < l.length) {A : List Nat} (ha : Arr l n (dep (depsN l n) (kidsOf l n)) A) : Arr l (n + 1) 1 (A.set n (dep (depsN l n) (kidsOf l n))) := by
  have hD := depsN_length l n
  refine ⟨by simp [ha.len], fun k hk => ?_, ?_, fun k h1 h2 => ?_⟩
  · simp only [depsN]
    by_cases e : k = n
    · subst e
      rw [List.getElem?_set_self (by rw [ha.len]; omega), List.getElem?_append_right (by omega), hD, Nat.sub_self]; rfl
    · rw [List.getElem?_set_ne (by omega), List.getElem?_append_left (by omega)]
      exact ha.low k (by omega)
  · rw [List.getElem?_set_ne (by omega)]; exact ha.high (n + 1) (by omega) (by omega)
  · rw [List.getElem?_set_ne (by omega)]; exact ha.high k (by omega) h2
theorem deep13_node {T : Tbl} {l : List Nd} (hN : l.length ≤ 100000) (hK : ∀ x ∈ l, x.kids.length ≤ 100000) {h0 : Heap} {bl : Nat} {v : Value} (hbl : h0.next ≤ bl) (hn : nodesAt h0 v l)
    {e : Env} {hp : Heap} {n : Nat} (hnl : n ≤ l.length) (h3 : e 3 = slN bl (l.length + 1)) (h12 : e 12 = v) (h13 : e 13 = .int .i64 l.length) (h14 : e 14 = .int .i64 n) (h0' : e 0 = v)
    (hk : Kept h0 hp) (hbn : bl < hp.next) {A : List Nat} (hA : hp.get bl = some (.cells (natC A) true 1)) (ha : Arr l n 1 A) {Q : Ex → St → Prop}
    (hgo : n < l.length → ∀ (e' : Env) (hp' : Heap) (A' : List Nat), e' 3 = e 3 → e' 12 = v → e' 13 = e 13 → e' 14 = .int .i64 ((n + 1 : Nat) : Int) → e' 0 = v → Kept h0 hp' → bl < hp'.next → hp'.get bl = some (.cells (natC A') true 1) → Arr l (n + 1) 1 A' → Q .normal ⟨e', hp', some []⟩)
    (hend : n = l.length → ∀ e' : Env, e' 3 = e 3 → e' 0 = v → Q (.brk 0) ⟨e', hp, some []⟩) : Wc T C21L1 ⟨e, hp, some []⟩ Q := by
  rw [C21L1]
  refine Wc_seq (Wc_ops (Wo_run (fun call => by simp only [iops_nil, iops_op, iK_some, iop, ev, upd, dstUpd, h13, h14, binV, binI, reduceIte, Option.map_some]; rfl) ?_))
  show Wc T _ _ _
  refine Wc_seq (Wc_cond (decide ((n : Int) < l.length)) (by simp [ev, upd]) (fun hlt => Wc_skip ?_) (fun hge => Wc_exit ?_))
  case refine_2 => exact hend (by simp at hge; omega) _ (by simp [upd]) (by simp only [upd, Nat.reduceEqDiff, reduceIte]; exact h0')
  show Wc T _ _ _
  have hil : n < l.length := by simpa using hlt
  obtain ⟨x, hx⟩ : ∃ x, l[n]? = some x := ⟨_, List.getElem?_eq_getElem hil⟩
  have hxm := List.mem_of_getElem? hx
  obtain ⟨b, c, rfl, hb, ⟨o, z, hg⟩, hcells⟩ := (hn.keep hk).load hx
  obtain ⟨ka, kc, hkv⟩ := (hn.2 x hxm).len
  have hki := hn.2 x hxm
  have hkl := hK x hxm
  have e1 : IntKind.i64.wrap ((n : Int) + 1) = ((n + 1 : Nat) : Int) := by rw [wrap64] <;> omega
  have hkids : kidsOf l n = x.kids := by simp [kidsOf, hx]
  refine Wc_seq (Wc_block (Wc_seq (Wc_ops (Wo_run (fun call => by
    simp only [iops_nil, iops_op, iK_some, iop, ev, upd, dstUpd, h12, h14, idx_ok hil, ptr, hcells, Option.map_some, cellsOf, Heap.write, Heap.new, Heap.set, put, List.length_cons, List.length_nil, reduceIte, Nat.reduceEqDiff, Nat.reduceAdd, Nat.reduceLeDiff, List.set_cons_zero, List.set_cons_succ]
    rfl) ?_))))
  show Wc T _ _ _
  refine Wc_seq (Wc_seq (Wc_ops (Wo_run (fun call => by
    simp only [iops_nil, iops_op, iK_some, iop, ev, upd, dstUpd, ptr, hkv, Option.map_some, Heap.cell, reduceIte, Nat.reduceEqDiff, Nat.reduceAdd, Nat.zero_add, List.getElem?_cons_zero, List.getElem?_cons_succ]
    rfl) ?_)))
  show Wc T _ _ _
  have hbb : bl ≠ hp.next := by omega
  refine Wc_block (Wc_loop (fun s => s.d = some [] ∧ Kept h0 s.h ∧ bl < s.h.next ∧ s.e 0 = .slice (some ⟨b, 0, none⟩) l.length c ∧ s.e 3 = e 3 ∧ s.e 4 = .int .i64 n ∧ s.e 12 = .slice (some ⟨b, 0, none⟩) l.length c ∧ s.e 13 = e 13 ∧ s.e 14 = .int .i64 n ∧ s.e 20 = x.kv ∧ s.e 21 = .int .i64 x.kids.length ∧
      ∃ j : Nat, j ≤ x.kids.length ∧ s.e 22 = .int .i64 j ∧ ∃ A, s.h.get bl = some (.cells (natC A) true 1) ∧ Arr l n ((x.kids.take j).foldl (inner (depsN l n)) 1) A)
    (fun s => match s.e 22 with | .int _ i => (x.kids.length - i).toNat | _ => 0) ?_ ?_)
  · refine ⟨rfl, (hk.new _).set hk.next _, by simp only [Heap.set, Heap.new]; omega, by simp only [upd, Nat.reduceEqDiff, reduceIte]; exact h0', by simp only [upd, Nat.reduceEqDiff, reduceIte], by simp only [upd, Nat.reduceEqDiff, reduceIte],
      by simp only [upd, Nat.reduceEqDiff, reduceIte]; exact h12, by simp only [upd, Nat.reduceEqDiff, reduceIte], by simp only [upd, Nat.reduceEqDiff, reduceIte]; exact h14, by simp only [upd, Nat.reduceEqDiff, reduceIte, hkv], by simp only [upd, Nat.reduceEqDiff, reduceIte],
      0, Nat.zero_le _, by simp only [upd, Nat.reduceEqDiff, reduceIte]; rfl, A, ?_, ha⟩
    simp only [if_neg hbb]; exact hA
  · rintro ⟨e2, hp2, d2⟩ ⟨hd, gk, gbn, g0, g3, g4, g12, g13, g14, g20, g21, j, hj, g22, A2, gA, ga⟩
    simp only at hd gk gbn g0 g3 g4 g12 g13 g14 g20 g21 g22 gA
    subst hd
    refine deep13_kid hil hN hbl hki (g3.trans h3) g4 g20 g21 hj g22 (by omega) gk gbn gA ga ?_ ?_
    · intro e' hp' A' f1 f2 f3 f4 f5 f6 f7 f8 f9
      refine ⟨⟨rfl, f5, by rw [← f6]; exact gbn, (f1 0 (by omega)).trans g0, (f1 3 (by omega)).trans g3, (f1 4 (by omega)).trans g4, (f2 12 (by omega) (by omega)).trans g12, (f2 13 (by omega) (by omega)).trans g13,
        (f2 14 (by omega) (by omega)).trans g14, (f2 20 (by omega) (by omega)).trans g20, (f2 21 (by omega) (by omega)).trans g21, j + 1, f4, f3, A', f7, f8⟩, ?_⟩
      simp only [f3, g22]
      omega
    · intro e' f1 f2
      subst f2
      show Wc T _ _ _
      rw [List.take_length] at ga
      have hdep : (x.kids.foldl (inner (depsN l n)) 1) = dep (depsN l n) (kidsOf l n) := by rw [hkids]; rfl
      rw [hdep] at ga
      have hpos : 1 ≤ dep (depsN l n) (kidsOf l n) := fold_pos _ _ 1
      have hle : dep (depsN l n) (kidsOf l n) ≤ n + 1 := fold_le (fun k => depsN_le l n k) _ 1 (by omega)
      have k3 : e' 3 = slN bl (l.length + 1) := by rw [f1 3 (by omega), g3, h3]
      have k4 : e' 4 = .int .i64 n := by rw [f1 4 (by omega), g4]
      have k14 : e' 14 = .int .i64 n := by rw [f1 14 (by omega), g14]
      have hnA : (natC A2)[0 + n * 1]? = some (.int .i64 ((dep (depsN l n) (kidsOf l n) - 1 : Nat) : Int)) := by rw [Nat.zero_add, Nat.mul_one]; exact natC_get ga.at'
      have hset : (natC A2).set (0 + n * 1) (.int .i64 (dep (depsN l n) (kidsOf l n))) = natC (A2.set n (dep (depsN l n) (kidsOf l n))) := by rw [Nat.zero_add, Nat.mul_one]; exact natC_set A2 n _
      have hlen : 0 + n * 1 + 1 ≤ (natC A2).length := by rw [natC_length, ga.len]; omega
      have e2 : IntKind.i64.wrap (((dep (depsN l n) (kidsOf l n) - 1 : Nat) : Int) + 1) = ((dep (depsN l n) (kidsOf l n) : Nat) : Int) := by rw [wrap64] <;> omega
      refine Wc_ops (Wo_run (fun call => by
        simp only [iops_nil, iops_op, iK_some, iop, ev, upd, dstUpd, k3, k4, slN, idx_ok (show n < l.length + 1 by omega), ptr, Heap.cell, Heap.write, cellsOf, put, gA, hnA, binV, binI, e2, hset, hlen, List.length_cons, List.length_nil, reduceIte, Nat.reduceEqDiff, Nat.reduceAdd, Option.map_some]
        rfl) ?_)
      show Wc T _ _ _
      refine Wc_ops (Wo_run (fun call => by simp only [iops_nil, iops_op, iK_some, iop, ev, upd, dstUpd, k14, e1, binV, binI, reduceIte, Nat.reduceEqDiff, Option.map_some]; rfl) ?_)
      refine hgo hil _ _ _ ?_ ?_ ?_ ?_ ?_ (gk.set hbl _) gbn (set_get' _ _ _) (ga.done hil)
      · simp only [upd, Nat.reduceEqDiff, reduceIte]; rw [f1 3 (by omega), g3]
      · simp only [upd, Nat.reduceEqDiff, reduceIte]; rw [f1 12 (by omega), g12]
      · simp only [upd, Nat.reduceEqDiff, reduceIte]; rw [f1 13 (by omega), g13]
      · simp only [upd, Nat.reduceEqDiff, reduceIte]
      · simp only [upd, Nat.reduceEqDiff, reduceIte]; rw [f1 0 (by omega), g0]
theorem arr_begin (l : List Nd) : Arr l 0 1 (List.replicate (l.length + 1) 0) :=
  ⟨by simp, fun k hk => by omega, by simp, fun k h1 h2 => by rw [List.getElem?_replicate, if_pos (by omega)]⟩
theorem deep13 {T : Tbl} (hT : T.fn 21 = some C21) {h : Heap} {v : Value} {l : List Nd} (hn : nodesAt h v l) (hN : l.length ≤ 100000) (hK : ∀ x ∈ l, x.kids.length ≤ 100000) :
    Wk T (.fn 21) [v] h (fun o h' => Kept h h' ∧ o = .ret (.int .i64 (deepOf l))) := by
  obtain ⟨va, vc, hv⟩ := hn.len
  refine Wk_fn hT (by simp [C21]) ?_
  simp only [C21]
  refine Wc_seq (Wc_ops (Wo_run (fun call => by simp only [iops_nil, iops_op, iK_some, iop, ev, upd, dstUpd, reduceIte]; rfl) ?_))
  show Wc T _ _ _
  have e1 : IntKind.i64.wrap ((l.length : Int) + 1) = ((l.length + 1 : Nat) : Int) := by rw [wrap64] <;> omega
  have hsz : (0 : Int) ≤ ((l.length + 1 : Nat) : Int) ∧ ((l.length + 1 : Nat) : Int) ≤ ((l.length + 1 : Nat) : Int) ∧ ((l.length + 1 : Nat) : Int) * ((8 : Nat) : Int) ≤ 140737488355328 := by omega
  refine Wc_seq (Wc_ops (Wo_run (fun call => by
    simp only [iops_nil, iops_op, iK_some, iop, ev, upd, dstUpd, args0, hv, e1, hsz, and_self, binV, binI, reduceIte, Nat.reduceEqDiff, Option.map_some, List.getD_cons_zero, Int.toNat_natCast, natC_zero]
    rfl) ?_))
  show Wc T _ _ _
  refine Wc_seq (Wc_seq (Wc_ops (Wo_run (fun call => by simp only [iops_nil, iops_op, iK_some, iop, ev, upd, dstUpd, args0, hv, reduceIte, Nat.reduceEqDiff, List.getD_cons_zero]; rfl) ?_)))
  show Wc T _ _ _
  have hk0 : Kept h (h.new (.cells (natC (List.replicate (l.length + 1) 0)) true 1)) := (Kept.refl h).new _
  refine Wc_block (Wc_loop (fun s => s.d = some [] ∧ Kept h s.h ∧ h.next < s.h.next ∧ s.e 0 = v ∧ s.e 3 = slN h.next (l.length + 1) ∧ s.e 12 = v ∧ s.e 13 = .int .i64 l.length ∧ ∃ n : Nat, n ≤ l.length ∧ s.e 14 = .int .i64 n ∧ ∃ A, s.h.get h.next = some (.cells (natC A) true 1) ∧ Arr l n 1 A)
    (fun s => match s.e 14 with | .int _ i => (l.length - i).toNat | _ => 0) ?_ ?_)
  · refine ⟨rfl, hk0, Nat.lt_succ_self _, by simp only [upd, Nat.reduceEqDiff, reduceIte, args0, List.getD_cons_zero, hv], by simp only [upd, Nat.reduceEqDiff, reduceIte, slN], by simp only [upd, Nat.reduceEqDiff, reduceIte, hv], by simp only [upd, Nat.reduceEqDiff, reduceIte],
      0, Nat.zero_le _, by simp only [upd, Nat.reduceEqDiff, reduceIte]; rfl, _, ?_, arr_begin l⟩
    simp [Heap.new]
  · rintro ⟨e, hp, d⟩ ⟨hd, gk, gbn, g0, g3, g12, g13, n, hnl, g14, A, gA, ga⟩
    simp only at hd gk gbn g0 g3 g12 g13 g14 gA
    subst hd
    refine deep13_node hN hK (Nat.le_refl _) hn hnl g3 g12 g13 g14 g0 gk gbn gA ga ?_ ?_
    · intro hlt e' hp' A' f3 f12 f13 f14 f0 fk fbn fA fa
      refine ⟨⟨rfl, fk, fbn, f0, f3.trans g3, f12, f13.trans g13, n + 1, hlt, f14, A', fA, fa⟩, ?_⟩
      simp only [f14, g14]
      omega
    · intro hnn e' f3 f0
      subst hnn
      show Wc T _ _ _
      have k3 : e' 3 = slN h.next (l.length + 1) := f3.trans g3
      have hmx : (if (0 : Int) > IntKind.i64.wrap ((l.length : Int) - 1) then (0 : Int) else IntKind.i64.wrap ((l.length : Int) - 1)) = ((l.length - 1 : Nat) : Int) := by
        rw [wrap64] <;> first | (split <;> omega) | omega
      have hAt : A[l.length - 1]? = some (deepOf l) := by
        by_cases hz : l.length = 0
        · have := ga.at'
          rw [hz] at this ⊢
          simp only [this, deepOf, hz, depsN]
          rfl
        · rw [ga.low _ (by omega)]
          unfold deepOf
          rw [List.getD_eq_getElem?_getD, List.getElem?_eq_getElem (by rw [depsN_length]; omega)]
          rfl
      have hg : (natC A)[0 + (l.length - 1) * 1]? = some (.int .i64 (deepOf l)) := by rw [Nat.zero_add, Nat.mul_one]; exact natC_get hAt
      refine Wc_seq (Wc_ops (Wo_run (fun call => by
        simp only [iops_nil, iops_op, iK_some, iop, ev, upd, dstUpd, k3, f0, hv, slN, hmx, idx_ok (show l.length - 1 < l.length + 1 by omega), ptr, Heap.cell, gA, hg, binV, binI, reduceIte, Nat.reduceEqDiff, Option.map_some]
        rfl) ?_))
      show Wc T _ _ _
      refine Wc_ret ⟨.inr rfl, rfl, [.int .i64 (deepOf l)], ?_, gk, rfl⟩
      simp only [C21, resAll, resV, upd, Nat.reduceEqDiff, reduceIte]
end Go.Idl
end

section
namespace Go.Idl
structure Arr2 (l : List Nd) (n : Nat) (A : List Nat) : Prop where
  len : A.length = l.length
  low : ∀ k, k < n → A[k]? = (depsN l n)[k]?
end Go.Idl
end

section
namespace Go.Idl
theorem Arr2.done {l : List Nd} {n : Nat} (hn : n < l.length) {A : List Nat} (ha : Arr2 l n A) (hat : A[n]? = some (dep (depsN l n) (kidsOf l n))) : Arr2 l (n + 1) A := by
  have hD := depsN_length l n
  refine ⟨ha.len, fun k hk => ?_⟩
  simp only [depsN]
  by_cases e : k = n
  · subst e
    rw [hat, List.getElem?_append_right (by omega), hD, Nat.sub_self]; rfl
  · rw [List.getElem?_append_left (by omega)]
    exact ha.low k (by omega)
end Go.Idl
end
