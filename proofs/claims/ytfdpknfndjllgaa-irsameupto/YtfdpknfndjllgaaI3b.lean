/- Each operation, second part: what touches no memory but by reading. -/
import Derived.Test.YtfdpknfndjllgaaI3
import Derived.Laws.StructEq
namespace Go.Idl
set_option linter.unusedVariables false
set_option linter.unusedSimpArgs false

variable {C : Nat → IC → Code → Prop} {base : Nat} {ι : Inj} {h : Heap} {w : World} {P : Program} {ρ : Operand → Value} {e : Env}

theorem opt_map {α β : Type} {o : Option α} {f : α → β} {y : β} (h : o.map f = some y) : ∃ x, o = some x ∧ f x = y := by
  cases o with
  | none => simp at h
  | some x => exact ⟨x, rfl, by simpa using h⟩

theorem good_load (hs : Sim C base ι h w) (hρ : OpdRep ι e ρ) {t : TypeId} {x : Operand} {a : Opd} {n : Option Nat} (ht : tshape P t = some n) (ha : copd x = some a) {v : Value} {h' : Heap}
    (hi : iop (.load n a) e h = some (v, h')) : Good C base P ρ (.load t x) ι h w v h' := by
  simp only [iop] at hi
  split at hi
  case h_2 => cases hi
  rename_i b o hb
  obtain ⟨i, hι, hx⟩ := rep_ptr (hb ▸ hρ.1 _ _ ha)
  rcases tshape_spec ht with ⟨k, rfl, hk, hag⟩ | ⟨rfl, hag⟩
  · obtain ⟨cs, hcs, hp⟩ := opt_map hi
    cases hp
    obtain ⟨cs', hr, hlen, hcell⟩ := hs.cells hι hcs
    have hld := run_loadCells_list (P := P) w _ cs' hcell
    rw [← hr.1, hlen] at hld
    refine good_pure hs (v' := .agg cs'.toArray) (fun o ho => ?_) (rep_agg.2 (by simpa using hr))
    simp [execOp, ho, hx, Instr.loadAt, Instr.sureAddr, loadVar, hag, run_sizeOf' hk, hld]
  · obtain ⟨v', hv, hp⟩ := opt_map hi
    cases hp
    obtain ⟨u, hf, hr, hcell⟩ := hs.cell hι hv
    refine good_pure hs (v' := u) (fun o ho => ?_) hr
    simp [execOp, ho, hx, Instr.loadAt, Instr.sureAddr, loadVar, hag, hcell]

theorem good_nilck (hs : Sim C base ι h w) (hρ : OpdRep ι e ρ) {x : Operand} {a : Opd} (ha : copd x = some a) {v : Value} {h' : Heap}
    (hi : iop (.nilck a) e h = some (v, h')) : Good C base P ρ (.nilCheck x) ι h w v h' := by
  have hr := hρ.1 _ _ ha
  simp only [iop] at hi
  split at hi <;> first | cases hi | skip
  all_goals
    rename_i hb
    rw [hb] at hr
    refine good_pure hs (v' := ρ x) (fun o ho => ?_) hr
    generalize hu : ρ x = u at hr
    cases hr
    all_goals simp [execOp, ho, hu]

theorem run_eqGuard_plain {op : BinOp} {t : TypeId} {x y : Operand} {a b : Value} (h1 : a ≠ .nilIface) (h2 : ∀ cs, a ≠ .agg cs) (w : World) : (eqGuard op t x y a b).run P w = .ok () w := by
  unfold eqGuard
  cases a <;> cases b <;> first | (exfalso; exact h1 rfl) | (exfalso; exact h2 _ rfl) | (cases op <;> simp)

theorem binI_run {op : BinOp} {k : IntKind} {x y : Int} {v : Value} (h : binI op k x y = some v) (h1 : op ≠ .shl) (h2 : op ≠ .shr) (t : TypeId) (w : World) : (binOp op t (.int k x) (.int k y)).run P w = .ok v w := by
  cases op <;> simp only [binI] at h <;> first
    | (exact absurd rfl h1)
    | (exact absurd rfl h2)
    | (cases h; simp [binOp, Op.intArith, Op.intBits, Op.intCmp]; done)
    | (split at h
       · cases h
       · rename_i hy
         cases h; simp [binOp, Op.intDiv, hy])

theorem string_eq_iff (a b : ByteArray) : (a.toList == b.toList) = decide (a = b) := by
  by_cases h : a = b
  · subst h; simp
  · have : a.toList ≠ b.toList := fun e => h (by
      rw [ByteArray.toList_eq, ByteArray.toList_eq] at e
      obtain ⟨x⟩ := a
      obtain ⟨y⟩ := b
      obtain rfl : x = y := Array.ext' e
      rfl)
    simp [h, this]

theorem good_bin (hs : Sim C base ι h w) (hρ : OpdRep ι e ρ) {op : BinOp} {t yt : TypeId} {x y : Operand} {a b : Opd} (ha : copd x = some a) (hb : copd y = some b)
    {v : Value} {h' : Heap}
    (hi : iop (.bin op a b) e h = some (v, h')) : Good C base P ρ (.binOp op t x y yt) ι h w v h' := by
  simp only [iop] at hi
  obtain ⟨v', hv, hp⟩ := opt_map hi
  cases hp
  have hx := hρ.1 _ _ ha
  have hy := hρ.1 _ _ hb
  generalize ev e a = p at *
  generalize ev e b = q at *
  have fin : ∀ {z : Value}, Rep ι v z → (ρ x ≠ .nilIface) → (∀ cs, ρ x ≠ .agg cs) → (binOp op t (ρ x) (ρ y)).run P w = .ok z w → Good C base P ρ (.binOp op t x y yt) ι h w v h := by
    intro z hz h1 h2 hr
    refine good_pure hs (v' := z) (fun o ho => ?_) hz
    simp [execOp, ho, run_eqGuard_plain h1 h2, hr]
  unfold binV at hv
  split at hv
  · rename_i k m k' n
    rw [rep_int hx, rep_int hy] at fin
    split at hv
    · split at hv
      · cases hv
      · rename_i hn
        cases hv
        exact fin (.int _ _) (by simp) (by simp) (by simp [binOp, Op.shift, hn])
    · split at hv
      · cases hv
      · rename_i hn
        cases hv
        exact fin (.int _ _) (by simp) (by simp) (by simp [binOp, Op.shift, hn])
    · rename_i h1 h2
      split at hv
      case isFalse => cases hv
      rename_i hk
      subst hk
      have := binI_run (P := P) hv (fun e => h1 e) (fun e => h2 e) t w
      refine fin ?_ (by simp) (by simp) this
      cases op <;> simp only [binI] at hv <;> first
        | (cases hv; first | exact .int _ _ | exact .bool _)
        | (split at hv
           · cases hv
           · cases hv; exact .int _ _)
        | cases hv
  · rename_i m n
    rw [rep_string hx, rep_string hy] at fin
    split at hv
    · split at hv
      case isFalse => cases hv
      rename_i hle
      cases hv
      refine fin (.string _) (by simp) (by simp) ?_
      have h1 : ¬ (((m.size + n.size : Nat) : Int) > IntKind.i64.max) := by show ¬ _ > (9223372036854775807 : Int); omega
      simp only [binOp, Op.stringOp, if_neg h1, Sem.run_pure]
    · cases hv
      exact fin (.bool _) (by simp) (by simp) (by simp [binOp, Op.stringOp, string_eq_iff])
    · cases hv
      exact fin (.bool _) (by simp) (by simp) (by simp [binOp, Op.stringOp, string_eq_iff])
    · cases hv
  · cases hv

def eqOp (neg : Bool) : BinOp := if neg then .neq else .eql

theorem negOf_spec {op : BinOp} {n : Bool} (h : negOf op = some n) : op = eqOp n := by
  cases op <;> simp [negOf] at h <;> subst h <;> rfl

theorem good_beq (hs : Sim C base ι h w) (hρ : OpdRep ι e ρ) {neg : Bool} {t yt : TypeId} {x y : Operand} {a b : Opd} (ha : copd x = some a) (hb : copd y = some b)
    (hu : P.underlying t = some .bool) {v : Value} {h' : Heap}
    (hi : iop (.beq neg a b) e h = some (v, h')) : Good C base P ρ (.binOp (eqOp neg) t x y yt) ι h w v h' := by
  simp only [iop] at hi
  have hx := hρ.1 _ _ ha
  have hy := hρ.1 _ _ hb
  generalize ev e a = p at *
  generalize ev e b = q at *
  split at hi
  case h_2 => cases hi
  cases hi
  have hx := rep_bool hx
  have hy := rep_bool hy
  have heq := fun (a b : Bool) => run_equalIn_bool (P := P) w 9999 t a b hu
  refine good_pure hs (fun o ho => ?_) (.bool _)
  cases neg <;> simp [execOp, ho, hx, hy, run_eqGuard_plain, binOp, Op.equal, Op.maxDepth, heq, eqOp]

theorem skOf_spec {t : TypeId} {s : SK} (h : skOf P t = some s) : ∃ d, P.underlying t = some d ∧ ((d = .bool ∧ s = .bool) ∨ (∃ k, d = .int k ∧ s = .int k) ∨ (d = .string ∧ s = .str)) := by
  unfold skOf at h
  split at h <;> first | cases h | skip
  · exact ⟨_, by assumption, .inl ⟨rfl, rfl⟩⟩
  · exact ⟨_, by assumption, .inr (.inl ⟨_, rfl, rfl⟩)⟩
  · exact ⟨_, by assumption, .inr (.inr ⟨rfl, rfl⟩)⟩

theorem fit1_rep {s : SK} {v v' : Value} (hf : fit1 s v = true) (hr : Rep ι v v') : v' = v := by
  cases s <;> cases v <;> simp [fit1] at hf
  · exact rep_int hr
  · exact rep_string hr
  · exact rep_bool hr

theorem fitL_rep : ∀ {ks : List SK} {xs ys : List Value}, fitL ks xs = true → RepL ι xs ys → ys = xs
  | [], [], ys, _, hr => by have := hr.1; cases ys <;> simp_all
  | [], _ :: _, _, hf, _ => by simp [fitL] at hf
  | _ :: _, [], _, hf, _ => by simp [fitL] at hf
  | k :: ks, x :: xs, [], _, hr => by simp [RepL] at hr
  | k :: ks, x :: xs, y :: ys, hf, hr => by
    simp [fitL] at hf
    rw [fit1_rep hf.1 hr.head.1, fitL_rep hf.2 hr.head.2]

/-- Two scalars, as the model compares them. -/
theorem run_equalIn_scalar {t : TypeId} {s : SK} (hs : skOf P t = some s) {a b : Value} (ha : fit1 s a = true) (hb : fit1 s b = true) (d : Nat) (w : World) :
    (Op.equalIn (d + 1) t a b).run P w = .ok (seq1 a b) w := by
  obtain ⟨dd, hd, h⟩ := skOf_spec hs
  rcases h with ⟨rfl, rfl⟩ | ⟨k, rfl, rfl⟩ | ⟨rfl, rfl⟩
  · cases a <;> cases b <;> simp [fit1] at ha hb
    exact run_equalIn_bool w d t _ _ hd
  · cases a <;> cases b <;> simp [fit1] at ha hb
    subst ha; subst hb
    exact run_equalIn_int w d t _ _ _ _ hd
  · cases a <;> cases b <;> simp [fit1] at ha hb
    rw [run_equalIn_string w d t _ _ hd, string_eq_iff]; rfl

theorem skOf_part {t : TypeId} {s : SK} (hs : skOf P t = some s) {cs : Array Value} {o : Nat} {v : Value} (hv : cs.toList[o]? = some v) (w : World) : (part t cs o).run P w = .ok v w := by
  obtain ⟨dd, hd, h⟩ := skOf_spec hs
  have hv' : cs[o]? = some v := by simpa using hv
  rcases h with ⟨rfl, rfl⟩ | ⟨k, rfl, rfl⟩ | ⟨rfl, rfl⟩ <;> simp [part, isAgg, run_underlying hd, hv']

theorem run_eqFields (d : Nat) (xs ys : Array Value) : ∀ (fs : List Field) (n : Nat) (ks : List SK), flatFields P fs n = some ks → fitL ks (xs.toList.drop n) = true → fitL ks (ys.toList.drop n) = true →
    ∀ w, (Op.eqFields (d + 1) xs ys fs).run P w = .ok (seqL (xs.toList.drop n) (ys.toList.drop n)) w
  | [], n, ks, hf, hx, hy, w => by
    simp [flatFields] at hf; subst hf
    cases hxs : xs.toList.drop n with
    | cons => simp [hxs, fitL] at hx
    | nil => cases hys : ys.toList.drop n with
      | cons => simp [hys, fitL] at hy
      | nil => simp [Op.eqFields, seqL]
  | f :: fs, n, ks, hf, hx, hy, w => by
    simp only [flatFields] at hf
    split at hf
    case h_2 => cases hf
    rename_i s ss h1 h2
    split at hf
    case isFalse => cases hf
    rename_i hc
    simp at hc
    cases hf
    obtain ⟨⟨hn, ho⟩, _⟩ := hc
    cases hxs : xs.toList.drop n with
    | nil => simp [hxs, fitL] at hx
    | cons x xt => cases hys : ys.toList.drop n with
      | nil => simp [hys, fitL] at hy
      | cons y yt =>
        have hx0 : xs.toList[n]? = some x := by have := congrArg (·[0]?) hxs; simpa using this
        have hy0 : ys.toList[n]? = some y := by have := congrArg (·[0]?) hys; simpa using this
        have hxt : xs.toList.drop (n + 1) = xt := by rw [← List.drop_drop, hxs]; rfl
        have hyt : ys.toList.drop (n + 1) = yt := by rw [← List.drop_drop, hys]; rfl
        rw [hxs] at hx
        rw [hys] at hy
        simp [fitL] at hx hy
        have ih := run_eqFields d xs ys fs (n + 1) ss h2 (by rw [hxt]; exact hx.2) (by rw [hyt]; exact hy.2) w
        rw [hxt, hyt] at ih
        have p1 := skOf_part h1 hx0 w
        have p2 := skOf_part h1 hy0 w
        have p3 := run_equalIn_scalar h1 hx.1 hy.1 d w
        subst ho
        simp only [Op.eqFields, ne_eq, hn, not_false_eq_true, if_true, Sem.run_bind, p1, p2, p3, Result.andThen_ok, seqL]
        cases seq1 x y <;> simp [ih]

theorem structSK_spec {t : TypeId} {ks : List SK} (h : structSK P t = some ks) : ∃ fs, P.underlying t = some (.struct fs) ∧ flatFields P fs.toList 0 = some ks ∧ P.eqGuardType P.depth t = false ∧ P.stoodInHeld t = false := by
  unfold structSK at h
  split at h
  case h_2 => cases h
  rename_i fs hu
  split at h
  case h_2 => cases h
  rename_i ss hf
  split at h
  case isFalse => cases h
  rename_i hc
  simp at hc
  cases h
  exact ⟨fs, hu, hf, hc.1.1, hc.1.2⟩

theorem run_equalIn_structSK {t : TypeId} {ks : List SK} (h : structSK P t = some ks) {xs ys : Array Value} (hx : fitL ks xs.toList = true) (hy : fitL ks ys.toList = true) (d : Nat) (w : World) :
    (Op.equalIn (d + 2) t (.agg xs) (.agg ys)).run P w = .ok (seqL xs.toList ys.toList) w := by
  obtain ⟨fs, hu, hf, hg, hst⟩ := structSK_spec h
  have hfo : P.fieldsOf t = fs := by simp [Program.fieldsOf, hu]
  rw [run_equalIn_struct w (d + 1) t xs ys (by rw [hfo]; exact hu) hst, hfo]
  simpa using run_eqFields d xs ys fs.toList 0 ks hf (by simpa using hx) (by simpa using hy) w

theorem good_eqs (hs : Sim C base ι h w) (hρ : OpdRep ι e ρ) {neg : Bool} {t yt : TypeId} {x y : Operand} {a b : Opd} {ks : List SK} (ha : copd x = some a) (hb : copd y = some b)
    (hu : structSK P t = some ks) {v : Value} {h' : Heap}
    (hi : iop (.eqs ks neg a b) e h = some (v, h')) : Good C base P ρ (.binOp (eqOp neg) t x y yt) ι h w v h' := by
  simp only [iop] at hi
  have hx := hρ.1 _ _ ha
  have hy := hρ.1 _ _ hb
  generalize ev e a = p at *
  generalize ev e b = q at *
  split at hi
  case h_2 => cases hi
  rename_i xs ys
  split at hi
  case isFalse => cases hi
  rename_i hf
  simp at hf
  cases hi
  obtain ⟨xs', hx1, hx2⟩ := rep_aggL hx
  obtain ⟨ys', hy1, hy2⟩ := rep_aggL hy
  have e1 : xs' = xs := Array.ext' (fitL_rep hf.1 hx2.toL)
  have e2 : ys' = ys := Array.ext' (fitL_rep hf.2 hy2.toL)
  subst e1; subst e2
  have hr := run_equalIn_structSK hu hf.1 hf.2 9998 w
  obtain ⟨fs, hu1, hu2, hg, hst⟩ := structSK_spec hu
  refine good_pure hs (v' := .bool (seqL xs'.toList ys'.toList != neg)) (fun o ho => ?_) (.bool _)
  cases neg
  · simp [execOp, ho, hx1, hy1, run_eqGuard_agg w .eql t x y xs' ys' hg, run_eql_struct, hr, eqOp]
  · simp [execOp, ho, hx1, hy1, run_eqGuard_agg w .neq t x y xs' ys' hg, run_neq_struct, hr, eqOp]

theorem eqn1 {t u : TypeId} (h : P.underlying t = some (.pointer u)) (a : Option Addr) (w : World) : (Op.equalIn 10000 t (.pointer a) (.pointer none)).run P w = .ok a.isNone w := by
  have g : ∀ d, (Op.equalIn (d + 1) t (.pointer a) (.pointer none)).run P w = .ok a.isNone w := fun d => by cases a <;> simp [Op.equalIn, run_underlying h]
  exact g 9999
theorem eqn2 {t u : TypeId} (h : P.underlying t = some (.slice u)) (a : Option Addr) (l c : Nat) (w : World) : (Op.equalIn 10000 t (.slice a l c) (.slice none 0 0)).run P w = .ok a.isNone w := by
  have g : ∀ d, (Op.equalIn (d + 1) t (.slice a l c) (.slice none 0 0)).run P w = .ok a.isNone w := fun d => by cases a <;> simp [Op.equalIn, run_underlying h]
  exact g 9999
theorem eqn3 {t u v : TypeId} (h : P.underlying t = some (.map u v)) (a : Option Nat) (w : World) : (Op.equalIn 10000 t (.map a) (.map none)).run P w = .ok a.isNone w := by
  have g : ∀ d, (Op.equalIn (d + 1) t (.map a) (.map none)).run P w = .ok a.isNone w := fun d => by cases a <;> simp [Op.equalIn, run_underlying h]
  exact g 9999
theorem eqn4 {t : TypeId} {a b : Array TypeId} {c : Bool} (h : P.underlying t = some (.func a b c)) (w : World) : (Op.equalIn 10000 t .nilFunc .nilFunc).run P w = .ok true w := by
  have g : ∀ d, (Op.equalIn (d + 1) t .nilFunc .nilFunc).run P w = .ok true w := fun d => by simp [Op.equalIn, run_underlying h]
  exact g 9999
theorem eqn5 {t : TypeId} {a b : Array TypeId} {c : Bool} (h : P.underlying t = some (.func a b c)) (f : Fn) (x y : Array Value) (w : World) : (Op.equalIn 10000 t (.func f x y) .nilFunc).run P w = .ok false w := by
  have g : ∀ d, (Op.equalIn (d + 1) t (.func f x y) .nilFunc).run P w = .ok false w := fun d => by simp [Op.equalIn, run_underlying h]
  exact g 9999
theorem eqn6 {t : TypeId} {m : Array (String × TypeId)} (h : P.underlying t = some (.interface m)) (w : World) : (Op.equalIn 10000 t .nilIface .nilIface).run P w = .ok true w := by
  have g : ∀ d, (Op.equalIn (d + 1) t .nilIface .nilIface).run P w = .ok true w := fun d => by simp [Op.equalIn, run_underlying h]
  exact g 9999
theorem eqn7 {t u : TypeId} {m : Array (String × TypeId)} (h : P.underlying t = some (.interface m)) (v : Value) (w : World) : (Op.equalIn 10000 t (.iface u v) .nilIface).run P w = .ok false w := by
  have g : ∀ d, (Op.equalIn (d + 1) t (.iface u v) .nilIface).run P w = .ok false w := fun d => by simp [Op.equalIn, run_underlying h]
  exact g 9999

theorem good_isnil (hs : Sim C base ι h w) (hρ : OpdRep ι e ρ) {neg : Bool} {t yt : TypeId} {x : Operand} {c : Value} {a : Opd} {k : NK} {d : TypeDesc} (ha : copd x = some a)
    (hu : P.underlying t = some d) (hk : (∃ u, d = .pointer u ∧ k = .ptr ∧ c = .pointer none) ∨ (∃ u, d = .slice u ∧ k = .sl ∧ c = .slice none 0 0) ∨ (∃ u v, d = .map u v ∧ k = .mp ∧ c = .map none) ∨
      (∃ a b f, d = .func a b f ∧ k = .fn ∧ c = .nilFunc) ∨ ∃ m, d = .interface m ∧ k = .ifc ∧ c = .nilIface) {v : Value} {h' : Heap}
    (hi : iop (.isnil k neg a) e h = some (v, h')) : Good C base P ρ (.binOp (eqOp neg) t x (.const c) yt) ι h w v h' := by
  simp only [iop] at hi
  obtain ⟨b, hb, hp⟩ := opt_map hi
  cases hp
  have hx := hρ.1 _ _ ha
  generalize ev e a = p at *
  generalize hu' : ρ x = u at hx
  have hc : ρ (.const c) = c := hρ.2 c
  have fin : (eqGuard (eqOp neg) t x (.const c) u c).run P w = .ok () w → (binOp (eqOp neg) t u c).run P w = .ok (.bool (b != neg)) w → Good C base P ρ (.binOp (eqOp neg) t x (.const c) yt) ι h w (.bool (b != neg)) h := by
    intro h1 h2
    refine good_pure hs (v' := .bool (b != neg)) (fun o ho => ?_) (.bool _)
    simp [execOp, ho, hu', hc, h1, h2]
  refine fin ?_ ?_
  · rcases hk with ⟨_, rfl, rfl, rfl⟩ | ⟨_, rfl, rfl, rfl⟩ | ⟨_, _, rfl, rfl, rfl⟩ | ⟨_, _, _, rfl, rfl, rfl⟩ | ⟨_, rfl, rfl, rfl⟩ <;>
      cases hx <;> simp [nilV] at hb <;> cases neg <;> simp [eqGuard, eqOp]
  · rcases hk with ⟨_, rfl, rfl, rfl⟩ | ⟨_, rfl, rfl, rfl⟩ | ⟨_, _, rfl, rfl, rfl⟩ | ⟨_, _, _, rfl, rfl, rfl⟩ | ⟨_, rfl, rfl, rfl⟩ <;>
      cases hx <;> simp [nilV] at hb <;> subst hb <;> cases neg <;> first | (simp [eqOp, binOp, Op.equal, Op.maxDepth, eqn1 hu]; done) | (simp [eqOp, binOp, Op.equal, Op.maxDepth, eqn2 hu]; done) | (simp [eqOp, binOp, Op.equal, Op.maxDepth, eqn3 hu]; done) | (simp [eqOp, binOp, Op.equal, Op.maxDepth, eqn4 hu]; done) | (simp [eqOp, binOp, Op.equal, Op.maxDepth, eqn5 hu]; done) | (simp [eqOp, binOp, Op.equal, Op.maxDepth, eqn6 hu]; done) | (simp [eqOp, binOp, Op.equal, Op.maxDepth, eqn7 hu]; done)

theorem good_un (hs : Sim C base ι h w) (hρ : OpdRep ι e ρ) {op : UnOp} {t : TypeId} {x : Operand} {a : Opd} (ha : copd x = some a) {v : Value} {h' : Heap}
    (hi : iop (.un op a) e h = some (v, h')) : Good C base P ρ (.unOp op t x) ι h w v h' := by
  simp only [iop] at hi
  obtain ⟨v', hv, hp⟩ := opt_map hi
  cases hp
  have hx := hρ.1 _ _ ha
  generalize ev e a = p at *
  unfold unV at hv
  split at hv
  · have hx := rep_int hx
    split at hv
    · cases hv
      exact good_pure hs (fun o ho => by simp [execOp, ho, hx, Op.unary, Op.intArith]) (.int _ _)
    · cases hv
      exact good_pure hs (fun o ho => by simp [execOp, ho, hx, Op.unary, Op.intBits]) (.int _ _)
    · cases hv
  · have hx := rep_bool hx
    split at hv
    · cases hv
      exact good_pure hs (fun o ho => by simp [execOp, ho, hx, Op.unary]) (.bool _)
    · cases hv
  · cases hv

theorem good_conv (hs : Sim C base ι h w) (hρ : OpdRep ι e ρ) {s d : TypeId} {k k' : IntKind} {x : Operand} {a : Opd} (ha : copd x = some a) (h1 : P.underlying s = some (.int k')) (h2 : P.underlying d = some (.int k))
    {v : Value} {h' : Heap} (hi : iop (.conv k a) e h = some (v, h')) : Good C base P ρ (.convert s d x) ι h w v h' := by
  simp only [iop] at hi
  have hx := hρ.1 _ _ ha
  generalize ev e a = p at *
  split at hi
  case h_2 => cases hi
  cases hi
  have hx := rep_int hx
  exact good_pure hs (fun o ho => by simp [execOp, ho, hx, convert, run_underlying h1, run_underlying h2, Conv.intToInt]) (.int _ _)

theorem good_iface (hs : Sim C base ι h w) (hρ : OpdRep ι e ρ) {t : TypeId} {d : TypeDesc} {x : Operand} {a : Opd} (ha : copd x = some a) (h1 : P.underlying t = some d) (h2 : ∀ m, d ≠ .interface m) :
    Good C base P ρ (.makeInterface t x) ι h w (.iface t (ev e a)) h := by
  refine good_pure hs (v' := .iface t (ρ x)) (fun o ho => ?_) (.iface (hρ.1 _ _ ha))
  cases d <;> first | (exact absurd rfl (h2 _)) | simp [execOp, ho, Instr.makeInterface, run_underlying h1]

theorem good_fn (hs : Sim C base ι h w) (hρ : OpdRep ι e ρ) {f : FuncId} {xs ys : Array Operand} {as bs : List Opd} (ha : copds xs.toList = some as) (hb : copds ys.toList = some bs) :
    Good C base P ρ (.makeFunc (.func f) xs ys) ι h w (.func (.func f) (as.map (ev e)).toArray (bs.map (ev e)).toArray) h := by
  have h1 := copds_rep hρ ha
  have h2 := copds_rep hρ hb
  refine good_pure hs (v' := .func (.func f) (xs.map ρ) (ys.map ρ)) (fun o ho => by simp [execOp, ho, Instr.makeFunc]) ?_
  refine .func (by simpa using h1.1) (fun k v v' h3 h4 => h1.2 k v v' (by simpa using h3) (by simpa using h4)) (by simpa using h2.1) (fun k v v' h3 h4 => h2.2 k v v' (by simpa using h3) (by simpa using h4))

end Go.Idl
