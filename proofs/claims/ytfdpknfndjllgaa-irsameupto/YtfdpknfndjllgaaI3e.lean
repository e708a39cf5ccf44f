/- Each operation, fifth part: slice expressions, maps. -/
import Derived.Test.YtfdpknfndjllgaaI3d
namespace Go.Idl
set_option linter.unusedVariables false
set_option linter.unusedSimpArgs false

variable {C : Nat → IC → Code → Prop} {base : Nat} {ι : Inj} {h : Heap} {w : World} {P : Program} {ρ : Operand → Value} {e : Env}

theorem bndV_spec {hi n : Nat} {v v' : Value} (hb : bndV 0 hi v = some n) (hr : Rep ι v v') : n ≤ hi ∧ ∀ y, hi ≤ y → ∀ code w, (Instr.sliceBound v' y code).run P w = .ok n w := by
  unfold bndV at hb
  split at hb
  case h_2 => cases hb
  split at hb
  case isFalse => cases hb
  rename_i k i hc
  cases hb
  have hv := rep_int hr
  refine ⟨by omega, fun y hy code w => ?_⟩
  have h1 : (0 : Int) ≤ i := by simpa using hc.1
  have h2 : i ≤ (y : Int) := by omega
  simp [Instr.sliceBound, hv, asIntOf, h1, h2]

/-- A bound that may be left out. -/
theorem bndO_spec (hρ : OpdRep ι e ρ) {hi dflt n : Nat} {o : Option Operand} {q : Option Opd} (hq : copdO o = some q) (hb : bndO e 0 hi dflt q = some n) :
    (o = none ∧ n = dflt) ∨ ∃ x, o = some x ∧ n ≤ hi ∧ ∀ y, hi ≤ y → ∀ code w, (Instr.sliceBound (ρ x) y code).run P w = .ok n w := by
  cases o with
  | none => simp [copdO] at hq; subst hq; simp [bndO] at hb; exact .inl ⟨rfl, hb.symm⟩
  | some x =>
    simp only [copdO] at hq
    obtain ⟨a, ha, rfl⟩ := opt_map hq
    simp only [bndO] at hb
    obtain ⟨h1, h2⟩ := bndV_spec (P := P) hb (hρ.1 _ _ ha)
    exact .inr ⟨x, rfl, h1, h2⟩

theorem run_bounds_str (hρ : OpdRep ι e ρ) {n b a : Nat} {lo hi : Option Operand} {ql qh : Option Opd} (hl : copdO lo = some ql) (hh : copdO hi = some qh) (h1 : bndO e 0 n n qh = some b) (h2 : bndO e 0 b 0 ql = some a) (isSl : Bool) (c : Nat) (hc : n ≤ c) (w : World) :
    (Instr.sliceBounds isSl n c (lo.map ρ) (hi.map ρ) none).run P w = .ok (a, b, c) w ∧ a ≤ b ∧ b ≤ n := by
  have h3 := bndO_spec (P := P) hρ hh h1
  have h4 := bndO_spec (P := P) hρ hl h2
  have hbn : b ≤ n := by rcases h3 with ⟨_, rfl⟩ | ⟨_, _, h, _⟩ <;> omega
  have hab : a ≤ b := by rcases h4 with ⟨_, rfl⟩ | ⟨_, _, h, _⟩ <;> omega
  refine ⟨?_, hab, hbn⟩
  rcases h3 with ⟨rfl, rfl⟩ | ⟨x, rfl, _, hx⟩ <;> rcases h4 with ⟨rfl, rfl⟩ | ⟨y, rfl, _, hy⟩
  · simp [Instr.sliceBounds]
  · simp [Instr.sliceBounds, hy _ (Nat.le_refl _)]
  · simp [Instr.sliceBounds, hx _ hc]
  · simp [Instr.sliceBounds, hx _ hc, hy _ (Nat.le_refl _)]

theorem good_sub_str (hs : Sim C base ι h w) (hρ : OpdRep ι e ρ) {t : TypeId} {x : Operand} {a : Opd} {lo hi : Option Operand} {ql qh : Option Opd} {mx : Option Operand} {qm : Option Opd} (hu : P.underlying t = some .string) (ha : copd x = some a)
    (hl : copdO lo = some ql) (hh : copdO hi = some qh) (hm : copdO mx = some qm) {v : Value} {h' : Heap} (hi' : iop (.sub .str a ql qh qm) e h = some (v, h')) : Good C base P ρ (.slice t x lo hi mx) ι h w v h' := by
  simp only [iop] at hi'
  have hx := hρ.1 _ _ ha
  generalize ev e a = p at *
  cases p <;> (try dsimp only at hi') <;> try cases hi'
  rename_i s
  split at hi'
  case h_2 => cases hi'
  rename_i b hb
  split at hi'
  case h_2 => cases hi'
  rename_i k hk
  split at hi'
  case h_2 => cases hi'
  cases hi'
  have hmn : mx = none := by cases mx with | none => rfl | some m => simp [copdO] at hm
  subst hmn
  have hx' := rep_string hx
  obtain ⟨hrun, hab, hbn⟩ := run_bounds_str (P := P) hρ hl hh hb hk false s.size (Nat.le_refl _) w
  refine good_pure hs (v' := .string (s.extract k b)) (fun o ho => ?_) (.string _)
  simp [execOp, ho, hx', Instr.sliceAt, run_underlying hu, Instr.slice, hrun]

theorem okSz_spec (hs : Sim C base ι h w) {b size : Nat} {i : BI} (hi : ι b = some i) (ho : okSz h b size = true) : i.esz = 0 ∨ i.esz = size := by
  unfold okSz at ho
  split at ho
  · rename_i cs own esz hb
    obtain ⟨o', ho', hr⟩ := hs.blk b _ i hb hi
    cases o' <;> simp only [BRel] at hr
    simp at ho
    rw [hr.2.2.2.1]; exact ho
  · cases ho

/-- What a slice expression comes to, in both. -/
theorem rep_sub {bk o len cap c' l b m size : Nat} {i : BI} {a' : Addr} {mx : Option Nat} (hι : ι bk = some i) (hlb : l ≤ b) (hbl : b ≤ len) (hlc : len ≤ c') (hex : cap = len → c' = len)
    (had : c' ≠ 0 → a' = ⟨i.blk, o + i.sh, none⟩) (hes : 0 < i.esz → c' ≠ 0 → o + i.sh + c' * i.esz ≤ i.top) (hsz : i.esz = 0 ∨ i.esz = size) (hm : (mx = none ∧ m = c') ∨ (mx = some m ∧ b ≤ m ∧ m ≤ len)) :
    Rep ι (subSl size len cap l b mx (some ⟨bk, o, none⟩)) (.slice (if m = l then some a' else (some a').map (·.add (l * size))) (b - l) (m - l)) := by
  have hbm : b ≤ m := by rcases hm with ⟨_, rfl⟩ | ⟨_, h, _⟩ <;> omega
  have hmc : m ≤ c' := by rcases hm with ⟨_, rfl⟩ | ⟨_, _, h⟩ <;> omega
  obtain ⟨a2, ha2, ha3⟩ : ∃ a2, (if m = l then some a' else (some a').map (·.add (l * size))) = some a2 ∧ (m ≠ l → a2 = a'.add (l * size)) := by
    by_cases e : m = l
    · exact ⟨a', by rw [if_pos e], fun h => absurd e h⟩
    · exact ⟨a'.add (l * size), by rw [if_neg e]; rfl, fun _ => rfl⟩
  rw [ha2]
  simp only [subSl, Option.map_some]
  refine Rep.slice hι (by omega) (fun hcap => ?_) (fun hne => ?_) (fun h1 h2 => ?_)
  · rcases hm with ⟨rfl, rfl⟩ | ⟨rfl, h1, h2⟩
    · simp only at hcap
      split at hcap
      · rename_i hc; have := hex hc.1; omega
      · omega
    · simp only at hcap
      split at hcap
      · omega
      · omega
  · rw [ha3 (by omega), had (by omega), addr_add]
    congr 1; omega
  · have h3 := hes h1 (by omega)
    have h4 : l * size + (m - l) * i.esz ≤ c' * i.esz := by
      rcases hsz with h | h
      · omega
      · rw [← h, ← Nat.add_mul]; exact Nat.mul_le_mul_right _ (by omega)
    omega

theorem good_sub_sl (hs : Sim C base ι h w) (hρ : OpdRep ι e ρ) {t el : TypeId} {size : Nat} {x : Operand} {a : Opd} {lo hi : Option Operand} {ql qh : Option Opd} {mx : Option Operand} {qm : Option Opd} (hu : P.underlying t = some (.slice el)) (hz : tsize P el = some size) (ha : copd x = some a)
    (hl : copdO lo = some ql) (hh : copdO hi = some qh) (hm : copdO mx = some qm) {v : Value} {h' : Heap} (hi' : iop (.sub (.sl size) a ql qh qm) e h = some (v, h')) : Good C base P ρ (.slice t x lo hi mx) ι h w v h' := by
  simp only [iop] at hi'
  have hx := hρ.1 _ _ ha
  generalize ev e a = p at *
  cases p <;> (try dsimp only at hi') <;> try cases hi'
  rename_i ad len cap
  split at hi'
  case h_1 => cases hi'
  rename_i m hmm
  split at hi'
  case h_2 => cases hi'
  rename_i b hb
  split at hi'
  case h_2 => cases hi'
  rename_i l hlo
  split at hi'
  case isTrue => cases hi'
  rename_i hok
  simp at hok
  cases hi'
  obtain ⟨hok1, hok2⟩ := hok
  have run0 : ∀ (A : Option Addr) (c' m' : Nat), (Instr.sliceBounds true len c' (lo.map ρ) (hi.map ρ) (mx.map ρ)).run P w = .ok (l, b, m') w → ρ x = .slice A len c' →
      ∀ o : Oper, o.op = .slice t x lo hi mx → (execOp ρ o).run P w = .ok (.value (.slice (if m' = l then A else A.map (·.add (l * size))) (b - l) (m' - l))) w := by
    intro A c' m' hr hxx o ho
    simp [execOp, ho, hxx, Instr.sliceAt, run_underlying hu, Instr.slice, hr, run_sizeOf' hz]
  have bounds : ∀ c', len ≤ c' → ∃ m', (Instr.sliceBounds true len c' (lo.map ρ) (hi.map ρ) (mx.map ρ)).run P w = .ok (l, b, m') w ∧ l ≤ b ∧ b ≤ len ∧ ((m = none ∧ m' = c') ∨ (m = some m' ∧ b ≤ m' ∧ m' ≤ len)) := by
    intro c' hc
    cases mx with
    | none =>
      simp [copdO] at hm; subst hm
      simp at hmm; subst hmm
      obtain ⟨hrun, hab, hbn⟩ := run_bounds_str (P := P) hρ hl hh hb hlo true c' hc w
      exact ⟨c', hrun, hab, hbn, .inl ⟨rfl, rfl⟩⟩
    | some mo =>
      simp only [copdO] at hm
      obtain ⟨ma, hma, rfl⟩ := opt_map hm
      obtain ⟨mn, hmn, rfl⟩ := opt_map hmm
      obtain ⟨g1, g2⟩ := bndV_spec (P := P) hmn (hρ.1 _ _ hma)
      simp only [Option.getD_some] at hb
      have h3 := bndO_spec (P := P) hρ hh hb
      have h4 := bndO_spec (P := P) hρ hl hlo
      have hhi : ∃ y, hi = some y := by
        cases hi with
        | none => simp [copdO] at hh; subst hh; simp at hok1
        | some y => exact ⟨y, rfl⟩
      obtain ⟨y, rfl⟩ := hhi
      rcases h3 with ⟨h, _⟩ | ⟨y', hy, hbm, hrb⟩
      · cases h
      cases hy
      have hab : l ≤ b := by rcases h4 with ⟨_, rfl⟩ | ⟨_, _, h, _⟩ <;> omega
      refine ⟨mn, ?_, hab, by omega, .inr ⟨rfl, hbm, g1⟩⟩
      rcases h4 with ⟨rfl, rfl⟩ | ⟨z, rfl, _, hz'⟩
      · simp [Instr.sliceBounds, g2 _ hc, hrb _ (Nat.le_refl _)]
      · simp [Instr.sliceBounds, g2 _ hc, hrb _ (Nat.le_refl _), hz' _ (Nat.le_refl _)]
  cases ad with
  | none =>
    obtain ⟨hx', rfl, rfl⟩ := rep_nilsl hx
    obtain ⟨m', hrun, hab, hbn, hmm'⟩ := bounds 0 (Nat.le_refl _)
    have hb0 : b = 0 := by omega
    have hl0 : l = 0 := by omega
    have hm0 : m' = 0 := by rcases hmm' with ⟨_, rfl⟩ | ⟨_, _, h⟩ <;> omega
    subst hb0; subst hl0; subst hm0
    have := run0 none 0 0 hrun hx'
    refine good_pure hs this ?_
    have : subSl size 0 0 0 0 m none = .slice none 0 0 := by
      rcases hmm' with ⟨rfl, _⟩ | ⟨rfl, _⟩ <;> simp [subSl]
    rw [this]; exact .snil
  | some ad =>
    obtain ⟨bk, o, sp⟩ := ad
    have hsp : sp = none := by generalize ρ x = u at hx; cases hx; rfl
    subst hsp
    obtain ⟨a', c', i, hx', hι, hle, hex, had, hes⟩ := rep_slice hx
    obtain ⟨m', hrun, hab, hbn, hmm'⟩ := bounds c' hle
    exact good_pure hs (run0 (some a') c' m' hrun hx') (rep_sub hι hab hbn hle hex had hes (okSz_spec hs hι (by simpa [okSzO] using hok2)) hmm')

theorem good_sub_ar (hs : Sim C base ι h w) (hρ : OpdRep ι e ρ) {t el : TypeId} {n size : Nat} {x : Operand} {a : Opd} {lo hi : Option Operand} {ql qh : Option Opd} {mx : Option Operand} {qm : Option Opd} (hu : P.underlying t = some (.array n el)) (hz : tsize P el = some size) (ha : copd x = some a)
    (hl : copdO lo = some ql) (hh : copdO hi = some qh) (hm : copdO mx = some qm) {v : Value} {h' : Heap} (hi' : iop (.sub (.ar n size) a ql qh qm) e h = some (v, h')) : Good C base P ρ (.slice t x lo hi mx) ι h w v h' := by
  simp only [iop] at hi'
  have hx := hρ.1 _ _ ha
  generalize ev e a = p at *
  cases p <;> (try dsimp only at hi') <;> try cases hi'
  rename_i ad
  cases ad with
  | none => cases hi'
  | some ad =>
    obtain ⟨bk, o, sp⟩ := ad
    have hsp : sp = none := by generalize ρ x = u at hx; cases hx; rfl
    subst hsp
    dsimp only at hi'
    split at hi'
    case h_2 => cases hi'
    rename_i b hb
    split at hi'
    case h_2 => cases hi'
    rename_i l hlo
    split at hi'
    case h_2 => cases hi'
    split at hi'
    case isFalse => cases hi'
    rename_i hok
    cases hi'
    have hmn : mx = none := by cases mx with | none => rfl | some m => simp [copdO] at hm
    subst hmn
    obtain ⟨i, hι, hx'⟩ := rep_ptr hx
    obtain ⟨hrun, hab, hbn⟩ := run_bounds_str (P := P) hρ hl hh hb hlo false n (Nat.le_refl _) w
    have hez : i.esz = 0 := by have := okSz_spec hs hι hok; omega
    have := rep_sub (size := size) (o := o) (a' := ⟨i.blk, o + i.sh, none⟩) hι hab hbn (Nat.le_refl _) (cap := n) (fun _ => rfl) (fun _ => rfl) (fun h _ => by omega) (.inl hez) (mx := none) (.inl ⟨rfl, rfl⟩)
    refine good_pure hs (fun o ho => ?_) this
    simp [execOp, ho, hx', Instr.sliceAt, run_underlying hu, Instr.sureAddr, hrun, run_sizeOf' hz]
    split <;> rfl

/-! ### maps -/
theorem skOf_keyT {t : TypeId} {s : SK} (h : skOf P t = some s) {v : Value} (hv : fit1 s v = true) (b : Bool) (n : Nat) (w : World) : (Instr.checkKey b (n + 1) t v).run P w = .ok () w := by
  obtain ⟨d, hd, hh⟩ := skOf_spec h
  rcases hh with ⟨rfl, rfl⟩ | ⟨k, rfl, rfl⟩ | ⟨rfl, rfl⟩ <;> simp [Instr.checkKey, run_underlying hd]

theorem run_checkFields (b : Bool) (n : Nat) (xs : Array Value) : ∀ (fs : List Field) (m : Nat) (ks : List SK), flatFields P fs m = some ks → fitL ks (xs.toList.drop m) = true →
    ∀ w, (forIn fs PUnit.unit fun (f : Field) (_ : PUnit) => (do
      if f.name ≠ "_" then do
        let v ← part f.type xs f.offset
        Instr.checkKey b (n + 1) f.type v
        pure (ForInStep.yield PUnit.unit)
      else pure (ForInStep.yield PUnit.unit) : Sem (ForInStep PUnit))).run P w = .ok PUnit.unit w
  | [], m, ks, hf, hx, w => by simp
  | f :: fs, m, ks, hf, hx, w => by
    simp only [flatFields] at hf
    split at hf
    case h_2 => cases hf
    rename_i s ss h1 h2
    split at hf
    case isFalse => cases hf
    rename_i hc
    simp at hc
    cases hf
    obtain ⟨⟨hn, ho⟩, _⟩ := hc
    cases hxs : xs.toList.drop m with
    | nil => simp [hxs, fitL] at hx
    | cons x xt =>
      have hx0 : xs.toList[m]? = some x := by have := congrArg (·[0]?) hxs; simpa using this
      have hxt : xs.toList.drop (m + 1) = xt := by rw [← List.drop_drop, hxs]; rfl
      rw [hxs] at hx
      simp [fitL] at hx
      have ih := run_checkFields b n xs fs (m + 1) ss h2 (by rw [hxt]; exact hx.2) w
      have p1 := skOf_part h1 hx0 w
      subst ho
      simp only [List.forIn_cons, Sem.run_bind, ne_eq, hn, not_false_eq_true, if_true, p1, Result.andThen_ok, skOf_keyT h1 hx.1, Sem.run_pure]
      exact ih

/-- A key, in both: the very same value; what the model asks of it holds. -/
theorem key_spec {kt : TypeId} {kk : KK} (hk : kkOf P kt = some kk) {v v' : Value} {ks : List Value} (hv : keyOf kk v = some ks) (hr : Rep ι v v') :
    v' = v ∧ cellsV v = ks ∧ ∀ b w, (Instr.checkKey b 10000 kt v).run P w = .ok () w := by
  unfold kkOf at hk
  split at hk
  · rename_i s hs
    cases hk
    simp only [keyOf] at hv
    split at hv
    case isFalse => cases hv
    rename_i hf
    cases hv
    refine ⟨fit1_rep hf hr, ?_, fun b w => skOf_keyT hs hf b 9999 w⟩
    cases v <;> simp_all [cellsV, fit1]
  · obtain ⟨ss, hss, rfl⟩ := opt_map hk
    cases v <;> simp only [keyOf, reduceCtorEq] at hv
    rename_i cs
    split at hv
    case isFalse => cases hv
    rename_i hf
    cases hv
    obtain ⟨cs', hv', hrc⟩ := rep_aggL hr
    have e := fitL_rep hf hrc.toL
    have e' : cs' = cs := Array.ext' e
    subst e'
    refine ⟨hv', rfl, fun b w => ?_⟩
    obtain ⟨fs, hu, hff, _, _⟩ := structSK_spec hss
    have g : ∀ n, (Instr.checkKey b (n + 1 + 1) kt (.agg cs')).run P w = .ok () w := by
      intro n
      have := run_checkFields (P := P) b n cs' fs.toList 0 ss hff (by simpa using hf) w
      unfold Instr.checkKey
      simp only [Sem.run_bind, run_underlying hu, Result.andThen_ok]
      rw [← Array.forIn_toList, this]
      rfl
    exact g 9998

theorem bytes_beq (a b : ByteArray) : (a == b) = decide (a = b) := by rw [beq_toListBytes, string_eq_iff]

/-- The first entry with a key. -/
def srch (ks : List Value) : List MapEntry → Nat → Option (Nat × Value)
  | [], _ => none
  | x :: es, n => if seqL ks (cellsV x.key) then some (n, x.val) else srch ks es (n + 1)

theorem findNow_spec {kt : TypeId} {s : SK} {d : TypeDesc} (hu : P.underlying kt = some d) (hs : skOf P kt = some s) {k : Value} (hk : fit1 s k = true) :
    ∀ (es' : List MapEntry) (n : Nat), (∀ x ∈ es', fit1 s x.key = true) → Instr.findNow d k es' n = some (srch [k] es' n)
  | [], n, _ => rfl
  | x :: es', n, hf => by
    have hfa := hf x (by simp)
    have hsame : Instr.sameNow d k x.key = some (seqL [k] (cellsV x.key)) := by
      obtain ⟨dd, hd, h⟩ := skOf_spec hs
      rw [hu] at hd; cases hd
      obtain ⟨xk, xv, xb⟩ := x
      simp only at hfa ⊢
      rcases h with ⟨rfl, rfl⟩ | ⟨q, rfl, rfl⟩ | ⟨rfl, rfl⟩ <;> cases k <;> simp [fit1] at hk <;> cases xk <;> simp [fit1] at hfa
      · simp [Instr.sameNow, cellsV, seqL, seq1]
      · simp [Instr.sameNow, cellsV, seqL, seq1, ← hk, ← hfa]
      · simp [Instr.sameNow, cellsV, seqL, seq1, bytes_beq]
    simp only [Instr.findNow, srch, hsame]
    cases hq : seqL [k] (cellsV x.key) with
    | true => rfl
    | false => simpa using findNow_spec hu hs hk es' (n + 1) (fun y hy => hf y (by simp [hy]))

theorem findAsking_spec {kt : TypeId} {ss : List SK} (hs : structSK P kt = some ss) {cs : Array Value} (hk : fitL ss cs.toList = true) :
    ∀ (es' : List MapEntry) (n : Nat), (∀ x ∈ es', ∃ ys, x.key = .agg ys ∧ fitL ss ys.toList = true) → (Instr.findAsking kt (.agg cs) es' n).run P w = .ok (srch cs.toList es' n) w
  | [], n, _ => by simp [Instr.findAsking, srch]
  | x :: es', n, hf => by
    obtain ⟨ys, hx, hys⟩ := hf x (by simp)
    have h1 : (Op.equal kt (.agg cs) x.key).run P w = .ok (seqL cs.toList ys.toList) w := by
      rw [hx]; exact run_equalIn_structSK hs hk hys 9998 w
    have ih := findAsking_spec hs hk es' (n + 1) (fun y hy => hf y (by simp [hy]))
    rw [hx] at h1
    simp only [Instr.findAsking, Sem.run_bind, hx, h1, Result.andThen_ok, srch, cellsV]
    cases hq : seqL cs.toList ys.toList with
    | true => simp
    | false => simpa using ih

theorem findKey_spec {kt : TypeId} {kk : KK} (hkk : kkOf P kt = some kk) {k : Value} {ks : List Value} (hk : keyOf kk k = some ks) (es' : List MapEntry) (hf : ∀ x ∈ es', ∃ ys, keyOf kk x.key = some ys) :
    (Instr.findKey kt k es').run P w = .ok (srch ks es' 0) w := by
  unfold kkOf at hkk
  split at hkk
  · rename_i s hs
    cases hkk
    obtain ⟨d, hd, _⟩ := skOf_spec hs
    simp only [keyOf] at hk
    split at hk
    case isFalse => cases hk
    rename_i hfk
    cases hk
    have := findNow_spec hd hs hfk es' 0 (fun x hx => by
      obtain ⟨ys, hy⟩ := hf x hx
      simp only [keyOf] at hy
      split at hy
      · assumption
      · cases hy)
    simp [Instr.findKey, run_underlying hd, this]
  · obtain ⟨ss, hss, rfl⟩ := opt_map hkk
    obtain ⟨fs, hu, _⟩ := structSK_spec hss
    cases k <;> simp only [keyOf, reduceCtorEq] at hk
    rename_i cs
    split at hk
    case isFalse => cases hk
    rename_i hfk
    cases hk
    have := findAsking_spec (w := w) hss hfk es' 0 (fun x hx => by
      obtain ⟨ys, hy⟩ := hf x hx
      generalize x.key = q at hy ⊢
      cases q <;> simp only [keyOf, reduceCtorEq] at hy
      split at hy
      · exact ⟨_, rfl, by assumption⟩
      · cases hy)
    cases es' with
    | nil => simp [Instr.findKey, run_underlying hu, Instr.findNow, srch]
    | cons x es' => simp [Instr.findKey, run_underlying hu, Instr.findNow, Instr.sameNow, this]

/-- The two maps, entry by entry. -/
theorem srch_spec (ks : List Value) (kv v : Value) : ∀ (es : List (Value × Value)) (es' : List MapEntry) (n : Nat), es.length = es'.length → (∀ (j : Nat) a u x, es[j]? = some (a, u) → es'[j]? = some x → x.key = a) →
    (findK ks es = none ∧ srch ks es' n = none ∧ setK ks kv v es = es ++ [(kv, v)]) ∨
    (∃ j a u x, es[j]? = some (a, u) ∧ es'[j]? = some x ∧ findK ks es = some u ∧ srch ks es' n = some (n + j, x.val) ∧ setK ks kv v es = es.set j (kv, v) ∧ seqL ks (cellsV a) = true)
  | [], [], n, _, _ => .inl ⟨rfl, rfl, rfl⟩
  | [], _ :: _, _, hl, _ => by simp at hl
  | _ :: _, [], _, hl, _ => by simp at hl
  | (a, u) :: es, x :: es', n, hl, hr => by
    have hxa := hr 0 a u x rfl rfl
    cases hq : seqL ks (cellsV a) with
    | true => exact .inr ⟨0, a, u, x, rfl, rfl, by simp [findK, hq], by simp [srch, hxa, hq], by simp [setK, hq], hq⟩
    | false =>
      rcases srch_spec ks kv v es es' (n + 1) (by simpa using hl) (fun j a u y h1 h2 => hr (j + 1) a u y (by simpa using h1) (by simpa using h2)) with ⟨h1, h2, h3⟩ | ⟨j, b, t, y, h1, h2, h3, h4, h5, h6⟩
      · exact .inl ⟨by simp [findK, hq, h1], by simp [srch, hxa, hq, h2], by simp [setK, hq, h3]⟩
      · refine .inr ⟨j + 1, b, t, y, by simpa using h1, by simpa using h2, by simp [findK, hq, h3], ?_, by simp [setK, hq, h5], h6⟩
        simp only [srch, hxa, hq, Bool.false_eq_true, if_false, h4]
        rw [show n + 1 + j = n + (j + 1) by omega]

theorem good_lookup (hs : Sim C base ι h w) (hρ : OpdRep ι e ρ) {t kt et : TypeId} {kk : KK} {z : Value} {ok : Bool} {x y : Operand} {a b : Opd} (hu : P.underlying t = some (.map kt et)) (hkk : kkOf P kt = some kk)
    (hz : (P.info? et).bind (·.zero) = some z) (hc : constOk z = true) (ha : copd x = some a) (hb : copd y = some b) {v : Value} {h' : Heap} (hi : iop (.lookup kk z ok a b) e h = some (v, h')) :
    Good C base P ρ (.lookup t x y ok) ι h w v h' := by
  simp only [iop] at hi
  have hx := hρ.1 _ _ ha
  have hy := hρ.1 _ _ hb
  generalize ev e a = p at *
  generalize ev e b = q at *
  have hzero : ∀ w, (zeroValue et).run P w = .ok z w := by
    intro w
    cases hq : P.info? et with
    | none => simp [hq] at hz
    | some i => simp [hq] at hz; simp [zeroValue, typeInfo, hq, hz]
  split at hi
  case h_2 => cases hi
  rename_i es ks hes hks
  obtain ⟨hyv, hcv, hck⟩ := key_spec (P := P) hkk hks hy
  -- the model's map
  obtain ⟨es', hget, hlen, hkeys, hfit⟩ : ∃ (es' : Array MapEntry), ((ρ x = .map none ∧ es' = #[]) ∨ ∃ r clock, ρ x = .map (some r) ∧ (getObj r).run P w = .ok (.map es' clock) w) ∧ es.length = es'.toList.length ∧
      (∀ (j : Nat) a u x, es[j]? = some (a, u) → es'.toList[j]? = some x → x.key = a ∧ Rep ι u x.val) ∧ (∀ x ∈ es'.toList, ∃ ys, keyOf kk x.key = some ys) := by
    split at hes
    · cases hes
      have hx' := rep_nilmap hx
      exact ⟨#[], .inl ⟨hx', rfl⟩, rfl, fun j a u x h => by simp at h, fun x h => by simp at h⟩
    · rename_i bk
      split at hes
      case h_2 => cases hes
      rename_i kk' es0 hbk
      split at hes
      case isFalse => cases hes
      rename_i hkk'
      subst hkk'
      cases hes
      obtain ⟨i, hι, hx'⟩ := rep_map hx
      obtain ⟨o', ho', hr⟩ := hs.blk bk _ i hbk hι
      cases o' <;> simp only [BRel] at hr
      rename_i es' clock
      obtain ⟨_, hfit, hl, hkr⟩ := hr
      have hg : (getObj i.blk).run P w = .ok (.map es' clock) w := by simp [getObj, Sem.run, ho']
      refine ⟨es', .inr ⟨_, clock, hx', hg⟩, by simpa using hl, fun j a u x h1 h2 => hkr j a u x h1 (by simpa using h2), fun x hxm => ?_⟩
      obtain ⟨j, hj⟩ := List.getElem?_of_mem hxm
      have hj' : j < es.length := by rw [hl]; simpa using (List.getElem?_eq_some_iff.1 hj).1
      obtain ⟨au, hau⟩ : ∃ au, es[j]? = some au := ⟨_, List.getElem?_eq_getElem hj'⟩
      have := (hkr j au.1 au.2 x hau (by simpa using hj)).1
      rw [this]
      exact hfit au (List.mem_of_getElem? hau)
    · cases hes
  have hfk := findKey_spec (w := w) hkk hks es'.toList hfit
  have run0 : ∀ (o : Oper), o.op = .lookup t x y ok → ∀ (u : Value) (bb : Bool), ((match srch ks es'.toList 0 with
      | some (_, v) => pure (v, true)
      | none => do pure (← zeroValue et, false) : Sem (Value × Bool))).run P w = .ok (u, bb) w → (execOp ρ o).run P w = .ok (.value (if ok then .tuple #[u, .bool bb] else u)) w := by
    intro o ho u bb hr
    rcases hget with ⟨hx', rfl⟩ | ⟨r, clock, hx', hg⟩
    · simp only [execOp, ho, Instr.lookup, Sem.run_bind, run_underlying hu, Result.andThen_ok, hx', Sem.run_pure, hyv, hck, hfk] at hr ⊢
      split at hr <;> simp_all
    · simp only [execOp, ho, Instr.lookup, Sem.run_bind, run_underlying hu, Result.andThen_ok, hx', hg, Sem.run_pure, hyv, hck, hfk] at hr ⊢
      split at hr <;> simp_all
  rcases srch_spec ks (.int .i64 0) (.int .i64 0) es es'.toList 0 hlen (fun j a u x h1 h2 => (hkeys j a u x h1 h2).1) with ⟨h1, h2, _⟩ | ⟨j, a, u, x', h1, h2, h3, h4, _, _⟩
  · rw [h1] at hi
    cases hi
    refine good_pure hs (v' := if ok then .tuple #[z, .bool false] else z) (fun o ho => run0 o ho z false (by simp [h2, hzero])) ?_
    cases ok
    · exact constOk_rep hc
    · exact rep_tup2 (constOk_rep hc) (.bool _)
  · rw [h3] at hi
    cases hi
    refine good_pure hs (v' := if ok then .tuple #[x'.val, .bool true] else x'.val) (fun o ho => run0 o ho x'.val true (by simp [h4])) ?_
    have hr := (hkeys j a u x' h1 h2).2
    cases ok
    · exact hr
    · exact rep_tup2 hr (.bool _)

end Go.Idl
