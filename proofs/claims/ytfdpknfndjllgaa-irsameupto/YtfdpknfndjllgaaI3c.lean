/- Each operation, third part: addresses, slices, parts. -/
import Derived.Test.YtfdpknfndjllgaaI3b
namespace Go.Idl
set_option linter.unusedVariables false
set_option linter.unusedSimpArgs false

variable {C : Nat → IC → Code → Prop} {base : Nat} {ι : Inj} {h : Heap} {w : World} {P : Program} {ρ : Operand → Value} {e : Env}

theorem good_faddr (hs : Sim C base ι h w) (hρ : OpdRep ι e ρ) {t : TypeId} {fs : Array Field} {f s : Nat} {fd : Field} {x : Operand} {a : Opd} (hu : P.underlying t = some (.struct fs)) (hf : fs.toList[f]? = some fd)
    (hz : tsize P fd.type = some s) (hp : 0 < s) (ha : copd x = some a) {v : Value} {h' : Heap} (hi : iop (.faddr fd.offset a) e h = some (v, h')) : Good C base P ρ (.fieldAddr t x f) ι h w v h' := by
  simp only [iop] at hi
  split at hi
  case h_2 => cases hi
  rename_i b o hb
  cases hi
  obtain ⟨i, hι, hx⟩ := rep_ptr (hb ▸ hρ.1 _ _ ha)
  have hf' : fs[f]? = some fd := by simpa using hf
  refine good_pure hs (v' := .pointer (some ⟨i.blk, o + fd.offset + i.sh, none⟩)) (fun o ho => ?_) (.ptr hι)
  simp [execOp, ho, Instr.fieldAt, run_underlying hu, hf', hx, Instr.sureAddr, fieldPlace, run_sizeOf' hz, Nat.ne_of_gt hp, addr_add]
  omega

theorem good_field (hs : Sim C base ι h w) (hρ : OpdRep ι e ρ) {t : TypeId} {fs : Array Field} {f : Nat} {n : Option Nat} {fd : Field} {x : Operand} {a : Opd} (hu : P.underlying t = some (.struct fs)) (hf : fs.toList[f]? = some fd)
    (hz : tshape P fd.type = some n) (ha : copd x = some a) {v : Value} {h' : Heap} (hi : iop (.field fd.offset n a) e h = some (v, h')) : Good C base P ρ (.field t x f) ι h w v h' := by
  simp only [iop] at hi
  have hx := hρ.1 _ _ ha
  generalize ev e a = p at *
  split at hi
  case h_2 => cases hi
  obtain ⟨u, hv, hp⟩ := opt_map hi
  cases hp
  obtain ⟨cs', hx', hr⟩ := rep_aggL hx
  have hf' : fs[f]? = some fd := by simpa using hf
  obtain ⟨v', h1, h2⟩ := partL_rep hr hz hv w
  refine good_pure hs (v' := v') (fun o ho => ?_) h2
  simp [execOp, ho, Instr.field, run_underlying hu, hf', hx', asAgg, h1]

theorem idxV_spec {n j : Nat} {v v' : Value} (h : idxV n v = some j) (hr : Rep ι v v') : ∃ k i, v' = .int k i ∧ 0 ≤ i ∧ i < n ∧ i.toNat = j := by
  unfold idxV at h
  split at h
  case h_2 => cases h
  split at h
  · rename_i hc; cases h; exact ⟨_, _, rep_int hr, hc.1, hc.2, rfl⟩
  · cases h

theorem good_iaddr_sl (hs : Sim C base ι h w) (hρ : OpdRep ι e ρ) {t el : TypeId} {s : Nat} {x y : Operand} {a b : Opd} (hu : P.underlying t = some (.slice el)) (hz : tsize P el = some s) (ha : copd x = some a) (hb : copd y = some b)
    {v : Value} {h' : Heap} (hi : iop (.iaddr (.sl s) a b) e h = some (v, h')) : Good C base P ρ (.indexAddr t x y) ι h w v h' := by
  simp only [iop] at hi
  have hx := hρ.1 _ _ ha
  have hy := hρ.1 _ _ hb
  generalize ev e a = p at *
  generalize ev e b = q at *
  split at hi <;> first | cases hi | skip
  · rename_i size bl o len cap heq
    cases heq
    obtain ⟨j, hj, hp⟩ := opt_map hi
    cases hp
    obtain ⟨k, i, hy', h0, h1, rfl⟩ := idxV_spec hj hy
    obtain ⟨a', c', bi, hx', hι, hle, _, hadr, _⟩ := rep_slice hx
    have ha' := hadr (by omega)
    subst ha'
    refine good_pure hs (v' := .pointer (some ⟨bi.blk, o + i.toNat * s + bi.sh, none⟩)) (fun o ho => ?_) (.ptr hι)
    simp [execOp, ho, Instr.indexAt, run_underlying hu, hx', hy', asIntOf, h0, h1, run_sizeOf' hz, addr_add]
    omega
  · rename_i heq; cases heq

theorem good_iaddr_ar (hs : Sim C base ι h w) (hρ : OpdRep ι e ρ) {t el : TypeId} {n s : Nat} {x y : Operand} {a b : Opd} (hu : P.underlying t = some (.array n el)) (hz : tsize P el = some s) (ha : copd x = some a) (hb : copd y = some b)
    {v : Value} {h' : Heap} (hi : iop (.iaddr (.ar n s) a b) e h = some (v, h')) : Good C base P ρ (.indexAddr t x y) ι h w v h' := by
  simp only [iop] at hi
  have hx := hρ.1 _ _ ha
  have hy := hρ.1 _ _ hb
  generalize ev e a = p at *
  generalize ev e b = q at *
  split at hi <;> first | cases hi | skip
  · rename_i heq; cases heq
  · rename_i m size bl o heq
    cases heq
    obtain ⟨j, hj, hp⟩ := opt_map hi
    cases hp
    obtain ⟨k, i, hy', h0, h1, rfl⟩ := idxV_spec hj hy
    obtain ⟨bi, hι, hx'⟩ := rep_ptr hx
    refine good_pure hs (v' := .pointer (some ⟨bi.blk, o + i.toNat * s + bi.sh, none⟩)) (fun o ho => ?_) (.ptr hι)
    simp [execOp, ho, Instr.indexAt, run_underlying hu, hx', hy', asIntOf, h0, h1, Instr.sureAddr, run_sizeOf' hz, addr_add]
    omega

theorem good_sidx (hs : Sim C base ι h w) (hρ : OpdRep ι e ρ) {t : TypeId} {x y : Operand} {a b : Opd} (hu : P.underlying t = some .string) (ha : copd x = some a) (hb : copd y = some b)
    {v : Value} {h' : Heap} (hi : iop (.sidx a b) e h = some (v, h')) : Good C base P ρ (.index t x y) ι h w v h' := by
  simp only [iop] at hi
  have hx := hρ.1 _ _ ha
  have hy := hρ.1 _ _ hb
  generalize ev e a = p at *
  generalize ev e b = q at *
  split at hi
  case h_2 => cases hi
  rename_i s
  split at hi
  case h_2 => cases hi
  rename_i j hj
  obtain ⟨c, hc, hp⟩ := opt_map hi
  cases hp
  obtain ⟨k, i, hy', h0, h1, rfl⟩ := idxV_spec hj hy
  have hx' := rep_string hx
  refine good_pure hs (v' := .int .u8 c.toNat) (fun o ho => ?_) (.int _ _)
  have hget : s[i.toNat]? = some c := by
    have hlt : i.toNat < s.size := by omega
    rw [getElem?_pos s i.toNat hlt]
    have h3 : i.toNat < s.data.toList.length := by simpa using hlt
    rw [List.getElem?_eq_getElem h3] at hc
    cases hc; rfl
  simp [execOp, ho, Instr.index, run_underlying hu, hx', hy', asIntOf, h0, hget]

theorem good_aidx (hs : Sim C base ι h w) (hρ : OpdRep ι e ρ) {t el : TypeId} {len size : Nat} {n : Option Nat} {x y : Operand} {a b : Opd} (hu : P.underlying t = some (.array len el)) (hz : tsize P el = some size) (hsh : tshape P el = some n)
    (ha : copd x = some a) (hb : copd y = some b) {v : Value} {h' : Heap} (hi : iop (.aidx len size n a b) e h = some (v, h')) : Good C base P ρ (.index t x y) ι h w v h' := by
  simp only [iop] at hi
  have hx := hρ.1 _ _ ha
  have hy := hρ.1 _ _ hb
  generalize ev e a = p at *
  generalize ev e b = q at *
  split at hi
  case h_2 => cases hi
  split at hi
  case h_2 => cases hi
  rename_i j hj
  obtain ⟨u, hv, hp⟩ := opt_map hi
  cases hp
  obtain ⟨k, i, hy', h0, h1, rfl⟩ := idxV_spec hj hy
  obtain ⟨cs', hx', hr⟩ := rep_aggL hx
  obtain ⟨v', h2, h3⟩ := partL_rep hr hsh hv w
  refine good_pure hs (v' := v') (fun o ho => ?_) h3
  simp [execOp, ho, Instr.index, run_underlying hu, hx', hy', asIntOf, h0, h1, run_sizeOf' hz, h2]

theorem good_extract (hs : Sim C base ι h w) (hρ : OpdRep ι e ρ) {x : Operand} {a : Opd} {i : Nat} (ha : copd x = some a) {v : Value} {h' : Heap} (hi : iop (.extract a i) e h = some (v, h')) :
    Good C base P ρ (.extract x i) ι h w v h' := by
  simp only [iop] at hi
  have hx := hρ.1 _ _ ha
  generalize ev e a = p at *
  split at hi
  case h_2 => cases hi
  obtain ⟨u, hv, hp⟩ := opt_map hi
  cases hp
  obtain ⟨cs', hx', hr⟩ := rep_tupL hx
  obtain ⟨v', h1, h2⟩ := hr.get hv
  refine good_pure hs (v' := v') (fun o ho => ?_) h2
  have h1' : cs'[i]? = some v' := by simpa using h1
  simp [execOp, ho, Instr.extract, hx', h1']

theorem rep_tup2 {a a' b b' : Value} (h1 : Rep ι a a') (h2 : Rep ι b b') : Rep ι (.tuple #[a, b]) (.tuple #[a', b']) := rep_tuple (RepL.cons h1 (RepL.cons h2 (RepL.nil _)))
theorem rep_tup1 {a a' : Value} (h1 : Rep ι a a') : Rep ι (.tuple #[a]) (.tuple #[a']) := rep_tuple (RepL.cons h1 (RepL.nil _))
theorem rep_tup3 {a a' b b' c c' : Value} (h1 : Rep ι a a') (h2 : Rep ι b b') (h3 : Rep ι c c') : Rep ι (.tuple #[a, b, c]) (.tuple #[a', b', c']) := rep_tuple (RepL.cons h1 (RepL.cons h2 (RepL.cons h3 (RepL.nil _))))

theorem good_assert (hs : Sim C base ι h w) (hρ : OpdRep ι e ρ) {x : Operand} {a : Opd} {xt t : TypeId} {d : TypeDesc} {z : Value} (hu : P.underlying t = some d) (hd : ∀ m, d ≠ .interface m)
    (hz : (P.info? t).bind (·.zero) = some z) (hc : constOk z = true) (ha : copd x = some a) {v : Value} {h' : Heap} (hi : iop (.assert t z a) e h = some (v, h')) : Good C base P ρ (.typeAssert x xt t true) ι h w v h' := by
  simp only [iop] at hi
  have hx := hρ.1 _ _ ha
  generalize ev e a = p at *
  have hzero : (zeroValue t).run P w = .ok z w := by
    cases hq : P.info? t with
    | none => simp [hq] at hz
    | some i => simp [hq] at hz; simp [zeroValue, typeInfo, hq, hz]
  split at hi
  · cases hi
    have hx' := rep_nilIface hx
    refine good_pure hs (v' := .tuple #[z, .bool false]) (fun o ho => ?_) (rep_tup2 (constOk_rep hc) (.bool _))
    cases d <;> first | (exact absurd rfl (hd _)) | simp [execOp, ho, Instr.typeAssert, run_underlying hu, hx', hzero]
  · rename_i u y
    cases hi
    obtain ⟨y', hx', hy⟩ := rep_iface hx
    by_cases he : u = t
    · refine good_pure hs (v' := .tuple #[y', .bool true]) (fun o ho => ?_) (by rw [if_pos he]; exact rep_tup2 hy (.bool _))
      cases d <;> first | (exact absurd rfl (hd _)) | simp [execOp, ho, Instr.typeAssert, run_underlying hu, hx', he]
    · refine good_pure hs (v' := .tuple #[z, .bool false]) (fun o ho => ?_) (by rw [if_neg he]; exact rep_tup2 (constOk_rep hc) (.bool _))
      cases d <;> first | (exact absurd rfl (hd _)) | simp [execOp, ho, Instr.typeAssert, run_underlying hu, hx', he, hzero]
  · cases hi

theorem good_minmax (hs : Sim C base ι h w) (hρ : OpdRep ι e ρ) {mx : Bool} {x y : Operand} {a b : Opd} {ts : Array TypeId} (ha : copd x = some a) (hb : copd y = some b) {v : Value} {h' : Heap}
    (hi : iop (.minmax mx a b) e h = some (v, h')) : Good C base P ρ (.call { callee := .builtin (if mx then .max else .min), args := #[x, y], argTypes := ts }) ι h w v h' := by
  simp only [iop] at hi
  have hx := hρ.1 _ _ ha
  have hy := hρ.1 _ _ hb
  generalize ev e a = p at *
  generalize ev e b = q at *
  split at hi
  case h_2 => cases hi
  split at hi
  case isFalse => cases hi
  rename_i hk
  subst hk
  cases hi
  have hx' := rep_int hx
  have hy' := rep_int hy
  cases mx
  · refine good_pure hs (fun o ho => ?_) (.int _ _)
    simp [execOp, ho, resolve, invoke, builtin, Builtin.min_, Builtin.min2, hx', hy']
  · refine good_pure hs (fun o ho => ?_) (.int _ _)
    simp [execOp, ho, resolve, invoke, builtin, Builtin.max_, Builtin.max2, hx', hy']

theorem good_len (hs : Sim C base ι h w) (hρ : OpdRep ι e ρ) {k : LenK} {x : Operand} {a : Opd} {t : TypeId} {ts : List TypeId} {d : TypeDesc} (ha : copd x = some a) (hu : P.underlying t = some d)
    (hk : (d = .string ∧ k = .str) ∨ (∃ u, d = .slice u ∧ k = .sl) ∨ (∃ u v, d = .map u v ∧ k = .mp) ∨ ∃ n u, d = .array n u ∧ k = .ar n) {v : Value} {h' : Heap}
    (hi : iop (.len k a) e h = some (v, h')) {at' : Array TypeId} (hat : at'.toList = t :: ts) : Good C base P ρ (.call { callee := .builtin .len, args := #[x], argTypes := at' }) ι h w v h' := by
  obtain rfl : at' = (t :: ts).toArray := by rw [← hat]
  simp only [iop] at hi
  have hx := hρ.1 _ _ ha
  generalize ev e a = p at *
  generalize hx' : ρ x = u at hx
  rcases hk with ⟨rfl, rfl⟩ | ⟨_, rfl, rfl⟩ | ⟨_, _, rfl, rfl⟩ | ⟨n, _, rfl, rfl⟩
  · cases p <;> (try dsimp only at hi) <;> cases hi
    cases hx
    exact good_pure hs (fun o ho => by simp [execOp, ho, resolve, invoke, builtin, Builtin.len_, run_underlying hu, hx', goInt]) (.int _ _)
  · cases p <;> (try dsimp only at hi) <;> cases hi
    cases hx
    · exact good_pure hs (fun o ho => by simp [execOp, ho, resolve, invoke, builtin, Builtin.len_, run_underlying hu, hx', goInt]) (.int _ _)
    · exact good_pure hs (fun o ho => by simp [execOp, ho, resolve, invoke, builtin, Builtin.len_, run_underlying hu, hx', goInt]) (.int _ _)
  · cases p <;> (try dsimp only at hi) <;> try cases hi
    rename_i r
    cases r with
    | none =>
      cases hi
      cases hx
      exact good_pure hs (fun o ho => by simp [execOp, ho, resolve, invoke, builtin, Builtin.len_, run_underlying hu, hx', goInt]) (.int _ _)
    | some b =>
      dsimp only at hi
      split at hi
      case h_2 => cases hi
      rename_i kk es hb
      cases hi
      obtain ⟨i, hι, rfl⟩ := rep_map hx
      obtain ⟨o', ho', hr⟩ := hs.blk b _ i hb hι
      cases o' <;> simp only [BRel] at hr
      rename_i es' clock
      have hg : (getObj i.blk).run P w = .ok (.map es' clock) w := by simp [getObj, Sem.run, ho']
      exact good_pure hs (fun o ho => by simp [execOp, ho, resolve, invoke, builtin, Builtin.len_, run_underlying hu, hx', goInt, hg, hr.2.2.1]) (.int _ _)
  · have hi' : v = .int .i64 n ∧ h' = h := by
      cases p <;> simp_all
    obtain ⟨rfl, rfl⟩ := hi'
    exact good_pure hs (fun o ho => by simp [execOp, ho, resolve, invoke, builtin, Builtin.len_, run_underlying hu, hx', goInt]) (.int _ _)

end Go.Idl
