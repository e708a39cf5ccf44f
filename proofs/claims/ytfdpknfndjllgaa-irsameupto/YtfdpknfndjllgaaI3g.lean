/- Each operation: all together. -/
import Derived.Test.YtfdpknfndjllgaaI3f
namespace Go.Idl
set_option linter.unusedVariables false
set_option linter.unusedSimpArgs false

variable {C : Nat → IC → Code → Prop} {base : Nat} {ι : Inj} {h : Heap} {w : World} {P : Program} {ρ : Operand → Value} {e : Env}

theorem skind {t : TypeId} {q : IOp} {op : BinOp} {x y : Operand} {yt : TypeId} (hc : cbin P op t x y = some q) (hs : Sim C base ι h w) (hρ : OpdRep ι e ρ) {v : Value} {h' : Heap} (hi : iop q e h = some (v, h')) :
    Good C base P ρ (.binOp op t x y yt) ι h w v h' := by
  unfold cbin at hc
  split at hc
  case h_2 => cases hc
  rename_i a b ha hb
  have nilcase : ∀ {k : NK} {c : Value} {d : TypeDesc}, y = .const c → P.underlying t = some d → ((∃ u, d = .pointer u ∧ k = .ptr ∧ c = .pointer none) ∨ (∃ u, d = .slice u ∧ k = .sl ∧ c = .slice none 0 0) ∨ (∃ u v, d = .map u v ∧ k = .mp ∧ c = .map none) ∨
      (∃ a b f, d = .func a b f ∧ k = .fn ∧ c = .nilFunc) ∨ ∃ m, d = .interface m ∧ k = .ifc ∧ c = .nilIface) → (negOf op).map (fun n => IOp.isnil k n a) = some q → Good C base P ρ (.binOp op t x y yt) ι h w v h' := by
    intro k c d hy hd hk hq
    obtain ⟨n, hn, rfl⟩ := opt_map hq
    rw [negOf_spec hn, hy]
    exact good_isnil hs hρ ha hd hk hi
  split at hc
  · cases hc; exact good_bin hs hρ ha hb hi
  · cases hc; exact good_bin hs hρ ha hb hi
  · rename_i hu
    obtain ⟨n, hn, rfl⟩ := opt_map hc
    rw [negOf_spec hn]
    exact good_beq hs hρ ha hb hu hi
  · rename_i u hu; exact nilcase rfl hu (.inl ⟨_, rfl, rfl, rfl⟩) hc
  · rename_i u hu; exact nilcase rfl hu (.inr (.inl ⟨_, rfl, rfl, rfl⟩)) hc
  · rename_i hu; exact nilcase rfl hu (.inr (.inr (.inl ⟨_, _, rfl, rfl, rfl⟩))) hc
  · rename_i hu; exact nilcase rfl hu (.inr (.inr (.inr (.inl ⟨_, _, _, rfl, rfl, rfl⟩)))) hc
  · rename_i hu; exact nilcase rfl hu (.inr (.inr (.inr (.inr ⟨_, rfl, rfl, rfl⟩)))) hc
  · split at hc
    case h_2 => cases hc
    rename_i ks n hks hn
    cases hc
    rw [negOf_spec hn]
    exact good_eqs hs hρ ha hb hks hi
  · cases hc

theorem copds1 {xs : List Operand} {a : Opd} (h : copds xs = some [a]) : ∃ x, xs = [x] ∧ copd x = some a := by
  cases xs with
  | nil => simp [copds] at h
  | cons x xs =>
    simp only [copds] at h
    split at h
    · rename_i b bs h1 h2
      cases h
      cases xs with
      | nil => exact ⟨x, rfl, h1⟩
      | cons y ys => simp only [copds] at h2; split at h2 <;> cases h2
    · cases h
theorem copds2 {xs : List Operand} {a b : Opd} (h : copds xs = some [a, b]) : ∃ x y, xs = [x, y] ∧ copd x = some a ∧ copd y = some b := by
  cases xs with
  | nil => simp [copds] at h
  | cons x xs =>
    simp only [copds] at h
    split at h
    · rename_i c cs h1 h2
      cases h
      obtain ⟨y, rfl, hy⟩ := copds1 h2
      exact ⟨x, y, rfl, h1, hy⟩
    · cases h

theorem good_builtin {b : Builtin} {args : Array Operand} {ts : Array TypeId} {q : IOp} (hc : cbuiltin P b ts.toList args.toList = some q) (hs : Sim C base ι h w) (hb : base ≤ w.heap.size) (hρ : OpdRep ι e ρ) {v : Value} {h' : Heap} (hi : iop q e h = some (v, h')) :
    Good C base P ρ (.call { callee := .builtin b, args := args, argTypes := ts }) ι h w v h' := by
  unfold cbuiltin at hc
  split at hc
  · rename_i t ts' a hts hargs
    obtain ⟨x, hx, ha⟩ := copds1 hargs
    obtain rfl : args = #[x] := Array.ext' hx
    split at hc <;> first | cases hc | skip
    · rename_i hu; exact good_len hs hρ ha hu (.inl ⟨rfl, rfl⟩) hi hts
    · rename_i u hu; exact good_len hs hρ ha hu (.inr (.inl ⟨_, rfl, rfl⟩)) hi hts
    · rename_i u v hu; exact good_len hs hρ ha hu (.inr (.inr (.inl ⟨_, _, rfl, rfl⟩))) hi hts
    · rename_i n u hu; exact good_len hs hρ ha hu (.inr (.inr (.inr ⟨_, _, rfl, rfl⟩))) hi hts
  · rename_i a b hargs
    obtain ⟨x, y, hx, ha, hb'⟩ := copds2 hargs
    obtain rfl : args = #[x, y] := Array.ext' hx
    cases hc
    exact good_minmax (mx := true) hs hρ ha hb' hi
  · rename_i a b hargs
    obtain ⟨x, y, hx, ha, hb'⟩ := copds2 hargs
    obtain rfl : args = #[x, y] := Array.ext' hx
    cases hc
    exact good_minmax (mx := false) hs hρ ha hb' hi
  · rename_i t u a b hts hargs
    obtain ⟨x, y, hx, ha, hb'⟩ := copds2 hargs
    obtain rfl : args = #[x, y] := Array.ext' hx
    obtain rfl : ts = #[t, u] := Array.ext' hts
    split at hc
    case h_3 => cases hc
    · rename_i el el' hel hel'
      split at hc
      case h_2 => cases hc
      rename_i i z hinfo hz
      split at hc
      case isFalse => cases hc
      rename_i hpos
      simp at hpos
      cases hc
      exact good_append (ty := 0) hs hb hρ hel (.inl ⟨_, hel'⟩) hinfo hz hpos.1 hpos.2 ha hb' hi
    · rename_i el hel hel'
      split at hc
      case h_2 => cases hc
      rename_i i z hinfo hz
      split at hc
      case isFalse => cases hc
      rename_i hpos
      simp at hpos
      cases hc
      exact good_append (ty := 0) hs hb hρ hel (.inr hel') hinfo hz hpos.1 hpos.2 ha hb' hi
  · cases hc; simp [iop] at hi
  · cases hc

theorem cop_sound {op : Op} {q : IOp} (hc : cop P op = some q) (hs : Sim C base ι h w) (hb : base ≤ w.heap.size) (hρ : OpdRep ι e ρ) {v : Value} {h' : Heap} (hi : iop q e h = some (v, h')) :
    Good C base P ρ op ι h w v h' := by
  have hc0 := hc
  unfold cop at hc
  split at hc
  · obtain ⟨a, ha, rfl⟩ := opt_map hc; simp only [iop] at hi; cases hi; exact good_mov hs hρ ha
  · obtain ⟨a, ha, rfl⟩ := opt_map hc; simp only [iop] at hi; cases hi; exact good_assign hs hρ ha
  · -- pick
    split at hc
    case h_2 => cases hc
    rename_i a b c ha hb' hc'
    cases hc
    simp only [iop] at hi
    split at hi
    · rename_i t ht; cases hi; exact good_pick hs hρ ha hb' hc' ht
    · cases hi
  · obtain ⟨z, hz, rfl⟩ := opt_map hc; simp only [iop] at hi; cases hi; exact good_alloc hs hb hz
  · obtain ⟨a, ha, rfl⟩ := opt_map hc
    simp only [iop] at hi
    obtain ⟨cs, hcs, hp⟩ := opt_map hi
    cases hp
    exact good_box hs hb hρ ha hcs
  · -- build
    have hq : ∃ z qs, q = .build z qs := by
      split at hc
      · split at hc
        · obtain ⟨a, _, rfl⟩ := opt_map hc; exact ⟨_, _, rfl⟩
        · cases hc
      · split at hc
        · obtain ⟨a, _, rfl⟩ := opt_map hc; exact ⟨_, _, rfl⟩
        · cases hc
      · cases hc
    obtain ⟨z, qs, rfl⟩ := hq
    simp only [iop] at hi
    obtain ⟨cs, hcs, hp⟩ := opt_map hi
    cases hp
    exact good_build hs hρ hc0 hcs
  · -- a slice's literal
    split at hc
    case h_2 => cases hc
    rename_i el hu
    split at hc
    case h_2 => cases hc
    rename_i s z hsz hz
    split at hc
    case isFalse => cases hc
    rename_i hle
    obtain ⟨qs, hqs, rfl⟩ := opt_map hc
    simp only [iop] at hi
    obtain ⟨cs, hcs, hp⟩ := opt_map hi
    cases hp
    exact good_lit hs hb hρ hu hsz hz hle hqs hcs
  · split at hc
    case h_2 => cases hc
    rename_i n a hn ha
    cases hc
    exact good_load hs hρ hn ha hi
  · split at hc
    case h_2 => cases hc
    rename_i n a v' hn ha hv
    cases hc
    exact good_store hs hρ hn ha hv hi
  · obtain ⟨a, ha, rfl⟩ := opt_map hc; exact good_nilck hs hρ ha hi
  · exact skind hc hs hρ hi
  · obtain ⟨a, ha, rfl⟩ := opt_map hc; exact good_un hs hρ ha hi
  · -- convert
    unfold cconv at hc
    split at hc
    · rename_i a k' k ha h1 h2; cases hc; exact good_conv hs hρ ha h1 h2 hi
    · cases hc
  · -- makeInterface
    split at hc
    · cases hc
    · rename_i d hd hu
      obtain ⟨a, ha, rfl⟩ := opt_map hc
      simp only [iop] at hi
      cases hi
      exact good_iface hs hρ ha hu (fun m hm => hd m hm)
    · cases hc
  · split at hc
    case h_2 => cases hc
    rename_i a b ha hb'
    cases hc
    simp only [iop] at hi
    cases hi
    exact good_fn hs hρ ha hb'
  · -- makeMap
    split at hc
    case h_2 => cases hc
    rename_i kt et hu
    split at hc
    · cases hc; simp only [iop] at hi; cases hi; exact good_mkmap hs hb hρ hu (.inl rfl)
    · cases hc; simp only [iop] at hi; cases hi; exact good_mkmap hs hb hρ hu (.inr ⟨_, _, rfl⟩)
    · cases hc
  · -- makeSlice
    split at hc
    case h_2 => cases hc
    rename_i el hu
    split at hc
    case h_2 => cases hc
    rename_i i z l c hinfo hz hl hc'
    split at hc
    case isFalse => cases hc
    rename_i hpos
    simp at hpos
    cases hc
    exact good_mkslice hs hb hρ hu hinfo hz hpos.1 hpos.2 hl hc' hi
  · -- slice
    unfold csub at hc
    split at hc
    case h_2 => cases hc
    rename_i a l b m ha hl hh hm
    split at hc
    · rename_i hu; cases hc; exact good_sub_str hs hρ hu ha hl hh hm hi
    · rename_i el hu; obtain ⟨s, hsz, rfl⟩ := opt_map hc; exact good_sub_sl hs hρ hu hsz ha hl hh hm hi
    · rename_i n el hu; obtain ⟨s, hsz, rfl⟩ := opt_map hc; exact good_sub_ar hs hρ hu hsz ha hl hh hm hi
    · cases hc
  · -- fieldAddr
    split at hc
    case h_2 => cases hc
    rename_i fs hu
    split at hc
    case h_2 => cases hc
    rename_i fd hf
    split at hc
    case h_2 => cases hc
    rename_i s a hsz ha
    split at hc
    case isFalse => cases hc
    rename_i hp
    cases hc
    exact good_faddr hs hρ hu hf hsz hp ha hi
  · -- field
    split at hc
    case h_2 => cases hc
    rename_i fs hu
    split at hc
    case h_2 => cases hc
    rename_i fd hf
    split at hc
    case h_2 => cases hc
    rename_i n a hn ha
    cases hc
    exact good_field hs hρ hu hf hn ha hi
  · -- indexAddr
    split at hc
    · rename_i el hu
      split at hc
      case h_2 => cases hc
      rename_i s a j hsz ha hj
      cases hc
      exact good_iaddr_sl hs hρ hu hsz ha hj hi
    · rename_i n el hu
      split at hc
      case h_2 => cases hc
      rename_i s a j hsz ha hj
      cases hc
      exact good_iaddr_ar hs hρ hu hsz ha hj hi
    · cases hc
  · -- index
    split at hc
    · rename_i hu
      split at hc
      case h_2 => cases hc
      rename_i a j ha hj
      cases hc
      exact good_sidx hs hρ hu ha hj hi
    · rename_i n el hu
      split at hc
      case h_2 => cases hc
      rename_i s sh a j hsz hsh ha hj
      cases hc
      exact good_aidx hs hρ hu hsz hsh ha hj hi
    · cases hc
  · -- lookup
    split at hc
    case h_2 => cases hc
    rename_i kt el hu
    split at hc
    case h_2 => cases hc
    rename_i z m k kk hz hm hk hkk
    split at hc
    case isFalse => cases hc
    rename_i hco
    cases hc
    exact good_lookup hs hρ hu hkk hz hco hm hk hi
  · split at hc
    case h_2 => cases hc
    rename_i kt el hu
    split at hc
    case h_2 => cases hc
    rename_i m k v' kk hm hk hv hkk
    cases hc
    exact good_mapset hs hρ hu hkk hm hk hv hi (.inl rfl)
  · split at hc
    case h_2 => cases hc
    rename_i kt el hu
    split at hc
    case h_2 => cases hc
    rename_i m k v' kk hm hk hv hkk
    cases hc
    exact good_mapset hs hρ hu hkk hm hk hv hi (.inr rfl)
  · -- range
    split at hc
    case h_2 => cases hc
    rename_i hu
    obtain ⟨a, ha, rfl⟩ := opt_map hc
    exact good_range hs hb hρ hu ha hi
  · obtain ⟨a, ha, rfl⟩ := opt_map hc; exact good_next hs hρ ha hi
  · -- typeAssert
    split at hc
    · cases hc
    · rename_i d hd hu
      split at hc
      case h_2 => cases hc
      rename_i z a hz ha
      split at hc
      case isFalse => cases hc
      rename_i hco
      cases hc
      exact good_assert hs hρ hu (fun m hm => hd m hm) hz hco ha hi
    · cases hc
  · obtain ⟨a, ha, rfl⟩ := opt_map hc; exact good_extract hs hρ ha hi
  · exact good_builtin hc hs hb hρ hi
  · cases hc

end Go.Idl
