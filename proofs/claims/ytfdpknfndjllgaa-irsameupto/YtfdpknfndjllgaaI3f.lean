/- Each operation, sixth part: a store into a map; append; all together. -/
import Derived.Test.YtfdpknfndjllgaaI3e
namespace Go.Idl
set_option linter.unusedVariables false
set_option linter.unusedSimpArgs false

variable {C : Nat → IC → Code → Prop} {base : Nat} {ι : Inj} {h : Heap} {w : World} {P : Program} {ρ : Operand → Value} {e : Env}

theorem seq1_eq {s : SK} {x y : Value} (hx : fit1 s x = true) (hy : fit1 s y = true) (h : seq1 x y = true) : x = y := by
  cases s <;> cases x <;> simp [fit1] at hx <;> cases y <;> simp [fit1] at hy <;> simp [seq1] at h
  · rw [← hx, ← hy, h]
  · rw [h]
  · rw [h]

theorem seqL_eq : ∀ {ss : List SK} {xs ys : List Value}, fitL ss xs = true → fitL ss ys = true → seqL xs ys = true → xs = ys
  | [], [], [], _, _, _ => rfl
  | [], _ :: _, _, h, _, _ => by simp [fitL] at h
  | [], [], _ :: _, _, h, _ => by simp [fitL] at h
  | _ :: _, [], _, h, _, _ => by simp [fitL] at h
  | _ :: _, _ :: _, [], _, h, _ => by simp [fitL] at h
  | s :: ss, x :: xs, y :: ys, h1, h2, h3 => by
    simp [fitL] at h1 h2
    simp [seqL] at h3
    rw [seq1_eq h1.1 h2.1 h3.1, seqL_eq h1.2 h2.2 h3.2]

theorem sameBits_scalar {s : SK} {x : Value} (h : fit1 s x = true) (n : Nat) : Instr.sameBits n x x = true := by
  cases s <;> cases x <;> simp [fit1] at h <;> simp [Instr.sameBits]
  rw [bytes_beq]; simp

theorem sameBits_key {kk : KK} {a k : Value} {as ks : List Value} (ha : keyOf kk a = some as) (hk : keyOf kk k = some ks) (h : seqL ks (cellsV a) = true) : a = k ∧ Instr.sameBits 10000 a k = true := by
  cases kk with
  | one s =>
    simp only [keyOf] at ha hk
    split at ha <;> cases ha
    split at hk <;> cases hk
    rename_i h1 h2
    have hc : cellsV a = [a] := by cases a <;> simp_all [cellsV, fit1]
    rw [hc] at h
    simp [seqL] at h
    have e := seq1_eq h2 h1 h
    exact ⟨e.symm, by rw [e]; exact sameBits_scalar h1 _⟩
  | agg ss =>
    cases a <;> simp only [keyOf, reduceCtorEq] at ha
    cases k <;> simp only [keyOf, reduceCtorEq] at hk
    rename_i xs ys
    split at ha <;> cases ha
    split at hk <;> cases hk
    rename_i h1 h2
    simp only [cellsV] at h
    have e : ys = xs := Array.ext' (seqL_eq h2 h1 h)
    subst e
    refine ⟨rfl, ?_⟩
    have gen : ∀ (ss : List SK) (l : List Value), fitL ss l = true → (l.zip l).all (fun (x, y) => Instr.sameBits 9999 x y) = true := by
      intro ss l
      induction l generalizing ss with
      | nil => intro _; rfl
      | cons x l ih =>
        intro hf
        cases ss with
        | nil => simp [fitL] at hf
        | cons s ss =>
          simp [fitL] at hf
          simp [sameBits_scalar hf.1]
          intro a b hab
          have := List.all_eq_true.1 (ih ss hf.2) (a, b) hab
          simpa using this
    have g : ∀ n, ((ys.toList.zip ys.toList).all fun (x, y) => Instr.sameBits n x y) = true → Instr.sameBits (n + 1) (.agg ys) (.agg ys) = true := by
      intro n hn
      simp only [Instr.sameBits, beq_self_eq_true, Bool.true_and]
      exact hn
    exact g 9999 (gen ss ys.toList h1)

theorem good_mapset (hs : Sim C base ι h w) (hρ : OpdRep ι e ρ) {t kt et : TypeId} {kk : KK} {x y z : Operand} {a b c : Opd} (hu : P.underlying t = some (.map kt et)) (hkk : kkOf P kt = some kk)
    (ha : copd x = some a) (hb : copd y = some b) (hc : copd z = some c) {v : Value} {h' : Heap} (hi : iop (.mapset kk a b c) e h = some (v, h')) {op : Op} (hop : op = .mapUpdate t x y z ∨ op = .insert t x y z) :
    Good C base P ρ op ι h w v h' := by
  simp only [iop] at hi
  have hx := hρ.1 _ _ ha
  have hy := hρ.1 _ _ hb
  have hz := hρ.1 _ _ hc
  generalize ev e a = p at *
  generalize ev e b = q at *
  generalize ev e c = r at *
  split at hi
  case h_2 => cases hi
  rename_i bk
  split at hi
  case h_2 => cases hi
  rename_i kk' es ks hbk hks
  split at hi
  case isFalse => cases hi
  rename_i hkk'
  subst hkk'
  cases hi
  obtain ⟨hyv, hcv, hck⟩ := key_spec (P := P) hkk hks hy
  obtain ⟨i, hι, hx'⟩ := rep_map hx
  obtain ⟨o', ho', hr⟩ := hs.blk bk _ i hbk hι
  cases o' <;> simp only [BRel] at hr
  rename_i es' clock
  obtain ⟨hbase, hfit, hl, hkr⟩ := hr
  have hg : (getObj i.blk).run P w = .ok (.map es' clock) w := by simp [getObj, Sem.run, ho']
  have hfit' : ∀ x ∈ es'.toList, ∃ ys, keyOf kk x.key = some ys := by
    intro x hxm
    obtain ⟨j, hj⟩ := List.getElem?_of_mem hxm
    have hj' : j < es.length := by rw [hl]; simpa using (List.getElem?_eq_some_iff.1 hj).1
    obtain ⟨au, hau⟩ : ∃ au, es[j]? = some au := ⟨_, List.getElem?_eq_getElem hj'⟩
    rw [(hkr j au.1 au.2 x hau (by simpa using hj)).1]
    exact hfit au (List.mem_of_getElem? hau)
  have hfk := findKey_spec (w := w) hkk hks es'.toList hfit'
  have hmine : mine h bk := by unfold mine; rw [hbk]; trivial
  have step : ∀ (es2 : Array MapEntry) (clock2 : Nat), BRel C base ι i (.map kk (setK ks q r es)) (.map es2 clock2) →
      (∀ w', (setObj i.blk (.map es2 clock2)).run P w = .ok () w' → (Instr.mapUpdate t (ρ x) (ρ y) (ρ z)).run P w = .ok () w') → Good C base P ρ op ι h w undef (h.set bk (.map kk (setK ks q r es))) := by
    intro es2 clock2 hbr hrun
    obtain ⟨w', h1, h2, h3⟩ := hs.setObj (P := P) hι hmine (.map kk (setK ks q r es)) (o' := .map es2 clock2) ho' (by simp) hbr
    refine ⟨undef, w', ι, fun o ho => .inr ⟨?_, rfl⟩, h2, h3, (fun h => by rcases hop with rfl | rfl <;> cases h), .tuple rfl (fun k v v' h => by simp at h)⟩
    rcases hop with rfl | rfl <;> simp [execOp, ho, hrun w' h1]
  have keyfit : ∃ ks', keyOf kk q = some ks' := ⟨ks, hks⟩
  rcases srch_spec ks q r es es'.toList 0 (by simpa using hl) (fun j a u x h1 h2 => (hkr j a u x h1 (by simpa using h2)).1) with ⟨h1, h2, h3⟩ | ⟨j, a0, u, x', h1, h2, h3, h4, h5, h6⟩
  · refine step (es'.push { key := q, val := ρ z, born := clock }) (clock + 1) ?_ (fun w' hw' => ?_)
    · rw [h3]
      refine ⟨hbase, fun p hp => ?_, by simp [hl], fun k a u x g1 g2 => ?_⟩
      · rcases List.mem_append.1 hp with hp | hp
        · exact hfit p hp
        · simp at hp; subst hp; exact keyfit
      · rw [List.getElem?_append] at g1
        rw [Array.getElem?_push] at g2
        split at g1
        · rename_i hk
          rw [if_neg (by omega)] at g2
          exact hkr k a u x g1 g2
        · rename_i hk
          have hkl : k = es'.size := by
            have := (List.getElem?_eq_some_iff.1 g1).1; simp at this; omega
          rw [if_pos hkl] at g2
          cases g2
          have : k - es.length = 0 := by omega
          rw [this] at g1
          simp at g1
          obtain ⟨rfl, rfl⟩ := g1
          exact ⟨rfl, hz⟩
    · simp only [Instr.mapUpdate, Sem.run_bind, run_underlying hu, Result.andThen_ok, hx', hg, hyv, hck, hfk, h2]
      exact hw'
  · have hx'k : x'.key = a0 := (hkr j a0 u x' h1 (by simpa using h2)).1
    obtain ⟨ks0, hks0⟩ := hfit (a0, u) (List.mem_of_getElem? h1)
    obtain ⟨heq, hsb⟩ := sameBits_key hks0 hks h6
    have hj' : es'[j]? = some x' := by simpa using h2
    refine step (es'.modify j fun e => { e with key := q, val := ρ z }) clock ?_ (fun w' hw' => ?_)
    · rw [h5]
      refine ⟨hbase, fun p hp => ?_, by simp [hl], fun k a u x g1 g2 => ?_⟩
      · rcases List.mem_or_eq_of_mem_set hp with hp | hp
        · exact hfit p hp
        · subst hp; exact keyfit
      · rw [List.getElem?_set] at g1
        rw [Array.getElem?_modify] at g2
        by_cases hjk : j = k
        · subst hjk
          rw [if_pos rfl] at g1 g2
          have hlt : j < es.length := (List.getElem?_eq_some_iff.1 h1).1
          rw [if_pos hlt] at g1
          cases g1
          rw [hj'] at g2
          cases g2
          exact ⟨rfl, hz⟩
        · rw [if_neg hjk] at g1 g2
          exact hkr k a u x g1 g2
    · simp only [Instr.mapUpdate, Sem.run_bind, run_underlying hu, Result.andThen_ok, hx', hg, hyv, hck, hfk, h4, Nat.zero_add, hj', Option.map_some, Option.getD_some, Instr.keyThatStays]
      rw [hx'k, hsb]
      simp only [if_true, Sem.run_pure, Result.andThen_ok]
      exact hw'

/-! ### append -/
theorem elems_spec (hs : Sim C base ι h w) {size n : Nat} {v v' : Value} {xs : List Value} (he : elemsOf h size v = some (n, xs)) (hr : Rep ι v v') :
    xs.length = n * size ∧ (∀ w, (Builtin.lenOf v').run P w = .ok n w) ∧ ∃ ys, RepC ι xs ys ∧ ∀ w2 : World, w2.heap = w.heap → (Builtin.firstCells size n v').run P w2 = .ok ys.toArray w2 := by
  unfold elemsOf at he
  split at he
  · cases he
    obtain ⟨hv, _, _⟩ := rep_nilsl hr
    exact ⟨by simp, fun w => by simp [hv, Builtin.lenOf], [], RepC.nil _, fun w2 _ => by simp [hv, Builtin.firstCells]⟩
  · rename_i b o m c
    obtain ⟨a', c', i, hv, hι, hle, hex, had, _⟩ := rep_slice hr
    split at he
    · rename_i hm
      cases he
      exact ⟨by simp, fun w => by simp [hv, Builtin.lenOf, hm], [], RepC.nil _, fun w2 _ => by simp [hv, Builtin.firstCells, loadCells, loadCellsFrom]⟩
    · rename_i hm
      obtain ⟨cs, hcs, hp⟩ := opt_map he
      cases hp
      have ha' := had (by omega)
      subst ha'
      obtain ⟨cs', h1, h2, h3⟩ := hs.cells hι hcs
      refine ⟨h2, fun w => by simp [hv, Builtin.lenOf], cs', h1, fun w2 hw2 => ?_⟩
      rw [hv]
      exact run_firstCells_some (P := P) w2 size n _ n c' cs' (by rw [← h1.1, h2]) (fun j u hj => by
        have := h3 j u hj
        simp only [World.cell?, hw2] at this ⊢
        exact this)
  · split at he
    case isFalse => cases he
    rename_i s hsz
    cases he
    have hv := rep_string hr
    refine ⟨by simp [bytesL, hsz], fun w => by simp [hv, Builtin.lenOf], Lib.strCells s, ?_, fun w2 _ => by rw [hv]; exact Lib.run_firstCells_string w2 size s⟩
    refine ⟨by simp [bytesL, Lib.strCells], fun k u u' h1 h2 => ?_⟩
    simp only [bytesL, Lib.strCells] at h1 h2
    rw [h1] at h2
    cases h2
    rw [List.getElem?_map] at h1
    obtain ⟨b, _, rfl⟩ := opt_map h1
    exact ⟨rfl, .int _ _⟩
  · cases he

/-- An append that makes a new row. -/
theorem run_append_fresh {t u ty el : TypeId} {i : TypeInfo} {z : Value} (ht : P.underlying t = some (.slice el)) (hu : (∃ q, P.underlying u = some (.slice q)) ∨ P.underlying u = some .string) (hi : P.info? el = some i) (hz : i.zero = some z)
    {base : Option Addr} {sLen sCap n : Nat} {x : Value} {olds news : List Value} (hl : ∀ w, (Builtin.lenOf x).run P w = .ok n w) (hn : (Builtin.firstCells i.size n x).run P w.drew = .ok news.toArray w.drew)
    (ho : (Builtin.firstCells i.size sLen (.slice base sLen sCap)).run P w.drew = .ok olds.toArray w.drew) (hg : sCap < sLen + n) (hb : (sLen + n) * i.bytes ≤ 140737488355328) (hby : 0 < i.bytes) :
    (Builtin.append_ #[t, u] ty #[.slice base sLen sCap, x]).run P w =
      .ok (.slice (some ⟨w.heap.size, 0, none⟩) (sLen + n) (grownCap w (sLen + n) sCap el)) (w.drew.alloc (.cells (olds.toArray ++ news.toArray ++ Builtin.zeroCells z.cells (grownCap w (sLen + n) sCap el - (sLen + n))) el)) := by
  have hnn : ¬ (sLen + n ≤ sCap) := by omega
  have hle : (sLen + n) * 1 ≤ (sLen + n) * i.bytes := Nat.mul_le_mul_left _ hby
  have h63' : ¬ (9223372036854775807 < ((sLen : Int) + (n : Int))) := by omega
  have h48 := growslice_fits (old := sCap) (need := sLen + n) (bytes := i.bytes) hg hb
  have h48' : ¬ (281474976710656 < Builtin.nextslicecap (sLen + n) sCap * i.bytes) := by omega
  rcases hu with ⟨q, hd⟩ | hd
  · simp [Builtin.append_, run_underlying ht, run_underlying hd, sizeOf, typeInfo, zeroValue, hi, hz, hl, hnn, h63', h48', Question.forced, newRow, grownCap, ho, hn]
    simp [← Array.append_assoc]
  · simp [Builtin.append_, run_underlying ht, run_underlying hd, sizeOf, typeInfo, zeroValue, hi, hz, hl, hnn, h63', h48', Question.forced, newRow, grownCap, ho, hn]
    simp [← Array.append_assoc]

/-- An append in place. -/
theorem run_append_here {t u ty el : TypeId} {i : TypeInfo} (ht : P.underlying t = some (.slice el)) (hu : (∃ q, P.underlying u = some (.slice q)) ∨ P.underlying u = some .string) (hi : P.info? el = some i)
    {a : Addr} {sLen sCap n : Nat} {x : Value} {news : List Value} (hl : ∀ w, (Builtin.lenOf x).run P w = .ok n w) (hn : (Builtin.firstCells i.size n x).run P w = .ok news.toArray w)
    (hg : sLen + n ≤ sCap) {w' : World} (hst : (storeCells (a.add (sLen * i.size)) news).run P w = .ok () w') :
    (Builtin.append_ #[t, u] ty #[.slice (some a) sLen sCap, x]).run P w = .ok (.slice (some a) (sLen + n) sCap) w' := by
  rcases hu with ⟨q, hd⟩ | hd
  · simp [Builtin.append_, run_underlying ht, run_underlying hd, sizeOf, typeInfo, hi, hl, hg, hn, hst]
  · simp [Builtin.append_, run_underlying ht, run_underlying hd, sizeOf, typeInfo, hi, hl, hg, hn, hst]

theorem zeroCells_len (z : Array Value) (n : Nat) : (Builtin.zeroCells z n).toList.length = n * z.size := by simp [Builtin.zeroCells]

theorem good_append (hs : Sim C base ι h w) (hb : base ≤ w.heap.size) (hρ : OpdRep ι e ρ) {t u el ty : TypeId} {i : TypeInfo} {z : List Value} {x y : Operand} {a b : Opd} (ht : P.underlying t = some (.slice el))
    (hu : (∃ q, P.underlying u = some (.slice q)) ∨ P.underlying u = some .string) (hi : P.info? el = some i) (hz : zcells P el = some z) (hsz : 0 < i.size) (hby : 0 < i.bytes)
    (ha : copd x = some a) (hbb : copd y = some b) {v : Value} {h' : Heap} (hio : iop (.append i.size i.bytes a b) e h = some (v, h')) :
    Good C base P ρ (.call { callee := .builtin .append, args := #[x, y], argTypes := #[t, u] }) ι h w v h' := by
  simp only [iop] at hio
  have hx := hρ.1 _ _ ha
  have hy := hρ.1 _ _ hbb
  generalize ev e a = p at *
  generalize ev e b = q at *
  obtain ⟨i', zv, hi', hzv, rfl, hzl, _, _, _⟩ := zcells_spec (ι := ι) hz
  rw [hi] at hi'; cases hi'
  have hzs : zv.cells.size = i.size := by simpa using hzl
  have exec : ∀ (o : Oper), o.op = .call { callee := .builtin .append, args := #[x, y], argTypes := #[t, u] } → ∀ v' w', (Builtin.append_ #[t, u] o.type #[ρ x, ρ y]).run P w = .ok v' w' → (execOp ρ o).run P w = .ok (.value v') w' := by
    intro o ho v' w' hr
    simp [execOp, ho, resolve, invoke, builtin, hr]
  unfold appendV at hio
  split at hio
  case h_1 => cases hio
  rename_i n xs hel
  obtain ⟨hxl, hlen, ys, hxy, hfc⟩ := elems_spec (P := P) hs hel hy
  have hysl : ys.length = n * i.size := by rw [← hxy.1, hxl]
  -- a fresh row
  have fresh : ∀ (h1 : Heap) (base0 : Option Addr) (sLen sCap : Nat) (olds olds' : List Value), Sim C base ι h1 w → Ext ι h w ι h1 w → ρ x = .slice base0 sLen sCap → RepC ι olds olds' → olds.length = sLen * i.size →
      (∀ w2 : World, w2.heap = w.heap → (Builtin.firstCells i.size sLen (.slice base0 sLen sCap)).run P w2 = .ok olds'.toArray w2) → sCap < sLen + n → (sLen + n) * i.bytes ≤ 140737488355328 → h1.next = h.next →
      Good C base P ρ (.call { callee := .builtin .append, args := #[x, y], argTypes := #[t, u] }) ι h w (.slice (some ⟨h.next, 0, none⟩) (sLen + n) (sLen + n + 1)) (h1.new (.cells (olds ++ xs) true i.size)) := by
    intro h1 base0 sLen sCap olds olds' hs1 he1 hxx hor hol hofc hg hbytes hnx
    have hge := grownCap_ge w (sLen + n) sCap el
    have hol' : olds'.length = sLen * i.size := by rw [← hor.1, hol]
    have hrow : (olds'.toArray ++ ys.toArray ++ Builtin.zeroCells zv.cells (grownCap w (sLen + n) sCap el - (sLen + n))).toList = olds' ++ ys ++ (Builtin.zeroCells zv.cells (grownCap w (sLen + n) sCap el - (sLen + n))).toList := by simp
    obtain ⟨g1, g2⟩ := (hs1.congr (w' := w.drew) rfl).new (.cells (olds ++ xs) true i.size) (.cells (olds'.toArray ++ ys.toArray ++ Builtin.zeroCells zv.cells (grownCap w (sLen + n) sCap el - (sLen + n))) el)
      ⟨w.heap.size, 0, grownCap w (sLen + n) sCap el * i.size, i.size⟩ rfl
      (fun ι' hle hι => ⟨by
          rw [← Array.length_toList, hrow, List.length_append, List.length_append, hol', hysl, zeroCells_len, hzs, ← Nat.add_mul, ← Nat.add_mul]; congr 1; omega, by
          simp only [Nat.zero_add, List.length_append, hol, hxl, ← Nat.add_mul]; exact Nat.mul_le_mul_right _ hge, by
          rw [hrow, List.drop_zero, List.take_append_of_le_length (by simp [hor.1, hxy.1]), List.take_of_length_le (by simp [hor.1, hxy.1])]
          exact (hor.append hxy).mono hle, rfl, fun _ => ⟨rfl, hb⟩, fun hq => by cases hq⟩)
      (w' := w.drew.alloc (.cells (olds'.toArray ++ ys.toArray ++ Builtin.zeroCells zv.cells (grownCap w (sLen + n) sCap el - (sLen + n))) el)) rfl rfl rfl rfl
    have g2' : Ext ι h1 w (ext1 ι h1.next _) _ _ := ⟨g2.inj, ⟨g2.keeps.os, g2.keeps.tape, g2.keeps.output, g2.keeps.size, g2.keeps.block⟩, g2.own, g2.next, g2.fresh⟩
    refine ⟨.slice (some ⟨w.heap.size, 0, none⟩) (sLen + n) (grownCap w (sLen + n) sCap el), _, _, fun o ho => .inl (exec o ho _ _ ?_), g1, he1.trans g2', (fun h => by cases h), ?_⟩
    · rw [hxx]
      exact run_append_fresh ht hu hi hzv hlen (hfc w.drew rfl) (hofc w.drew rfl) hg hbytes hby
    · rw [← hnx]
      exact Rep.slice (i := ⟨w.heap.size, 0, grownCap w (sLen + n) sCap el * i.size, i.size⟩) (ext1_same _ _ _) hge (fun h => by omega) (fun _ => rfl) (fun _ _ => by simp)
  split at hio
  · -- nil
    obtain ⟨hx', _, _⟩ := rep_nilsl hx
    split at hio
    · rename_i hn0
      cases hio
      subst hn0
      refine ⟨.slice none 0 0, w, ι, fun o ho => .inl (exec o ho _ _ ?_), hs, .refl _ _ _, (fun h => by cases h), .snil⟩
      rw [hx']
      have hf0 := hfc w rfl
      rcases hu with ⟨q', hd⟩ | hd <;> simp [Builtin.append_, run_underlying ht, run_underlying hd, sizeOf, typeInfo, hi, hlen, hf0]
    · rename_i hn0
      split at hio
      case isFalse => cases hio
      rename_i hbytes
      cases hio
      have := fresh h none 0 0 [] [] hs (.refl _ _ _) hx' (RepC.nil _) (by simp) (fun w2 _ => by simp [Builtin.firstCells]) (by omega) (by simpa using hbytes) rfl
      simpa using this
  · rename_i bk o len cap
    obtain ⟨a', c', bi, hx', hι, hle, hex, had, hes⟩ := rep_slice hx
    split at hio
    · rename_i hn0
      cases hio
      subst hn0
      refine ⟨.slice (some a') len c', w, ι, fun o ho => .inl (exec o ho _ _ ?_), hs, .refl _ _ _, (fun h => by cases h), hx' ▸ hx⟩
      rw [hx']
      have hys : ys = [] := by apply List.length_eq_zero_iff.1; simpa using hysl
      have := run_append_here (w := w) (ty := o.type) ht hu hi hlen (hfc w rfl) (a := a') (sLen := len) (sCap := c') (by omega) (w' := w) (by rw [hys]; simp [storeCells])
      simpa using this
    · rename_i hn0
      split at hio
      case isFalse => cases hio
      rename_i hbytes
      split at hio
      · -- known to be full
        rename_i hlc
        have hc' := hex hlc.symm
        split at hio
        case h_2 => cases hio
        rename_i old hold
        cases hio
        split at hold
        · rename_i hl0
          cases hold
          subst hl0
          exact fresh h (some a') 0 c' [] [] hs (.refl _ _ _) hx' (RepC.nil _) (by simp) (fun w2 _ => by simp [Builtin.firstCells, loadCells, loadCellsFrom]) (by omega) hbytes rfl
        · rename_i hl0
          have ha' := had (by omega)
          subst ha'
          obtain ⟨cs', h1, h2, h3⟩ := hs.cells hι hold
          refine fresh h _ len c' old cs' hs (.refl _ _ _) hx' h1 h2 (fun w2 hw2 => run_firstCells_some (P := P) w2 i.size len _ len c' cs' (by rw [← h1.1, h2]) (fun j u hj => by
            have := h3 j u hj
            simp only [World.cell?, hw2] at this ⊢
            exact this)) (by omega) hbytes rfl
      · rename_i hlc
        split at hio
        case h_2 => cases hio
        rename_i cs esz hbk
        split at hio
        case isFalse => cases hio
        rename_i hcond
        obtain ⟨rfl, hfit⟩ := hcond
        cases hio
        have hmine : mine h bk := by unfold mine; rw [hbk]; trivial
        have hold : h.cells bk o (len * i.size) = some ((cs.drop o).take (len * i.size)) := by
          unfold Heap.cells; rw [hbk]; simp [hfit]
        obtain ⟨cs', h1, h2, h3⟩ := hs.cells hι hold
        by_cases hroom : len + n ≤ c'
        · -- in place
          have ha' := had (by omega)
          subst ha'
          obtain ⟨o', ho', hr⟩ := hs.blk bk _ bi hbk hι
          cases o' <;> simp only [BRel] at hr
          rename_i row rt fz
          obtain ⟨hrz, hsh, hrep, hez, hown⟩ := hr
          obtain ⟨rfl, hbase⟩ := hown.1 trivial
          have htop := hes (by rw [hez]; exact hsz) (by omega)
          rw [hez] at htop
          have hmul : len * i.size + n * i.size ≤ c' * i.size := by rw [← Nat.add_mul]; exact Nat.mul_le_mul_right _ hroom
          have hst := run_storeCells_at P bi.blk (o + bi.sh + len * i.size) rt ys 0 row w ho' (by rw [hysl]; omega) (fun v hv => by
            obtain ⟨k, hk⟩ := List.getElem?_of_mem hv
            have hk' : k < xs.length := by rw [hxy.1]; exact (List.getElem?_eq_some_iff.1 hk).1
            have := hxy.2 k _ v (List.getElem?_eq_getElem hk') hk
            rw [oneCell'_eq]; exact this.2.flat this.1)
          simp only [Nat.add_zero, hysl] at hst
          obtain ⟨g1, g2⟩ := hs.move hι hmine (.cells ((cs.drop o).take (len * i.size) ++ xs) true i.size) (.cells (row.toList.take (o + bi.sh + len * i.size) ++ ys ++ row.toList.drop (o + bi.sh + len * i.size + n * i.size)).toArray rt (0, 0))
            ⟨bi.blk, o + bi.sh, bi.top, i.size⟩ rfl
            (fun ι' hle' => ⟨by simp [hysl]; omega, by simp [hxl]; omega, by
              have hcut : ((row.toList.take (o + bi.sh + len * i.size) ++ ys ++ row.toList.drop (o + bi.sh + len * i.size + n * i.size)).drop (o + bi.sh)).take ((cs.drop o).take (len * i.size) ++ xs).length = ((row.toList.drop (o + bi.sh)).take (len * i.size)) ++ ys := by
                rw [List.append_assoc, List.drop_append_of_le_length (by simp; omega), List.drop_take, show o + bi.sh + len * i.size - (o + bi.sh) = len * i.size by omega]
                rw [← List.append_assoc, List.take_append_of_le_length (by simp [hxl, hysl]; omega), List.take_of_length_le (by simp [hxl, hysl]; omega)]
              simp only [List.toList_toArray]
              rw [hcut]
              refine ((?_ : RepC ι _ _).append hxy).mono hle'
              have := (hrep.drop o).take (len * i.size)
              have e : List.take (len * i.size) (List.drop o (List.take cs.length (List.drop bi.sh row.toList))) = List.take (len * i.size) (List.drop (o + bi.sh) row.toList) := by
                rw [List.drop_take, List.take_take, List.drop_drop, Nat.min_eq_left (by omega), Nat.add_comm bi.sh o]
              rw [e] at this
              exact this, rfl, fun _ => ⟨rfl, hbase⟩, fun hq => by cases hq⟩)
            (w' := w.setRow bi.blk (row.toList.take (o + bi.sh + len * i.size) ++ ys ++ row.toList.drop (o + bi.sh + len * i.size + n * i.size)).toArray)
            (setRow_heap _ _ _ _ _ _ ho') (fun k hk => setRow_other _ _ _ _ hk) (by simp) (by simp) (by simp) (by simp)
          refine ⟨.slice (some ⟨bi.blk, o + bi.sh, none⟩) (len + n) c', _, _, fun oo hoo => .inl (exec oo hoo _ _ ?_), g1, g2, (fun h => by cases h), ?_⟩
          · rw [hx']
            exact run_append_here ht hu hi hlen (hfc w rfl) hroom (by rw [addr_add]; exact hst)
          · exact Rep.slice (i := ⟨bi.blk, o + bi.sh, bi.top, i.size⟩) (ext1_same _ _ _) hroom (fun h => by omega) (fun _ => by simp) (fun _ _ => by simp; omega)
        · -- it grows
          obtain ⟨hd1, hd2, _⟩ := hs.die hmine
          refine fresh (h.set bk .dead) (some a') len c' _ cs' hd1 hd2 hx' h1 h2 (fun w2 hw2 => ?_) (by omega) hbytes rfl
          by_cases hl0 : len = 0
          · subst hl0
            have : cs' = [] := by apply List.length_eq_zero_iff.1; rw [← h1.1, h2]; simp
            subst this
            simp [Builtin.firstCells, loadCells, loadCellsFrom]
          · have ha' := had (by omega)
            subst ha'
            exact run_firstCells_some (P := P) w2 i.size len _ len c' cs' (by rw [← h1.1, h2]) (fun j u hj => by
              have := h3 j u hj
              simp only [World.cell?, hw2] at this ⊢
              exact this)
  · cases hio

end Go.Idl
