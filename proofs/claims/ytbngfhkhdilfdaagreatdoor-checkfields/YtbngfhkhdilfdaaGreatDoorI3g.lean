/- Texts of the proof. -/
import GoSem.Step
import Derived.RowKit3
import Derived.Laws.CopyRow
import Derived.Laws.Cells
import Derived.Orders
import Derived.ChangeKeysEq
import Derived.Laws.StructEq
import Derived.Laws.MakeOwn
import Derived.Lib.AppendStr
set_option linter.unusedVariables false
set_option linter.unusedSimpArgs false
set_option maxRecDepth 100000
section
namespace Go.Idl
abbrev Env := Nat → Value
def upd (e : Env) (i : Nat) (v : Value) : Env := fun j => if j = i then v else e j
inductive Opd where
 | t (i : Nat)
 | c (v : Value)
def ev (e : Env) : Opd → Value
 | .t i => e i
 | .c v => v
inductive LenK where
 | str | sl | mp
 | ar (n : Nat)
inductive SubK where
 | str
 | sl (size : Nat)
 | ar (n size : Nat)
inductive IdxK where
 | sl (size : Nat)
 | ar (n size : Nat)
inductive SK where
 | int (k : IntKind)
 | str
 | bool
 deriving DecidableEq
inductive KK where
 | one (s : SK)
 | agg (ss : List SK)
 deriving DecidableEq
inductive NK where
 | ptr | sl | mp | fn | ifc
inductive IOp where
 | mov (x : Opd)
 | pick (c a b : Opd)
 | alloc (z : List Value)
 | box (x : Opd)
 | build (z : List Value) (ps : List (Nat × Nat × Opd))
 | lit (esz len : Nat) (z : List Value) (ps : List (Nat × Nat × Opd))
 | load (n : Option Nat) (a : Opd)
 | nilck (x : Opd)
 | bin (op : BinOp) (x y : Opd)
 | eqs (ks : List SK) (neg : Bool) (x y : Opd)
 | beq (neg : Bool) (x y : Opd)
 | isnil (k : NK) (neg : Bool) (x : Opd)
 | un (op : UnOp) (x : Opd)
 | conv (k : IntKind) (x : Opd)
 | iface (t : TypeId) (x : Opd)
 | fn (f : FuncId) (first cap : List Opd)
 | mkmap (kk : KK)
 | mkslice (esz bytes : Nat) (z : List Value) (len cap : Opd)
 | sub (k : SubK) (x : Opd) (lo hi mx : Option Opd)
 | faddr (off : Nat) (x : Opd)
 | field (off : Nat) (n : Option Nat) (x : Opd)
 | iaddr (k : IdxK) (x i : Opd)
 | sidx (x i : Opd)
 | aidx (len size : Nat) (n : Option Nat) (x i : Opd)
 | lookup (kk : KK) (z : Value) (ok : Bool) (m k : Opd)
 | assert (t : TypeId) (z : Value) (x : Opd)
 | extract (x : Opd) (i : Nat)
 | len (k : LenK) (x : Opd)
 | minmax (mx : Bool) (x y : Opd)
 | append (size bytes : Nat) (s x : Opd)
 | clear (z : List Value) (x : Opd)
 | range (x : Opd)
 | next (x : Opd)
 | store (n : Nat) (a v : Opd)
 | mapset (kk : KK) (m k v : Opd)
 | recover
inductive Stm where
 | op (o : IOp)
 | call (f : FuncId) (args : List Opd)
 | callv (x : Opd) (args : List Opd)
 | defer (x : Opd) (args : List Opd)
 | panic (x : Opd)
structure Step where
 dst : Option Nat
 stm : Stm
 grd : Option (Nat × Bool)
inductive IC where
 | skip
 | ops (l : List Step)
 | draw (l : List Step) (anc : List (List Nat))
 | seq (a b : IC)
 | cond (c : Opd) (a b : IC)
 | block (id : Nat) (b : IC)
 | loop (b : IC)
 | rangeF (f : Opd) (ps : List Nat) (asg body : IC)
 | exit (id : Nat)
 | ret
inductive LSt where
 | ready | busy | done | gone
 deriving DecidableEq
inductive Jmp where
 | ret
 | brk (id : Nat)
structure LoopB where
 st : LSt
 pend : Option Jmp
 e : Env
 ps : List Nat
 asg : IC
 body : IC
inductive Blk where
 | cells (cs : List Value) (own : Bool) (esz : Nat)
 | dead
 | map (kk : KK) (es : List (Value × Value))
 | siter (s : ByteArray) (pos : Nat)
 | loop (l : LoopB)
 | dfr
structure Heap where
 get : Nat → Option Blk
 next : Nat
def Heap.set (h : Heap) (b : Nat) (o : Blk) : Heap := { h with get := fun k => if k = b then some o else h.get k }
def Heap.new (h : Heap) (o : Blk) : Heap := { get := fun k => if k = h.next then some o else h.get k, next := h.next + 1 }
def ptr (b o : Nat) : Value := .pointer (some ⟨b, o, none⟩)
def cellsOf : Value → Option (List Value)
 | .agg cs => some cs.toList
 | .tuple _ => none
 | v => some [v]
def Heap.cell (h : Heap) (b o : Nat) : Option Value :=
 match h.get b with
 | some (.cells cs _ _) => cs[o]?
 | _ => none
def Heap.cells (h : Heap) (b o n : Nat) : Option (List Value) :=
 match h.get b with
 | some (.cells cs _ _) => if o + n ≤ cs.length then some ((cs.drop o).take n) else none
 | _ => none
def put : List Value → Nat → List Value → List Value
 | cs, _, [] => cs
 | cs, o, v :: vs => put (cs.set o v) (o + 1) vs
def Heap.write (h : Heap) (b o : Nat) (vs : List Value) : Option Heap :=
 match h.get b with
 | some (.cells cs true esz) => if o + vs.length ≤ cs.length then some (h.set b (.cells (put cs o vs) true esz)) else none
 | _ => none
def fillL : List Value → List (Nat × Nat × Value) → Option (List Value)
 | cs, [] => some cs
 | cs, (off, size, v) :: rest =>
  match cellsOf v with
  | some vs => if vs.length = size ∧ off + size ≤ cs.length then fillL (put cs off vs) rest else none
  | none => none
def evps (e : Env) (ps : List (Nat × Nat × Opd)) : List (Nat × Nat × Value) := ps.map fun p => (p.1, p.2.1, ev e p.2.2)
def partL (cs : List Value) (off : Nat) : Option Nat → Option Value
 | none => cs[off]?
 | some n => if off + n ≤ cs.length then some (.agg ((cs.drop off).take n).toArray) else none
def fit1 : SK → Value → Bool
 | .int k, .int k' _ => k == k'
 | .str, .string _ => true
 | .bool, .bool _ => true
 | _, _ => false
def fitL : List SK → List Value → Bool
 | [], [] => true
 | s :: ss, v :: vs => fit1 s v && fitL ss vs
 | _, _ => false
def seq1 : Value → Value → Bool
 | .bool a, .bool b => a == b
 | .int _ a, .int _ b => a == b
 | .string a, .string b => decide (a = b)
 | _, _ => false
def seqL : List Value → List Value → Bool
 | [], [] => true
 | x :: xs, y :: ys => seq1 x y && seqL xs ys
 | _, _ => false
def keyOf : KK → Value → Option (List Value)
 | .one s, v => if fit1 s v then some [v] else none
 | .agg ss, .agg cs => if fitL ss cs.toList then some cs.toList else none
 | .agg _, _ => none
def cellsV : Value → List Value
 | .agg cs => cs.toList
 | v => [v]
def findK (k : List Value) : List (Value × Value) → Option Value
 | [] => none
 | (a, v) :: es => if seqL k (cellsV a) then some v else findK k es
def setK (k : List Value) (kv v : Value) : List (Value × Value) → List (Value × Value)
 | [] => [(kv, v)]
 | (a, u) :: es => if seqL k (cellsV a) then (kv, v) :: es else (a, u) :: setK k kv v es
def binI (op : BinOp) (k : IntKind) (x y : Int) : Option Value :=
 match op with
 | .add => some (.int k (k.wrap (x + y)))
 | .sub => some (.int k (k.wrap (x - y)))
 | .mul => some (.int k (k.wrap (x * y)))
 | .quo => if y = 0 then none else some (.int k (k.wrap (x.tdiv y)))
 | .rem => if y = 0 then none else some (.int k (x.tmod y))
 | .and => some (.int k (k.wrap (BitVec.ofInt k.bits x &&& BitVec.ofInt k.bits y).toNat))
 | .or => some (.int k (k.wrap (BitVec.ofInt k.bits x ||| BitVec.ofInt k.bits y).toNat))
 | .xor => some (.int k (k.wrap (BitVec.ofInt k.bits x ^^^ BitVec.ofInt k.bits y).toNat))
 | .andNot => some (.int k (k.wrap (BitVec.ofInt k.bits x &&& ~~~ BitVec.ofInt k.bits y).toNat))
 | .eql => some (.bool (x == y))
 | .neq => some (.bool (x != y))
 | .lss => some (.bool (x < y))
 | .leq => some (.bool (x ≤ y))
 | .gtr => some (.bool (x > y))
 | .geq => some (.bool (x ≥ y))
 | _ => none
def binV (op : BinOp) : Value → Value → Option Value
 | .int k x, .int k' y =>
  match op with
  | .shl => if y < 0 then none else some (.int k (k.wrap (x * 2 ^ min y.toNat k.bits)))
  | .shr => if y < 0 then none else some (.int k (x.fdiv (2 ^ min y.toNat k.bits)))
  | _ => if k = k' then binI op k x y else none
 | .string a, .string b =>
  match op with
  | .add => if a.size + b.size ≤ 9223372036854775807 then some (.string (a ++ b)) else none
  | .eql => some (.bool (decide (a = b)))
  | .neq => some (.bool (!decide (a = b)))
  | _ => none
 | _, _ => none
def unV (op : UnOp) : Value → Option Value
 | .int k n => match op with
  | .neg => some (.int k (k.wrap (0 - n)))
  | .xor => some (.int k (k.wrap (BitVec.ofInt k.bits (if k.signed then -1 else k.max) ^^^ BitVec.ofInt k.bits n).toNat))
  | _ => none
 | .bool b => match op with
  | .not => some (.bool (!b))
  | _ => none
 | _ => none
def nilV : NK → Value → Option Bool
 | .ptr, .pointer a => some a.isNone
 | .sl, .slice a _ _ => some a.isNone
 | .mp, .map a => some a.isNone
 | .fn, .nilFunc => some true
 | .fn, .func _ _ _ => some false
 | .ifc, .nilIface => some true
 | .ifc, .iface _ _ => some false
 | _, _ => none
def bndV (lo hi : Nat) : Value → Option Nat
 | .int _ i => if lo ≤ i ∧ i ≤ hi then some i.toNat else none
 | _ => none
def bndO (e : Env) (lo hi dflt : Nat) : Option Opd → Option Nat
 | none => some dflt
 | some x => bndV lo hi (ev e x)
def subSl (size len cap l hi : Nat) (mx : Option Nat) (a : Option Addr) : Value :=
 let cap' := match mx with
  | some m => if m = hi then hi - l else hi - l + 1
  | none => if cap = len ∧ hi = len then hi - l else hi - l + 1
 .slice (a.map fun p => ⟨p.block, p.off + l * size, none⟩) (hi - l) cap'
def idxV (len : Nat) : Value → Option Nat
 | .int _ i => if 0 ≤ i ∧ i < len then some i.toNat else none
 | _ => none
def bytesL (s : ByteArray) : List Value := s.data.toList.map fun b => .int .u8 b.toNat
def okSz (h : Heap) (b size : Nat) : Bool :=
 match h.get b with
 | some (.cells _ _ esz) => esz == 0 || esz == size
 | _ => false
def okSzO (h : Heap) (size : Nat) : Option Addr → Bool
 | some a => okSz h a.block size
 | none => true
def elemsOf (h : Heap) (size : Nat) : Value → Option (Nat × List Value)
 | .slice none 0 _ => some (0, [])
 | .slice (some ⟨b, o, none⟩) n _ => if n = 0 then some (0, []) else (h.cells b o (n * size)).map fun cs => (n, cs)
 | .string s => if size = 1 then some (s.size, bytesL s) else none
 | _ => none
def appendV (size bytes : Nat) (s x : Value) (h : Heap) : Option (Value × Heap) :=
 match elemsOf h size x with
 | none => none
 | some (n, xs) =>
  match s with
  | .slice none 0 0 =>
   if n = 0 then some (.slice none 0 0, h)
   else if n * bytes ≤ 140737488355328 then some (.slice (some ⟨h.next, 0, none⟩) n (n + 1), h.new (.cells xs true size)) else none
  | .slice (some ⟨b, o, none⟩) len cap =>
   if n = 0 then some (.slice (some ⟨b, o, none⟩) len cap, h)
   else if (len + n) * bytes ≤ 140737488355328 then
    if len = cap then
     match (if len = 0 then some [] else h.cells b o (len * size)) with
     | some old => some (.slice (some ⟨h.next, 0, none⟩) (len + n) (len + n + 1), h.new (.cells (old ++ xs) true size))
     | none => none
    else
     match h.get b with
     | some (.cells cs true esz) =>
      if esz = size ∧ o + len * size ≤ cs.length then
       some (.slice (some ⟨h.next, 0, none⟩) (len + n) (len + n + 1), (h.set b .dead).new (.cells ((cs.drop o).take (len * size) ++ xs) true size))
      else none
     | _ => none
   else none
  | _ => none
def iop (o : IOp) (e : Env) (h : Heap) : Option (Value × Heap) :=
 match o with
 | .mov x => some (ev e x, h)
 | .pick c a b => match ev e c with
  | .bool t => some (if t then ev e a else ev e b, h)
  | _ => none
 | .alloc z => some (ptr h.next 0, h.new (.cells z true 0))
 | .box x => (cellsOf (ev e x)).map fun cs => (ptr h.next 0, h.new (.cells cs true 0))
 | .build z ps => (fillL z (evps e ps)).map fun cs => (.agg cs.toArray, h)
 | .lit esz len z ps => (fillL z (evps e ps)).map fun cs => (.slice (some ⟨h.next, 0, none⟩) len len, h.new (.cells cs true esz))
 | .load n a => match ev e a with
  | .pointer (some ⟨b, o, none⟩) => match n with
   | none => (h.cell b o).map fun v => (v, h)
   | some n => (h.cells b o n).map fun cs => (.agg cs.toArray, h)
  | _ => none
 | .nilck x => match ev e x with
  | .pointer (some a) => some (.pointer (some a), h)
  | .func (.func f) a b => some (.func (.func f) a b, h)
  | .func (.yield f) a b => some (.func (.yield f) a b, h)
  | .iface t v => some (.iface t v, h)
  | _ => none
 | .bin op x y => (binV op (ev e x) (ev e y)).map fun v => (v, h)
 | .eqs ks neg x y => match ev e x, ev e y with
  | .agg a, .agg b => if fitL ks a.toList && fitL ks b.toList then some (.bool (seqL a.toList b.toList != neg), h) else none
  | _, _ => none
 | .beq neg x y => match ev e x, ev e y with
  | .bool a, .bool b => some (.bool ((a == b) != neg), h)
  | _, _ => none
 | .isnil k neg x => (nilV k (ev e x)).map fun b => (.bool (b != neg), h)
 | .un op x => (unV op (ev e x)).map fun v => (v, h)
 | .conv k x => match ev e x with
  | .int _ n => some (.int k (k.wrap n), h)
  | _ => none
 | .iface t x => some (.iface t (ev e x), h)
 | .fn f first cap => some (.func (.func f) (first.map (ev e)).toArray (cap.map (ev e)).toArray, h)
 | .mkmap kk => some (.map (some h.next), h.new (.map kk []))
 | .mkslice esz bytes z len cap => match ev e len, ev e cap with
  | .int .i64 l, .int .i64 c =>
   if 0 ≤ l ∧ l ≤ c ∧ c * bytes ≤ 140737488355328 then
    some (.slice (some ⟨h.next, 0, none⟩) l.toNat (if l = c then l.toNat else l.toNat + 1), h.new (.cells (List.replicate l.toNat z).flatten true esz))
   else none
  | _, _ => none
 | .sub k x lo hi mx => match k, ev e x with
  | .str, .string s => match bndO e 0 s.size s.size hi with
   | some b => match bndO e 0 b 0 lo with
    | some a => match mx with
     | none => some (.string (s.extract a b), h)
     | some _ => none
    | none => none
   | none => none
  | .sl size, .slice a len cap => match (match mx with | none => some none | some m => (bndV 0 len (ev e m)).map some) with
   | none => none
   | some m => match bndO e 0 (m.getD len) len hi with
    | some b => match bndO e 0 b 0 lo with
     | some l => if (mx.isSome && hi.isNone) || !okSzO h size a then none else some (subSl size len cap l b m a, h)
     | none => none
    | none => none
  | .ar n size, .pointer (some a) => match bndO e 0 n n hi with
   | some b => match bndO e 0 b 0 lo with
    | some l => match mx with
     | none => if okSz h a.block 0 then some (subSl size n n l b none (some a), h) else none
     | some _ => none
    | none => none
   | none => none
  | _, _ => none
 | .faddr off x => match ev e x with
  | .pointer (some ⟨b, o, none⟩) => some (ptr b (o + off), h)
  | _ => none
 | .field off n x => match ev e x with
  | .agg cs => (partL cs.toList off n).map fun v => (v, h)
  | _ => none
 | .iaddr k x i => match k, ev e x with
  | .sl size, .slice (some ⟨b, o, none⟩) len _ => (idxV len (ev e i)).map fun j => (ptr b (o + j * size), h)
  | .ar n size, .pointer (some ⟨b, o, none⟩) => (idxV n (ev e i)).map fun j => (ptr b (o + j * size), h)
  | _, _ => none
 | .sidx x i => match ev e x with
  | .string s => match idxV s.size (ev e i) with
   | some j => (s.data.toList[j]?).map fun b => (.int .u8 b.toNat, h)
   | none => none
  | _ => none
 | .aidx len size n x i => match ev e x with
  | .agg cs => match idxV len (ev e i) with
   | some j => (partL cs.toList (j * size) n).map fun v => (v, h)
   | none => none
  | _ => none
 | .lookup kk z ok m k => match (match ev e m with
  | .map none => some []
  | .map (some b) => match h.get b with
   | some (.map kk' es) => if kk = kk' then some es else none
   | _ => none
  | _ => none), keyOf kk (ev e k) with
  | some es, some k' => match findK k' es with
   | some v => some (if ok then .tuple #[v, .bool true] else v, h)
   | none => some (if ok then .tuple #[z, .bool false] else z, h)
  | _, _ => none
 | .assert t z x => match ev e x with
  | .nilIface => some (.tuple #[z, .bool false], h)
  | .iface u v => some (if u = t then .tuple #[v, .bool true] else .tuple #[z, .bool false], h)
  | _ => none
 | .extract x i => match ev e x with
  | .tuple vs => (vs.toList[i]?).map fun v => (v, h)
  | _ => none
 | .len k x => match k, ev e x with
  | .str, .string s => some (.int .i64 s.size, h)
  | .sl, .slice _ n _ => some (.int .i64 n, h)
  | .ar n, _ => some (.int .i64 n, h)
  | .mp, .map none => some (.int .i64 0, h)
  | .mp, .map (some b) => match h.get b with
   | some (.map _ es) => some (.int .i64 es.length, h)
   | _ => none
  | _, _ => none
 | .minmax mx x y => match ev e x, ev e y with
  | .int k a, .int k' b => if k = k' then some (.int k (if mx then (if b > a then b else a) else (if b < a then b else a)), h) else none
  | _, _ => none
 | .append size bytes s x => appendV size bytes (ev e s) (ev e x) h
 | .clear z x => match ev e x with
  | .slice none _ _ => some (undef, h)
  | .slice (some ⟨b, o, none⟩) len _ => if len = 0 then some (undef, h) else (h.write b o (List.replicate len z).flatten).map fun h' => (undef, h')
  | _ => none
 | .range x => match ev e x with
  | .string s => some (ptr h.next 0, h.new (.siter s 0))
  | _ => none
 | .next x => match ev e x with
  | .pointer (some ⟨b, 0, none⟩) => match h.get b with
   | some (.siter s pos) =>
    if pos < s.size then some (.tuple #[.bool true, .int .i64 pos, .int .i32 (Utf8.decode s pos).1], h.set b (.siter s (pos + (Utf8.decode s pos).2)))
    else some (.tuple #[.bool false], h)
   | _ => none
  | _ => none
 | .store n a v => match ev e a with
  | .pointer (some ⟨b, o, none⟩) => match cellsOf (ev e v) with
   | some vs => if vs.length = n then (h.write b o vs).map fun h' => (undef, h') else none
   | none => none
  | _ => none
 | .mapset kk m k v => match ev e m with
  | .map (some b) => match h.get b, keyOf kk (ev e k) with
   | some (.map kk' es), some k' => if kk = kk' then some (undef, h.set b (.map kk (setK k' (ev e k) (ev e v) es))) else none
   | _, _ => none
  | _ => none
 | .recover => none
inductive Dfr where
 | fn (f : FuncId) (args : List Value)
 | mark (b : Nat)
structure St where
 e : Env
 h : Heap
 d : Option (List Dfr)
inductive Ex where
 | normal
 | brk (id : Nat)
 | ret
 | pan (v : Value)
inductive Cal where
 | fn (f : FuncId)
 | yld (l : Nat)
inductive Out where
 | ret (v : Value)
 | pan (v : Value)
abbrev CallF := Cal → List Value → Heap → Option (Out × Heap)
def dstUpd (e : Env) : Option Nat → Value → Env
 | some d, v => upd e d v
 | none, _ => e
def target (x : Value) (args : List Value) : Option (Cal × List Value) :=
 match x with
 | .func (.func f) first cap => some (.fn f, first.toList ++ args ++ cap.toList)
 | .func (.yield l) a b => if a.isEmpty && b.isEmpty then some (.yld l, args) else none
 | _ => none
def afterCall (dst : Option Nat) (s : St) : Option (Out × Heap) → Option (Option Value × St)
 | some (.ret v, h) => some (none, { s with e := dstUpd s.e dst v, h := h })
 | some (.pan v, h) => some (some v, { s with h := h })
 | none => none
def istm (call : CallF) (dst : Option Nat) (m : Stm) (s : St) : Option (Option Value × St) :=
 match m with
 | .op o => match iop o s.e s.h with
  | some (v, h) => some (none, { s with e := dstUpd s.e dst v, h := h })
  | none => none
 | .call f args => afterCall dst s (call (.fn f) (args.map (ev s.e)) s.h)
 | .callv x args => match target (ev s.e x) (args.map (ev s.e)) with
  | some (c, vs) => afterCall dst s (call c vs s.h)
  | none => none
 | .defer x args => match s.d, target (ev s.e x) (args.map (ev s.e)) with
  | some ds, some (.fn f, vs) => some (none, { s with e := dstUpd s.e dst undef, d := some (.fn f vs :: ds) })
  | _, _ => none
 | .panic x => match ev s.e x with
  | .iface t v => some (some (.iface t v), s)
  | _ => none
def wantedE (e : Env) : Option (Nat × Bool) → Bool
 | none => true
 | some (j, b) => match e j with
  | .bool c => c == b
  | _ => false
def iops (call : CallF) : List Step → St → Option (Option Value × St)
 | [], s => some (none, s)
 | x :: rest, s =>
  if wantedE s.e x.grd then
   match istm call x.dst x.stm s with
   | some (none, s') => iops call rest s'
   | r => r
  else iops call rest { s with e := dstUpd s.e x.dst undef }
end Go.Idl
end

section
namespace Go.Idl
open Classical
inductive Kd where
 | P | R | A | E
 deriving DecidableEq
def kdOp : IOp → Kd
 | .load _ _ | .lookup _ _ _ _ _ | .sub _ _ _ _ _ => .R
 | .len .mp _ => .R
 | .alloc _ | .box _ | .lit _ _ _ _ | .mkmap _ | .mkslice _ _ _ _ _ | .range _ => .A
 | .append _ _ _ _ | .clear _ _ | .next _ | .store _ _ _ | .mapset _ _ _ _ | .recover => .E
 | _ => .P
def kdStm : Stm → Kd
 | .op o => kdOp o
 | _ => .E
inductive Loc where
 | cells (b o n : Nat)
 | blk (b : Nat)
 | sz (b size : Nat)
 | none
def locOp (o : IOp) (e : Env) : Loc :=
 match o with
 | .load n a => match ev e a with
  | .pointer (some ⟨b, o, _⟩) => match n with
   | .none => .cells b o 1
   | .some n => .cells b o n
  | _ => .none
 | .lookup _ _ _ m _ => match ev e m with
  | .map (some b) => .blk b
  | _ => .none
 | .len .mp m => match ev e m with
  | .map (some b) => .blk b
  | _ => .none
 | .sub k x _ _ _ => match k, ev e x with
  | .sl size, .slice (some a) _ _ => .sz a.block size
  | .ar _ _, .pointer (some a) => .sz a.block 0
  | _, _ => .none
 | _ => .none
def locStm (m : Stm) (e : Env) : Loc :=
 match m with
 | .op o => locOp o e
 | _ => .none
def sameAt (h h' : Heap) : Loc → Prop
 | .cells b o n => h.cells b o n = h'.cells b o n
 | .blk b => h.get b = h'.get b
 | .sz b size => okSz h b size = okSz h' b size
 | .none => True
def allAnc (i : Nat) (anc : List (List Nat)) : List Step → Nat → Bool
 | [], _ => true
 | _ :: rest, k => (anc.getD k []).contains i && allAnc i anc rest (k + 1)
def unk : Value := .chan none
def forget (e : Env) (ds : List Nat) : Env := fun j => if ds.contains j then unk else e j
noncomputable def idraw (call : CallF) (anc : List (List Nat)) (ds : List Nat) : List Step → Nat → List (Nat × Loc) → List (Nat × Heap × Heap) → St → Option (Option Value × St)
 | [], _, _, _, s => some (none, s)
 | x :: rest, i, rs, es, s =>
  if wantedE s.e x.grd then
   match istm call x.dst x.stm s with
   | some (none, s') =>
    match kdStm x.stm with
    | .P => idraw call anc ds rest (i + 1) rs es s'
    | .R => if (∀ p ∈ es, p.1 ∈ anc.getD i [] ∨ sameAt p.2.1 p.2.2 (locStm x.stm s.e)) then idraw call anc ds rest (i + 1) ((i, locStm x.stm s.e) :: rs) es s' else none
    | .A => idraw call anc ds rest (i + 1) ((i, .blk s.h.next) :: rs) es s'
    | .E => if (∀ p ∈ rs, p.1 ∈ anc.getD i [] ∨ sameAt s.h s'.h p.2) then idraw call anc ds rest (i + 1) rs ((i, s.h, s'.h) :: es) s' else none
   | some (some v, s') => if allAnc i anc rest (i + 1) then some (some v, { s' with e := forget s.e ds }) else none
   | none => none
  else idraw call anc ds rest (i + 1) rs es { s with e := dstUpd s.e x.dst undef }
def exOf : Option (Option Value × St) → Option (Ex × St)
 | some (none, s) => some (.normal, s)
 | some (some v, s) => some (.pan v, s)
 | none => none
def jmpEx : Jmp → Ex
 | .ret => .ret
 | .brk id => .brk id
def setPs (e : Env) : List Nat → List Value → Env
 | p :: ps, v :: vs => setPs (upd e p v) ps vs
 | _, _ => e
def loopCode (f : IC → St → Option (Ex × St)) (b : IC) : Nat → St → Option (Ex × St)
 | 0, _ => none
 | n + 1, s => match f b s with
  | some (.normal, s') => loopCode f b n s'
  | r => r
noncomputable def icode (call : CallF) (n : Nat) : IC → St → Option (Ex × St)
 | .skip, s => some (.normal, s)
 | .ops l, s => exOf (iops call l s)
 | .draw l anc, s => exOf (idraw call anc (l.filterMap (·.dst)) l 0 [] [] s)
 | .seq a b, s => match icode call n a s with
  | some (.normal, s') => icode call n b s'
  | r => r
 | .cond c a b, s => match ev s.e c with
  | .bool true => icode call n a s
  | .bool false => icode call n b s
  | _ => none
 | .block id b, s => match icode call n b s with
  | some (.brk i, s') => if i = id then some (.normal, s') else some (.brk i, s')
  | r => r
 | .loop b, s => loopCode (fun _ s => icode call n b s) b n s
 | .exit id, s => some (.brk id, s)
 | .ret, s => some (.ret, s)
 | .rangeF f ps asg body, s => match s.d with
  | none => none
  | some ds => match target (ev s.e f) [.func (.yield (s.h.next + 1)) #[] #[]] with
   | some (.fn g, vs) => match call (.fn g) vs ((s.h.new .dfr).new (.loop ⟨.ready, none, s.e, ps, asg, body⟩)) with
    | some (.ret _, h') => match h'.get (s.h.next + 1) with
     | some (.loop L) => if L.st = LSt.busy then none else
      match L.pend with
      | none => some (.normal, { s with h := h'.set (s.h.next + 1) (.loop { L with st := .gone }), d := some (Dfr.mark s.h.next :: ds) })
      | some j => some (jmpEx j, { s with h := h'.set (s.h.next + 1) (.loop { L with st := .gone }), d := some (Dfr.mark s.h.next :: ds) })
     | _ => none
    | some (.pan v, h') => some (.pan v, { s with h := h', d := some (Dfr.mark s.h.next :: ds) })
    | none => none
   | _ => none
inductive RV where
 | tmp (t : Nat)
 | cell (a : Nat) (n : Option Nat)
structure IFn where
 nt : Nat
 code : IC
 res : List RV
structure Tbl where
 fn : FuncId → Option IFn
 prim : FuncId → Option (List Value → Option Value)
def args0 (args : List Value) : Env := fun i => args.getD i undef
def resV (e : Env) (h : Heap) : RV → Option Value
 | .tmp t => some (e t)
 | .cell a n => match e a with
  | .pointer (some ⟨b, o, none⟩) => match n with
   | none => h.cell b o
   | some n => (h.cells b o n).map fun cs => .agg cs.toArray
  | _ => none
def resAll (e : Env) (h : Heap) : List RV → Option (List Value)
 | [] => some []
 | r :: rs => match resV e h r, resAll e h rs with
  | some v, some vs => some (v :: vs)
  | _, _ => none
def resVP (e : Env) (h : Heap) : RV → Option Value
 | .tmp t => match e t with
  | .chan _ => none
  | v => some v
 | r => resV e h r
def resAllP (e : Env) (h : Heap) : List RV → Option (List Value)
 | [] => some []
 | r :: rs => match resVP e h r, resAllP e h rs with
  | some v, some vs => some (v :: vs)
  | _, _ => none
def tup : List Value → Value
 | [v] => v
 | vs => .tuple vs.toArray
def iopsD : List Step → Option Value → St → Option (Option Value × St)
 | [], m, s => some (m, s)
 | x :: rest, m, s =>
  if wantedE s.e x.grd then
   match x.stm with
   | .op .recover => match m with
    | some v => iopsD rest none { s with e := dstUpd s.e x.dst v }
    | none => iopsD rest none { s with e := dstUpd s.e x.dst .nilIface }
   | .op o => match iop o s.e s.h with
    | some (v, h) => iopsD rest m { s with e := dstUpd s.e x.dst v, h := h }
    | none => none
   | _ => none
  else iopsD rest m { s with e := dstUpd s.e x.dst undef }
def hasRec : List Step → Bool
 | [] => false
 | x :: rest => (match x.stm with | .op .recover => true | _ => false) || hasRec rest
noncomputable def icodeD (call : CallF) (n : Nat) : IC → Option Value → St → Option (Ex × Option Value × St)
 | .ops l, m, s => if hasRec l then (iopsD l m s).map fun r => (.normal, r.1, r.2) else (icode call n (.ops l) s).map fun r => (r.1, m, r.2)
 | .seq a b, m, s => match icodeD call n a m s with
  | some (.normal, m', s') => icodeD call n b m' s'
  | r => r
 | .cond c a b, m, s => match ev s.e c with
  | .bool true => icodeD call n a m s
  | .bool false => icodeD call n b m s
  | _ => none
 | c, m, s => (icode call n c s).map fun r => (r.1, m, r.2)
noncomputable def idefer (call : CallF) (T : Tbl) (n : Nat) : List Dfr → Option Value → Heap → Option (Option Value × Heap)
 | [], m, h => some (m, h)
 | .mark b :: ds, m, h => match h.get b with
  | some .dfr => idefer call T n ds m (h.set b .dead)
  | _ => none
 | .fn f args :: ds, m, h => match T.fn f with
  | none => none
  | some fn => if fn.nt < args.length then none else match icodeD call n fn.code m ⟨args0 args, h, some []⟩ with
   | some (.normal, m', ⟨e', h', some []⟩) => match resAll e' h' fn.res with
    | some _ => idefer call T n ds m' h'
    | none => none
   | some (.ret, m', ⟨e', h', some []⟩) => match resAll e' h' fn.res with
    | some _ => idefer call T n ds m' h'
    | none => none
   | _ => none
noncomputable def ileave (call : CallF) (T : Tbl) (n : Nat) (fn : IFn) (m : Option Value) (s : St) : Option (Out × Heap) :=
 match s.d with
 | none => none
 | some ds => match idefer call T n ds m s.h with
  | some (none, h) => (match m with
   | none => resAll s.e h fn.res
   | some _ => resAllP s.e h fn.res).map fun vs => (.ret (tup vs), h)
  | some (some v, h) => some (.pan v, h)
  | none => none
noncomputable def icall (T : Tbl) : Nat → CallF
 | 0, _, _, _ => none
 | n + 1, .fn f, args, h =>
  match T.fn f with
  | some fn => if fn.nt < args.length then none else match icode (icall T n) n fn.code ⟨args0 args, h, some []⟩ with
   | some (.normal, s) => ileave (icall T n) T n fn none s
   | some (.ret, s) => ileave (icall T n) T n fn none s
   | some (.pan v, s) => ileave (icall T n) T n fn (some v) s
   | _ => none
  | none => match T.prim f with
   | some p => (p args).map fun v => (.ret v, h)
   | none => none
 | n + 1, .yld l, args, h =>
  match h.get l with
  | some (.loop L) =>
   if args.length = L.ps.length then
    match icode (icall T n) n L.asg ⟨setPs L.e L.ps args, h, none⟩ with
    | some (.normal, s) => match s.h.get l with
     | some (.loop L1) =>
      if L1.st = LSt.ready then
       match icode (icall T n) n L.body { s with h := s.h.set l (.loop { L1 with st := .busy }) } with
       | some (.pan _, _) => none
       | some (x, s2) => match s2.h.get l with
        | some (.loop L2) => match x with
         | .normal => some (.ret (.bool true), s2.h.set l (.loop { L2 with st := .ready, pend := none }))
         | .ret => some (.ret (.bool false), s2.h.set l (.loop { L2 with st := .done, pend := some .ret }))
         | .brk id => some (.ret (.bool false), s2.h.set l (.loop { L2 with st := .done, pend := some (.brk id) }))
         | .pan _ => none
        | _ => none
       | none => none
      else none
     | _ => none
    | _ => none
   else none
  | _ => none
abbrev Sx (d : Nat) (x : IOp) : Step := ⟨some d, .op x, none⟩
abbrev Su (x : IOp) : Step := ⟨none, .op x, none⟩
abbrev Sg (d : Nat) (x : IOp) (g : Nat) (b : Bool) : Step := ⟨some d, .op x, some (g, b)⟩
abbrev Sc (d f : Nat) (l : List Opd) : Step := ⟨some d, .call f l, none⟩
abbrev Sm (d k : Nat) : Step := ⟨some d, .op (.mov (.t k)), none⟩
abbrev Sl (d k : Nat) : Step := ⟨some d, .op (.load none (.t k)), none⟩
abbrev Sf (d n k : Nat) : Step := ⟨some d, .op (.faddr n (.t k)), none⟩
abbrev Sn (d k : Nat) : Step := ⟨some d, .op (.nilck (.t k)), none⟩
abbrev Si (d n k j : Nat) : Step := ⟨some d, .op (.iaddr (.sl n) (.t k) (.t j)), none⟩
abbrev Sb (d : Nat) (o : BinOp) (x y : Opd) : Step := ⟨some d, .op (.bin o x y), none⟩
abbrev Se (d k n : Nat) : Step := ⟨some d, .op (.extract (.t k) n), none⟩
abbrev Ci (n : Int) : Opd := .c (.int .i64 n)
end Go.Idl
end

section
namespace Go.Idl
structure BI where
 blk : Nat
 sh : Nat
 top : Nat
 esz : Nat
abbrev Inj := Nat → Option BI
def flat : Value → Bool
 | .agg _ | .tuple _ => false
 | _ => true
inductive Rep (ι : Inj) : Value → Value → Prop
 | bool (b : Bool) : Rep ι (.bool b) (.bool b)
 | int (k : IntKind) (n : Int) : Rep ι (.int k n) (.int k n)
 | string (s : ByteArray) : Rep ι (.string s) (.string s)
 | pnil : Rep ι (.pointer none) (.pointer none)
 | ptr {b o : Nat} {i : BI} : ι b = some i → Rep ι (.pointer (some ⟨b, o, none⟩)) (.pointer (some ⟨i.blk, o + i.sh, none⟩))
 | snil : Rep ι (.slice none 0 0) (.slice none 0 0)
 | slice {b o l c : Nat} {a' : Addr} {c' : Nat} {i : BI} : ι b = some i → l ≤ c' → (c = l → c' = l) → (c' ≠ 0 → a' = ⟨i.blk, o + i.sh, none⟩) →
  (0 < i.esz → c' ≠ 0 → o + i.sh + c' * i.esz ≤ i.top) → Rep ι (.slice (some ⟨b, o, none⟩) l c) (.slice (some a') l c')
 | mnil : Rep ι (.map none) (.map none)
 | map {b : Nat} {i : BI} : ι b = some i → Rep ι (.map (some b)) (.map (some i.blk))
 | func {f : FuncId} {x y x' y' : Array Value} : x.size = x'.size → (∀ (k : Nat) v v', x[k]? = some v → x'[k]? = some v' → Rep ι v v') →
  y.size = y'.size → (∀ (k : Nat) v v', y[k]? = some v → y'[k]? = some v' → Rep ι v v') → Rep ι (.func (.func f) x y) (.func (.func f) x' y')
 | yld {b : Nat} {i : BI} : ι b = some i → Rep ι (.func (.yield b) #[] #[]) (.func (.yield i.blk) #[] #[])
 | nilFunc : Rep ι .nilFunc .nilFunc
 | iface {t : TypeId} {v v' : Value} : Rep ι v v' → Rep ι (.iface t v) (.iface t v')
 | nilIface : Rep ι .nilIface .nilIface
 | agg {x x' : Array Value} : x.size = x'.size → (∀ (k : Nat) v, x[k]? = some v → flat v = true) → (∀ (k : Nat) v v', x[k]? = some v → x'[k]? = some v' → Rep ι v v') → Rep ι (.agg x) (.agg x')
 | tuple {x x' : Array Value} : x.size = x'.size → (∀ (k : Nat) v v', x[k]? = some v → x'[k]? = some v' → Rep ι v v') → Rep ι (.tuple x) (.tuple x')
def Inj.le (ι ι' : Inj) : Prop := ∀ b i, ι b = some i → ι' b = some i
theorem Inj.le.refl (ι : Inj) : ι.le ι := fun _ _ h => h
theorem Inj.le.trans {a b c : Inj} (h : a.le b) (h' : b.le c) : a.le c := fun x i hx => h' x i (h x i hx)
theorem Rep.mono {ι ι' : Inj} (hl : ι.le ι') {v v' : Value} (h : Rep ι v v') : Rep ι' v v' := by
 induction h with
 | bool b => exact .bool b
 | int k n => exact .int k n
 | string s => exact .string s
 | pnil => exact .pnil
 | ptr h => exact .ptr (hl _ _ h)
 | snil => exact .snil
 | slice h h1 h2 h3 h4 => exact .slice (hl _ _ h) h1 h2 h3 h4
 | mnil => exact .mnil
 | map h => exact .map (hl _ _ h)
 | func h1 _ h2 _ ih1 ih2 => exact .func h1 ih1 h2 ih2
 | yld h => exact .yld (hl _ _ h)
 | nilFunc => exact .nilFunc
 | iface _ ih => exact .iface ih
 | nilIface => exact .nilIface
 | agg h hf _ ih => exact .agg h hf ih
 | tuple h _ ih => exact .tuple h ih
theorem Rep.flat {ι : Inj} {v v' : Value} (h : Rep ι v v') (hf : flat v = true) : Idl.flat v' = true := by
 cases h <;> first | rfl | (simp [Idl.flat] at hf)
theorem oneCell'_eq (v : Value) : v.oneCell' = flat v := by cases v <;> rfl
def RepC (ι : Inj) (xs ys : List Value) : Prop := xs.length = ys.length ∧ ∀ (k : Nat) v v', xs[k]? = some v → ys[k]? = some v' → Idl.flat v = true ∧ Rep ι v v'
def RepL (ι : Inj) (xs ys : List Value) : Prop := xs.length = ys.length ∧ ∀ (k : Nat) v v', xs[k]? = some v → ys[k]? = some v' → Rep ι v v'
theorem RepC.mono {ι ι' : Inj} (hl : ι.le ι') {x y : List Value} (h : RepC ι x y) : RepC ι' x y := ⟨h.1, fun k v v' h1 h2 => ⟨(h.2 k v v' h1 h2).1, (h.2 k v v' h1 h2).2.mono hl⟩⟩
theorem RepL.mono {ι ι' : Inj} (hl : ι.le ι') {x y : List Value} (h : RepL ι x y) : RepL ι' x y := ⟨h.1, fun k v v' h1 h2 => (h.2 k v v' h1 h2).mono hl⟩
theorem RepL.nil (ι : Inj) : RepL ι [] [] := ⟨rfl, fun k v v' h => by simp at h⟩
theorem RepC.nil (ι : Inj) : RepC ι [] [] := ⟨rfl, fun k v v' h => by simp at h⟩
theorem RepL.cons {ι : Inj} {x y : Value} {xs ys : List Value} (h : Rep ι x y) (hs : RepL ι xs ys) : RepL ι (x :: xs) (y :: ys) :=
 ⟨by simp [hs.1], fun k v v' h1 h2 => by
  cases k with
  | zero => simp at h1 h2; subst h1; subst h2; exact h
  | succ k => simp at h1 h2; exact hs.2 k v v' h1 h2⟩
theorem RepC.cons {ι : Inj} {x y : Value} {xs ys : List Value} (hf : Idl.flat x = true) (h : Rep ι x y) (hs : RepC ι xs ys) : RepC ι (x :: xs) (y :: ys) :=
 ⟨by simp [hs.1], fun k v v' h1 h2 => by
  cases k with
  | zero => simp at h1 h2; subst h1; subst h2; exact ⟨hf, h⟩
  | succ k => simp at h1 h2; exact hs.2 k v v' h1 h2⟩
theorem RepC.head {ι : Inj} {x y : Value} {xs ys : List Value} (h : RepC ι (x :: xs) (y :: ys)) : (Idl.flat x = true ∧ Rep ι x y) ∧ RepC ι xs ys :=
 ⟨h.2 0 x y rfl rfl, by simpa using h.1, fun k v v' h1 h2 => h.2 (k + 1) v v' (by simpa using h1) (by simpa using h2)⟩
theorem RepL.head {ι : Inj} {x y : Value} {xs ys : List Value} (h : RepL ι (x :: xs) (y :: ys)) : Rep ι x y ∧ RepL ι xs ys :=
 ⟨h.2 0 x y rfl rfl, by simpa using h.1, fun k v v' h1 h2 => h.2 (k + 1) v v' (by simpa using h1) (by simpa using h2)⟩
theorem RepL.append {ι : Inj} {x y x' y' : List Value} (h : RepL ι x y) (h' : RepL ι x' y') : RepL ι (x ++ x') (y ++ y') := by
 refine ⟨by simp [h.1, h'.1], fun k v v' h1 h2 => ?_⟩
 rw [List.getElem?_append] at h1 h2
 rw [← h.1] at h2
 split at h1
 ·rename_i hk; rw [if_pos hk] at h2; exact h.2 _ _ _ h1 h2
 ·rename_i hk; rw [if_neg hk] at h2; exact h'.2 _ _ _ h1 h2
theorem RepC.append {ι : Inj} {x y x' y' : List Value} (h : RepC ι x y) (h' : RepC ι x' y') : RepC ι (x ++ x') (y ++ y') := by
 refine ⟨by simp [h.1, h'.1], fun k v v' h1 h2 => ?_⟩
 rw [List.getElem?_append] at h1 h2
 rw [← h.1] at h2
 split at h1
 ·rename_i hk; rw [if_pos hk] at h2; exact h.2 _ _ _ h1 h2
 ·rename_i hk; rw [if_neg hk] at h2; exact h'.2 _ _ _ h1 h2
theorem RepC.take {ι : Inj} {x y : List Value} (h : RepC ι x y) (n : Nat) : RepC ι (x.take n) (y.take n) := by
 refine ⟨by simp [h.1], fun k v v' h1 h2 => ?_⟩
 rw [List.getElem?_take] at h1 h2
 split at h1
 ·rename_i hk; rw [if_pos hk] at h2; exact h.2 _ _ _ h1 h2
 ·simp at h1
theorem RepC.drop {ι : Inj} {x y : List Value} (h : RepC ι x y) (n : Nat) : RepC ι (x.drop n) (y.drop n) := by
 refine ⟨by simp [h.1], fun k v v' h1 h2 => ?_⟩
 rw [List.getElem?_drop] at h1 h2
 exact h.2 _ _ _ h1 h2
theorem RepC.get {ι : Inj} {x y : List Value} (h : RepC ι x y) {k : Nat} {v : Value} (hv : x[k]? = some v) : ∃ v', y[k]? = some v' ∧ Idl.flat v = true ∧ Rep ι v v' := by
 have hk : k < x.length := (List.getElem?_eq_some_iff.1 hv).1
 have hk' : k < y.length := h.1 ▸ hk
 exact ⟨y[k], List.getElem?_eq_getElem hk', h.2 k v _ hv (List.getElem?_eq_getElem hk')⟩
theorem RepL.get {ι : Inj} {x y : List Value} (h : RepL ι x y) {k : Nat} {v : Value} (hv : x[k]? = some v) : ∃ v', y[k]? = some v' ∧ Rep ι v v' := by
 have hk : k < x.length := (List.getElem?_eq_some_iff.1 hv).1
 have hk' : k < y.length := h.1 ▸ hk
 exact ⟨y[k], List.getElem?_eq_getElem hk', h.2 k v _ hv (List.getElem?_eq_getElem hk')⟩
theorem RepC.toL {ι : Inj} {x y : List Value} (h : RepC ι x y) : RepL ι x y := ⟨h.1, fun k v v' h1 h2 => (h.2 k v v' h1 h2).2⟩
theorem rep_agg {ι : Inj} {x x' : Array Value} : Rep ι (.agg x) (.agg x') ↔ RepC ι x.toList x'.toList := by
 constructor
 ·intro h
  cases h with
  | agg hs hf hx => exact ⟨by simpa using hs, fun k v v' h1 h2 => ⟨hf k v (by simpa using h1), hx k v v' (by simpa using h1) (by simpa using h2)⟩⟩
 ·intro h
  refine .agg (by simpa using h.1) (fun k v h1 => ?_) fun k v v' h1 h2 => (h.2 k v v' (by simpa using h1) (by simpa using h2)).2
  obtain ⟨v', h2⟩ : ∃ v', x'.toList[k]? = some v' := by
   have hk : k < x.toList.length := by simpa using (Array.getElem?_eq_some_iff.1 h1).1
   exact ⟨_, List.getElem?_eq_getElem (h.1 ▸ hk)⟩
  exact (h.2 k v v' (by simpa using h1) h2).1
theorem rep_tuple {ι : Inj} {x x' : Array Value} (h : RepL ι x.toList x'.toList) : Rep ι (.tuple x) (.tuple x') :=
 .tuple (by simpa using h.1) fun k v v' h1 h2 => h.2 k v v' (by simpa using h1) (by simpa using h2)
theorem rep_cellsOf {ι : Inj} {v v' : Value} {cs : List Value} (h : Rep ι v v') (hc : cellsOf v = some cs) : RepC ι cs v'.cells.toList := by
 cases h <;> simp only [cellsOf, Option.some.injEq, reduceCtorEq] at hc <;> subst hc
 case agg h hf hx => exact rep_agg.1 (.agg h hf hx)
 all_goals
  simp only [Value.cells]
  refine RepC.cons rfl ?_ (RepC.nil ι)
 case bool => exact .bool _
 case int => exact .int _ _
 case string => exact .string _
 case pnil => exact .pnil
 case ptr h => exact .ptr h
 case snil => exact .snil
 case slice h h1 h2 h3 h4 => exact .slice h h1 h2 h3 h4
 case mnil => exact .mnil
 case map h => exact .map h
 case func h1 h2 h3 h4 => exact .func h1 h2 h3 h4
 case yld h => exact .yld h
 case nilFunc => exact .nilFunc
 case iface h => exact .iface h
 case nilIface => exact .nilIface
def mine (h : Heap) (b : Nat) : Prop :=
 match h.get b with
 | some (.cells _ true _) | some (.map _ _) | some (.siter _ _) | some (.loop _) | some .dfr => True
 | _ => False
def live (h : Heap) (b : Nat) : Prop :=
 match h.get b with
 | some .dead | none => False
 | _ => True
theorem mine.live {h : Heap} {b : Nat} (hm : mine h b) : Idl.live h b := by
 unfold mine at hm; unfold Idl.live; split at hm <;> simp_all
def ERep (ι : Inj) (e : Env) (tmps : Array Value) : Prop := ∀ j, Rep ι (e j) (tmps.getD j undef)
def PERep (ι : Inj) (e : Env) (tmps : Array Value) : Prop := ∀ j, e j = unk ∨ Rep ι (e j) (tmps.getD j undef)
def PRep : Option Jmp → Option Code → Prop
 | none, none => True
 | some .ret, some .ret => True
 | some (.brk i), some (.exit j) => i = j
 | _, _ => False
def LRep : LSt → LoopState → Prop
 | .ready, .ready | .busy, .busy | .done, .done | .gone, .exhausted => True
 | _, _ => False
def BRel (C : Nat → IC → Code → Prop) (base : Nat) (ι : Inj) (i : BI) : Blk → Obj → Prop
 | .cells cs own esz, .cells c _ fz => c.size = i.top ∧ i.sh + cs.length ≤ i.top ∧ RepC ι cs ((c.toList.drop i.sh).take cs.length) ∧ i.esz = esz ∧ (own = true → fz = (0, 0) ∧ base ≤ i.blk) ∧ (own = false → i.blk < base)
 | .dead, _ => True
 | .map kk es, .map es' _ => base ≤ i.blk ∧ (∀ p ∈ es, ∃ ks, keyOf kk p.1 = some ks) ∧ es.length = es'.size ∧ ∀ (k : Nat) a v x, es[k]? = some (a, v) → es'[k]? = some x → x.key = a ∧ Rep ι v x.val
 | .siter s p, .stringIter s' p' => base ≤ i.blk ∧ i.sh = 0 ∧ s = s' ∧ p = p'
 | .loop L, .loop L' => base ≤ i.blk ∧ LRep L.st L'.state ∧ PRep L.pend L'.pending ∧ ERep ι L.e L'.tmps ∧ L.ps = L'.params.toList ∧ (∀ p ∈ L.ps, p < L'.tmps.size) ∧
  C L'.tmps.size L.asg L'.assign ∧ C L'.tmps.size L.body L'.body
 | .dfr, .deferred (some []) => base ≤ i.blk
 | _, _ => False
structure Sim (C : Nat → IC → Code → Prop) (base : Nat) (ι : Inj) (h : Heap) (w : World) : Prop where
 dom : ∀ b i, ι b = some i → b < h.next
 vac : ∀ b, h.next ≤ b → h.get b = none
 blk : ∀ b o i, h.get b = some o → ι b = some i → ∃ o', w.heap[i.blk]? = some o' ∧ BRel C base ι i o o'
 inj : ∀ b1 b2 i1 i2, b1 ≠ b2 → mine h b1 → live h b2 → ι b1 = some i1 → ι b2 = some i2 → i1.blk ≠ i2.blk
def Own (ι : Inj) (h : Heap) (r : Nat) : Prop := ∃ b i, ι b = some i ∧ i.blk = r ∧ mine h b
structure Keeps (M : Nat → Prop) (w w' : World) : Prop where
 os : w'.os = w.os
 tape : w'.tape = w.tape
 output : w'.output = w.output
 size : w.heap.size ≤ w'.heap.size
 block : ∀ k, k < w.heap.size → ¬ M k → w'.heap[k]? = w.heap[k]?
structure Ext (ι : Inj) (h : Heap) (w : World) (ι' : Inj) (h' : Heap) (w' : World) : Prop where
 inj : ι.le ι'
 keeps : Keeps (Own ι h) w w'
 own : ∀ r, r < w.heap.size → Own ι' h' r → Own ι h r
 next : h.next ≤ h'.next
 fresh : ∀ b i, ι' b = some i → ι b = some i ∨ h.next ≤ b
theorem Keeps.refl (M : Nat → Prop) (w : World) : Keeps M w w := ⟨rfl, rfl, rfl, Nat.le_refl _, fun _ _ _ => rfl⟩
theorem Keeps.mono {M M' : Nat → Prop} {w w' : World} (h : Keeps M w w') (hm : ∀ k, k < w.heap.size → M k → M' k) : Keeps M' w w' :=
 ⟨h.os, h.tape, h.output, h.size, fun k hk hn => h.block k hk fun hm' => hn (hm k hk hm')⟩
theorem Keeps.trans {M : Nat → Prop} {a b c : World} (h : Keeps M a b) (h' : Keeps M b c) : Keeps M a c :=
 ⟨h'.os.trans h.os, h'.tape.trans h.tape, h'.output.trans h.output, Nat.le_trans h.size h'.size,
  fun k hk hn => (h'.block k (Nat.lt_of_lt_of_le hk h.size) hn).trans (h.block k hk hn)⟩
theorem Ext.refl (ι : Inj) (h : Heap) (w : World) : Ext ι h w ι h w := ⟨.refl ι, .refl _ w, fun _ _ h => h, Nat.le_refl _, fun _ _ h => .inl h⟩
theorem Ext.trans {ι ι1 ι2 : Inj} {h h1 h2 : Heap} {w w1 w2 : World} (a : Ext ι h w ι1 h1 w1) (b : Ext ι1 h1 w1 ι2 h2 w2) : Ext ι h w ι2 h2 w2 := by
 refine ⟨a.inj.trans b.inj, ⟨b.keeps.os.trans a.keeps.os, b.keeps.tape.trans a.keeps.tape, b.keeps.output.trans a.keeps.output, Nat.le_trans a.keeps.size b.keeps.size, ?_⟩, ?_, Nat.le_trans a.next b.next, fun x i hx => (b.fresh x i hx).elim (fun h => a.fresh x i h) fun h => .inr (Nat.le_trans a.next h)⟩
 ·intro k hk hn
  rw [b.keeps.block k (Nat.lt_of_lt_of_le hk a.keeps.size) (fun hm => hn (a.own k hk hm)), a.keeps.block k hk hn]
 ·intro r hr hm
  exact a.own r hr (b.own r (Nat.lt_of_lt_of_le hr a.keeps.size) hm)
theorem Sim.lt {C : Nat → IC → Code → Prop} {base : Nat} {ι : Inj} {h : Heap} {w : World} (hs : Sim C base ι h w) {b : Nat} {i : BI} (hi : ι b = some i) (hl : live h b) : i.blk < w.heap.size := by
 unfold live at hl
 split at hl
 ·exact hl.elim
 ·exact hl.elim
 ·rename_i o _ hn
  cases hg : h.get b with
  | none => exact (hn hg).elim
  | some o =>
   obtain ⟨o', ho', _⟩ := hs.blk b o i hg hi
   exact (Array.getElem?_eq_some_iff.1 ho').1
theorem BRel.mono {C : Nat → IC → Code → Prop} {base : Nat} {ι ι' : Inj} {i : BI} (hl : ι.le ι') {o : Blk} {o' : Obj} (h : BRel C base ι i o o') : BRel C base ι' i o o' := by
 cases o <;> cases o' <;> simp only [BRel] at h ⊢
 case cells.cells => exact ⟨h.1, h.2.1, h.2.2.1.mono hl, h.2.2.2⟩
 case map.map => exact ⟨h.1, h.2.1, h.2.2.1, fun k a v x h1 h2 => ⟨(h.2.2.2 k a v x h1 h2).1, (h.2.2.2 k a v x h1 h2).2.mono hl⟩⟩
 case siter.stringIter => exact h
 case loop.loop => obtain ⟨a, b, c, d, e⟩ := h; exact ⟨a, b, c, fun j => (d j).mono hl, e⟩
 case dfr.deferred c =>
  rcases c with _ | (_ | _)
  ·exact h
  ·exact h
  ·exact h
end Go.Idl
end

section
namespace Go.Idl
variable {C : Nat → IC → Code → Prop} {base : Nat} {ι : Inj} {h : Heap} {w : World}
theorem Sim.congr (hs : Sim C base ι h w) {w' : World} (hw : w'.heap = w.heap) : Sim C base ι h w' :=
 ⟨hs.dom, hs.vac, fun b o i h1 h2 => by rw [hw]; exact hs.blk b o i h1 h2, hs.inj⟩
def ext1 (ι : Inj) (n : Nat) (i : BI) : Inj := fun k => if k = n then some i else ι k
theorem ext1_le (hs : ∀ b i, ι b = some i → b < h.next) (i : BI) : ι.le (ext1 ι h.next i) := by
 intro b j hb
 have := hs b j hb
 unfold ext1
 rw [if_neg (by omega)]; exact hb
theorem ext1_same (ι : Inj) (n : Nat) (i : BI) : ext1 ι n i n = some i := by simp [ext1]
theorem ext1_fresh (n : Nat) (i : BI) : ∀ b j, ext1 ι n i b = some j → ι b = some j ∨ n ≤ b := by
 intro b j h
 unfold ext1 at h
 split at h
 ·right; omega
 ·exact .inl h
theorem new_get (h : Heap) (o : Blk) : (h.new o).get h.next = some o := by simp [Heap.new]
theorem new_get_ne (h : Heap) (o : Blk) {b : Nat} (hb : b ≠ h.next) : (h.new o).get b = h.get b := by simp [Heap.new, hb]
theorem new_nx (h : Heap) (o : Blk) : (h.new o).next = h.next + 1 := rfl
theorem set_get (h : Heap) (b : Nat) (o : Blk) : (h.set b o).get b = some o := by simp [Heap.set]
theorem set_get_ne (h : Heap) (o : Blk) {b c : Nat} (hb : c ≠ b) : (h.set b o).get c = h.get c := by simp [Heap.set, hb]
theorem set_nx (h : Heap) (b : Nat) (o : Blk) : (h.set b o).next = h.next := rfl
theorem mine_congr {h h' : Heap} {b : Nat} (e : h'.get b = h.get b) : mine h' b = mine h b := by unfold mine; rw [e]
theorem live_congr {h h' : Heap} {b : Nat} (e : h'.get b = h.get b) : live h' b = live h b := by unfold live; rw [e]
theorem Sim.new (hs : Sim C base ι h w) (o : Blk) (o' : Obj) (i : BI) (hi : i.blk = w.heap.size)
 (hr : ∀ ι', ι.le ι' → ι' h.next = some i → BRel C base ι' i o o') {w' : World} (hw : w'.heap = w.heap.push o') (h1 : w'.os = w.os) (h2 : w'.tape = w.tape) (h3 : w'.output = w.output) :
 Sim C base (ext1 ι h.next i) (h.new o) w' ∧ Ext ι h w (ext1 ι h.next i) (h.new o) w' := by
 have hle : ι.le (ext1 ι h.next i) := ext1_le hs.dom i
 refine ⟨⟨?_, ?_, ?_, ?_⟩, hle, ⟨h1, h2, h3, by rw [hw]; simp, ?_⟩, ?_, by simp [new_nx], ext1_fresh _ _⟩
 ·intro b j hb
  unfold ext1 at hb
  split at hb
  ·subst_vars; simp [new_nx]
  ·have := hs.dom b j hb; simp [new_nx]; omega
 ·intro b hb
  simp only [new_nx] at hb
  rw [new_get_ne h o (by omega)]
  exact hs.vac b (by omega)
 ·intro b x j hb hj
  by_cases e : b = h.next
  ·subst e
   rw [new_get] at hb; cases hb
   rw [ext1_same] at hj; cases hj
   exact ⟨o', by rw [hw, hi]; simp, hr _ hle (ext1_same _ _ _)⟩
  ·rw [new_get_ne h o e] at hb
   have hj' : ι b = some j := by simpa [ext1, e] using hj
   obtain ⟨x', hx', hx⟩ := hs.blk b x j hb hj'
   have hlt : j.blk < w.heap.size := (Array.getElem?_eq_some_iff.1 hx').1
   refine ⟨x', ?_, hx.mono hle⟩
   rw [hw, Array.getElem?_push, if_neg (by omega)]; exact hx'
 ·intro b1 b2 i1 i2 hne hm hl hi1 hi2
  by_cases e1 : b1 = h.next <;> by_cases e2 : b2 = h.next
  ·omega
  ·subst e1
   rw [ext1_same] at hi1; cases hi1
   have hi2' : ι b2 = some i2 := by simpa [ext1, e2] using hi2
   have hl' : live h b2 := by rwa [live_congr (new_get_ne h o e2)] at hl
   have := hs.lt hi2' hl'
   omega
  ·subst e2
   rw [ext1_same] at hi2; cases hi2
   have hi1' : ι b1 = some i1 := by simpa [ext1, e1] using hi1
   have hm' : mine h b1 := by rwa [mine_congr (new_get_ne h o e1)] at hm
   have := hs.lt hi1' hm'.live
   omega
  ·have hi1' : ι b1 = some i1 := by simpa [ext1, e1] using hi1
   have hi2' : ι b2 = some i2 := by simpa [ext1, e2] using hi2
   exact hs.inj b1 b2 i1 i2 hne (by rwa [mine_congr (new_get_ne h o e1)] at hm) (by rwa [live_congr (new_get_ne h o e2)] at hl) hi1' hi2'
 ·intro k hk _
  rw [hw, Array.getElem?_push, if_neg (by omega)]
 ·intro r hrr ⟨b, j, hb, hjr, hm⟩
  by_cases e : b = h.next
  ·subst e
   rw [ext1_same] at hb; cases hb
   omega
  ·have hb' : ι b = some j := by simpa [ext1, e] using hb
   exact ⟨b, j, hb', hjr, by rwa [mine_congr (new_get_ne h o e)] at hm⟩
theorem Sim.turn (hs : Sim C base ι h w) {b : Nat} {i : BI} (hi : ι b = some i) (hm : mine h b) (o : Blk) (o' : Obj) (hr : BRel C base ι i o o')
 {w' : World} (hw : w'.heap[i.blk]? = some o') (hw' : ∀ k, k ≠ i.blk → w'.heap[k]? = w.heap[k]?) (hz : w'.heap.size = w.heap.size) (h1 : w'.os = w.os) (h2 : w'.tape = w.tape) (h3 : w'.output = w.output) :
 Sim C base ι (h.set b o) w' ∧ Ext ι h w ι (h.set b o) w' := by
 have hlt : b < h.next := hs.dom b i hi
 refine ⟨⟨?_, ?_, ?_, ?_⟩, .refl ι, ⟨h1, h2, h3, by omega, ?_⟩, ?_, by simp [set_nx], fun _ _ h => .inl h⟩
 ·intro c j hc; rw [set_nx]; exact hs.dom c j hc
 ·intro c hc; rw [set_nx] at hc; rw [set_get_ne h o (by omega)]; exact hs.vac c hc
 ·intro c x j hc hj
  by_cases e : c = b
  ·subst e
   rw [set_get] at hc; cases hc
   rw [hi] at hj; cases hj
   exact ⟨o', hw, hr⟩
  ·rw [set_get_ne h o e] at hc
   obtain ⟨x', hx', hx⟩ := hs.blk c x j hc hj
   by_cases hd : x = .dead
   ·subst hd
    have hlt' : j.blk < w.heap.size := (Array.getElem?_eq_some_iff.1 hx').1
    exact ⟨w'.heap[j.blk]'(by omega), Array.getElem?_eq_getElem (by omega), by simp [BRel]⟩
   ·have hl : live h c := by unfold live; rw [hc]; cases x <;> first | exact (hd rfl).elim | trivial
    refine ⟨x', ?_, hx⟩
    rw [hw' _ (fun e' => hs.inj b c i j (Ne.symm e) hm hl hi hj e'.symm)]; exact hx'
 ·intro b1 b2 i1 i2 hne hm1 hl2 hi1 hi2
  have hm1' : mine h b1 := by
   by_cases e : b1 = b
   ·subst e; exact hm
   ·rwa [mine_congr (set_get_ne h o e)] at hm1
  by_cases e : b2 = b
  ·subst e; exact hs.inj b1 b2 i1 i2 hne hm1' hm.live hi1 hi2
  ·exact hs.inj b1 b2 i1 i2 hne hm1' (by rwa [live_congr (set_get_ne h o e)] at hl2) hi1 hi2
 ·intro k hk hn
  exact hw' k fun e => hn ⟨b, i, hi, e.symm, hm⟩
 ·intro r hrr ⟨c, j, hc, hjr, hmc⟩
  by_cases e : c = b
  ·subst e; exact ⟨c, j, hc, hjr, hm⟩
  ·exact ⟨c, j, hc, hjr, by rwa [mine_congr (set_get_ne h o e)] at hmc⟩
theorem addr_add (b o n : Nat) : (⟨b, o, none⟩ : Addr).add n = ⟨b, o + n, none⟩ := by unfold Addr.add; split <;> simp_all
theorem Sim.cells (hs : Sim C base ι h w) {b o n : Nat} {i : BI} {cs : List Value} (hi : ι b = some i) (hc : h.cells b o n = some cs) :
 ∃ cs', RepC ι cs cs' ∧ cs.length = n ∧ ∀ j v, cs'[j]? = some v → w.cell? ((⟨i.blk, o + i.sh, none⟩ : Addr).add j) = some v := by
 unfold Heap.cells at hc
 split at hc
 case h_2 => cases hc
 rename_i all own esz hb
 split at hc
 case isFalse => cases hc
 rename_i hle
 cases hc
 obtain ⟨o', ho', hr⟩ := hs.blk b _ i hb hi
 cases o' <;> simp only [BRel] at hr
 rename_i c t fz
 refine ⟨((c.toList.drop i.sh).take all.length |>.drop o).take n, ?_, by simp; omega, ?_⟩
 ·exact (hr.2.2.1.drop o).take n
 ·intro j v hv
  rw [addr_add]
  rw [List.getElem?_take] at hv
  split at hv
  ·rw [List.getElem?_drop, List.getElem?_take] at hv
   split at hv
   ·rw [List.getElem?_drop] at hv
    simp only [World.cell?, ho', Option.isSome_none, Bool.false_eq_true, if_false]
    rw [← Array.getElem?_toList, ← hv]
    congr 1; omega
   ·cases hv
  ·cases hv
theorem Sim.cell (hs : Sim C base ι h w) {b o : Nat} {i : BI} {v : Value} (hi : ι b = some i) (hc : h.cell b o = some v) :
 ∃ v', flat v = true ∧ Rep ι v v' ∧ w.cell? ⟨i.blk, o + i.sh, none⟩ = some v' := by
 unfold Heap.cell at hc
 split at hc
 case h_2 => cases hc
 rename_i all own esz hb
 obtain ⟨o', ho', hr⟩ := hs.blk b _ i hb hi
 cases o' <;> simp only [BRel] at hr
 rename_i c t fz
 obtain ⟨v', hv', hf, hR⟩ := hr.2.2.1.get hc
 refine ⟨v', hf, hR, ?_⟩
 rw [List.getElem?_take] at hv'
 split at hv'
 ·rw [List.getElem?_drop] at hv'
  simp only [World.cell?, ho', Option.isSome_none, Bool.false_eq_true, if_false]
  rw [← Array.getElem?_toList, ← hv']
  congr 1; omega
 ·cases hv'
theorem put_get : ∀ (vs cs : List Value) (o j : Nat), o + vs.length ≤ cs.length → (put cs o vs)[j]? = if j < o then cs[j]? else if j < o + vs.length then vs[j - o]? else cs[j]?
 | [], cs, o, j, _ => by simp only [put, List.length_nil, Nat.add_zero]; split <;> rfl
 | v :: vs, cs, o, j, hl => by
  simp only [List.length_cons] at hl
  simp only [put, List.length_cons]
  rw [put_get vs (cs.set o v) (o + 1) j (by simp; omega), List.getElem?_set]
  by_cases h1 : j < o
  ·rw [if_pos (by omega), if_neg (by omega), if_pos h1]
  ·by_cases h2 : j = o
   ·subst h2
    rw [if_pos (by omega), if_pos rfl, if_pos (by omega), if_neg h1, if_pos (by omega)]; simp
   ·by_cases h3 : j < o + 1 + vs.length
    ·rw [if_neg (by omega), if_pos h3, if_neg h1, if_pos (by omega), show j - o = (j - (o + 1)) + 1 by omega]; simp
    ·rw [if_neg (by omega), if_neg h3, if_neg (by omega), if_neg h1, if_neg (by omega)]
theorem put_eq (vs cs : List Value) (o : Nat) (hl : o + vs.length ≤ cs.length) : put cs o vs = cs.take o ++ vs ++ cs.drop (o + vs.length) := by
 apply List.ext_getElem?
 intro j
 rw [put_get vs cs o j hl]
 simp only [List.append_assoc, List.getElem?_append, List.length_take, List.getElem?_take, List.getElem?_drop]
 rw [show min o cs.length = o by omega]
 by_cases h1 : j < o
 ·rw [if_pos h1, if_pos h1, if_pos h1]
 ·rw [if_neg h1, if_neg h1]
  by_cases h2 : j < o + vs.length
  ·rw [if_pos h2, if_pos (by omega)]
  ·rw [if_neg h2, if_neg (by omega)]
   congr 1; omega
theorem put_length : ∀ (vs cs : List Value) (o : Nat), (put cs o vs).length = cs.length
 | [], _, _ => rfl
 | v :: vs, cs, o => by simp [put, put_length vs]
theorem RepC.put {ι : Inj} : ∀ {vs vs' cs cs' : List Value} {o : Nat}, RepC ι vs vs' → RepC ι cs cs' → RepC ι (put cs o vs) (Idl.put cs' o vs')
 | [], [], _, _, _, _, h2 => h2
 | [], _ :: _, _, _, _, h1, _ => by simp [RepC] at h1
 | _ :: _, [], _, _, _, h1, _ => by simp [RepC] at h1
 | v :: vs, v' :: vs', cs, cs', o, h1, h2 => by
  simp only [Idl.put]
  refine RepC.put h1.head.2 ⟨by simp [h2.1], fun k x x' hx hx' => ?_⟩
  rw [List.getElem?_set] at hx hx'
  rw [← h2.1] at hx'
  by_cases e : o = k
  ·rw [if_pos e] at hx hx'
   split at hx
   ·rename_i hlt; rw [if_pos hlt] at hx'; cases hx; cases hx'; exact h1.head.1
   ·cases hx
  ·rw [if_neg e] at hx hx'
   exact h2.2 k x x' hx hx'
theorem Sim.write (hs : Sim C base ι h w) (P : Program) {b o : Nat} {i : BI} {vs vs' : List Value} {h' : Heap} (hi : ι b = some i) (hv : RepC ι vs vs') (hw : h.write b o vs = some h') :
 ∃ w', (storeCells ⟨i.blk, o + i.sh, none⟩ vs').run P w = .ok () w' ∧ Sim C base ι h' w' ∧ Ext ι h w ι h' w' := by
 unfold Heap.write at hw
 split at hw
 case h_2 => cases hw
 rename_i cs esz hb
 split at hw
 case isFalse => cases hw
 rename_i hle
 cases hw
 obtain ⟨o', ho', hr⟩ := hs.blk b _ i hb hi
 cases o' <;> simp only [BRel] at hr
 rename_i c t fz
 obtain ⟨hsz, hsh, hrep, he, hown⟩ := hr
 obtain ⟨hfz, hbase⟩ := hown.1 trivial
 subst hfz
 have hrun := run_storeCells_at P i.blk (o + i.sh) t vs' 0 c w ho' (by rw [← hv.1]; omega) (fun v hvm => by
  obtain ⟨k, hk⟩ := List.getElem?_of_mem hvm
  have hk' : k < vs.length := by rw [hv.1]; exact (List.getElem?_eq_some_iff.1 hk).1
  obtain ⟨x, hx⟩ : ∃ x, vs[k]? = some x := ⟨_, List.getElem?_eq_getElem hk'⟩
  have := hv.2 k x v hx hk
  rw [oneCell'_eq]; exact this.2.flat this.1)
 refine ⟨_, hrun, ?_⟩
 refine hs.turn hi (by unfold mine; rw [hb]; trivial) _ (.cells (put c.toList (o + i.sh) vs').toArray t (0, 0)) ?_ ?_ (fun k hk => setRow_other _ _ _ _ hk) (by simp) (by simp) (by simp) (by simp)
 ·refine ⟨by simp [put_length, hsz], by simpa [put_length] using hsh, ?_, he, fun _ => ⟨rfl, hbase⟩, fun h => by cases h⟩
  refine ⟨by simp [put_length]; omega, fun k x x' hx hx' => ?_⟩
  have hvl := hv.1
  rw [put_get vs cs o k hle] at hx
  simp only [put_length] at hx'
  rw [List.getElem?_take] at hx'
  split at hx'
  ·rw [List.getElem?_drop, put_get _ _ _ _ (by rw [← hv.1]; simp; omega)] at hx'
   by_cases h1 : k < o
   ·rw [if_pos h1] at hx
    rw [if_pos (by omega)] at hx'
    exact hrep.2 k x x' hx (by rw [List.getElem?_take, if_pos (by omega), List.getElem?_drop]; exact hx')
   ·rw [if_neg h1] at hx
    rw [if_neg (by omega)] at hx'
    by_cases h2 : k < o + vs.length
    ·rw [if_pos h2] at hx
     rw [if_pos (by omega), show i.sh + k - (o + i.sh) = k - o by omega] at hx'
     exact hv.2 _ x x' hx hx'
    ·rw [if_neg h2] at hx
     rw [if_neg (by omega)] at hx'
     exact hrep.2 k x x' hx (by rw [List.getElem?_take, if_pos (by omega), List.getElem?_drop]; exact hx')
  ·cases hx'
 ·rw [setRow_heap _ _ _ _ _ _ ho', put_eq _ _ _ (by rw [← hv.1]; simp; omega)]
  simp
theorem Sim.die (hs : Sim C base ι h w) {b : Nat} (hm : mine h b) : Sim C base ι (h.set b .dead) w ∧ Ext ι h w ι (h.set b .dead) w ∧ ¬ live (h.set b .dead) b := by
 have hnl : ¬ live (h.set b .dead) b := by unfold live; rw [set_get]; simp
 refine ⟨⟨?_, ?_, ?_, ?_⟩, ⟨.refl ι, .refl _ w, ?_, by simp [set_nx], fun _ _ h => .inl h⟩, hnl⟩
 ·intro c j hc; rw [set_nx]; exact hs.dom c j hc
 ·intro c hc
  rw [set_nx] at hc
  by_cases e : c = b
  ·subst e
   have := hs.vac c hc
   unfold mine at hm; rw [this] at hm; exact hm.elim
  ·rw [set_get_ne h _ e]; exact hs.vac c hc
 ·intro c x j hc hj
  by_cases e : c = b
  ·subst e
   rw [set_get] at hc; cases hc
   exact ⟨w.heap[j.blk]'(hs.lt hj hm.live), Array.getElem?_eq_getElem (hs.lt hj hm.live), by simp [BRel]⟩
  ·rw [set_get_ne h _ e] at hc
   exact hs.blk c x j hc hj
 ·intro b1 b2 i1 i2 hne hm1 hl2 hi1 hi2
  have e1 : b1 ≠ b := fun e => hnl (e ▸ hm1.live)
  have e2 : b2 ≠ b := fun e => hnl (e ▸ hl2)
  exact hs.inj b1 b2 i1 i2 hne (by rwa [mine_congr (set_get_ne h _ e1)] at hm1) (by rwa [live_congr (set_get_ne h _ e2)] at hl2) hi1 hi2
 ·intro r hr ⟨c, j, hc, hjr, hmc⟩
  have e : c ≠ b := fun e => hnl (e ▸ hmc.live)
  exact ⟨c, j, hc, hjr, by rwa [mine_congr (set_get_ne h _ e)] at hmc⟩
theorem Sim.move (hs : Sim C base ι h w) {b : Nat} {i : BI} (hi : ι b = some i) (hm : mine h b) (o : Blk) (o' : Obj) (j : BI) (hj : j.blk = i.blk)
 (hr : ∀ ι', ι.le ι' → BRel C base ι' j o o')
 {w' : World} (hw : w'.heap[i.blk]? = some o') (hw' : ∀ k, k ≠ i.blk → w'.heap[k]? = w.heap[k]?) (hz : w'.heap.size = w.heap.size) (h1 : w'.os = w.os) (h2 : w'.tape = w.tape) (h3 : w'.output = w.output) :
 Sim C base (ext1 ι h.next j) ((h.set b .dead).new o) w' ∧ Ext ι h w (ext1 ι h.next j) ((h.set b .dead).new o) w' := by
 obtain ⟨hd, _, hnl⟩ := hs.die hm
 have hle : ι.le (ext1 ι h.next j) := ext1_le hs.dom j
 have hlt : b < h.next := hs.dom b i hi
 have hn : (h.set b .dead).next = h.next := rfl
 have other : ∀ c k, c ≠ b → ι c = some k → live h c → k.blk ≠ i.blk := fun c k hc hk hl e => hs.inj b c i k (Ne.symm hc) hm hl hi hk e.symm
 refine ⟨⟨?_, ?_, ?_, ?_⟩, hle, ⟨h1, h2, h3, by omega, ?_⟩, ?_, by simp [new_nx, set_nx], ext1_fresh _ _⟩
 ·intro c k hc
  unfold ext1 at hc
  split at hc
  ·subst_vars; simp [new_nx, set_nx]
  ·have := hs.dom c k hc; simp [new_nx, set_nx]; omega
 ·intro c hc
  simp only [new_nx, hn] at hc
  rw [new_get_ne _ o (by rw [hn]; omega)]
  exact hd.vac c (by rw [hn]; omega)
 ·intro c x k hc hk
  by_cases e : c = h.next
  ·subst e
   rw [← hn, new_get] at hc; cases hc
   rw [ext1_same] at hk; cases hk
   exact ⟨o', by rw [hj]; exact hw, hr _ hle⟩
  ·rw [new_get_ne _ o (by rw [hn]; exact e)] at hc
   have hk' : ι c = some k := by simpa [ext1, e] using hk
   obtain ⟨x', hx', hx⟩ := hd.blk c x k hc hk'
   by_cases hdd : x = .dead
   ·subst hdd
    have hlt' : k.blk < w.heap.size := (Array.getElem?_eq_some_iff.1 hx').1
    exact ⟨w'.heap[k.blk]'(by omega), Array.getElem?_eq_getElem (by omega), by simp [BRel]⟩
   ·have hl : live (h.set b .dead) c := by unfold live; rw [hc]; cases x <;> first | exact (hdd rfl).elim | trivial
    have hcb : c ≠ b := fun e => hnl (e ▸ hl)
    refine ⟨x', ?_, hx.mono hle⟩
    rw [hw' _ (other c k hcb hk' (by rwa [live_congr (set_get_ne h _ hcb)] at hl))]; exact hx'
 ·intro b1 b2 i1 i2 hne hm1 hl2 hi1 hi2
  by_cases e1 : b1 = h.next <;> by_cases e2 : b2 = h.next
  ·omega
  ·subst e1
   rw [ext1_same] at hi1; cases hi1
   have hi2' : ι b2 = some i2 := by simpa [ext1, e2] using hi2
   have hl' : live (h.set b .dead) b2 := by rwa [live_congr (new_get_ne _ o (by rw [hn]; exact e2))] at hl2
   have hcb : b2 ≠ b := fun e => hnl (e ▸ hl')
   rw [hj]
   exact (other b2 i2 hcb hi2' (by rwa [live_congr (set_get_ne h _ hcb)] at hl')).symm
  ·subst e2
   rw [ext1_same] at hi2; cases hi2
   have hi1' : ι b1 = some i1 := by simpa [ext1, e1] using hi1
   have hm' : mine (h.set b .dead) b1 := by rwa [mine_congr (new_get_ne _ o (by rw [hn]; exact e1))] at hm1
   have hcb : b1 ≠ b := fun e => hnl (e ▸ hm'.live)
   rw [hj]
   exact other b1 i1 hcb hi1' (by have := hm'.live; rwa [live_congr (set_get_ne h _ hcb)] at this)
  ·have hi1' : ι b1 = some i1 := by simpa [ext1, e1] using hi1
   have hi2' : ι b2 = some i2 := by simpa [ext1, e2] using hi2
   exact hd.inj b1 b2 i1 i2 hne (by rwa [mine_congr (new_get_ne _ o (by rw [hn]; exact e1))] at hm1) (by rwa [live_congr (new_get_ne _ o (by rw [hn]; exact e2))] at hl2) hi1' hi2'
 ·intro k hk hnn
  exact hw' k fun e => hnn ⟨b, i, hi, e.symm, hm⟩
 ·intro r hrr ⟨c, k, hc, hkr, hmc⟩
  by_cases e : c = h.next
  ·subst e
   rw [ext1_same] at hc; cases hc
   exact ⟨b, i, hi, by rw [← hj]; exact hkr, hm⟩
  ·have hc' : ι c = some k := by simpa [ext1, e] using hc
   have hm' : mine (h.set b .dead) c := by rwa [mine_congr (new_get_ne _ o (by rw [hn]; exact e))] at hmc
   have hcb : c ≠ b := fun e => hnl (e ▸ hm'.live)
   exact ⟨c, k, hc', hkr, by rwa [mine_congr (set_get_ne h _ hcb)] at hm'⟩
end Go.Idl
end

section
namespace Go.Idl
def constC : Value → Bool
 | .bool _ | .int _ _ | .string _ | .pointer none | .map none | .nilFunc | .nilIface => true
 | .slice none 0 0 => true
 | .func (.func _) a b => a.toList.isEmpty && b.toList.isEmpty
 | _ => false
def constOk : Value → Bool
 | .agg cs => cs.toList.all constC
 | v => constC v
def copd : Operand → Option Opd
 | .tmp t => some (.t t)
 | .const v => if constOk v then some (.c v) else none
 | .func f => some (.c (.func (.func f) #[] #[]))
 | .global _ => none
def copds : List Operand → Option (List Opd)
 | [] => some []
 | x :: xs => match copd x, copds xs with
  | some a, some as => some (a :: as)
  | _, _ => none
def copdO : Option Operand → Option (Option Opd)
 | none => some none
 | some x => (copd x).map some
def cparts (place : Nat → Option (Nat × Nat)) : List (Nat × Operand) → Option (List (Nat × Nat × Opd))
 | [] => some []
 | (i, x) :: ps => match place i, copd x, cparts place ps with
  | some (o, s), some a, some as => some ((o, s, a) :: as)
  | _, _, _ => none
def zcells (P : Program) (t : TypeId) : Option (List Value) :=
 match P.info? t with
 | some i => match i.zero with
  | some v => if constOk v && v.cells.size == i.size then some v.cells.toList else none
  | none => none
 | none => none
def tsize (P : Program) (t : TypeId) : Option Nat := (P.info? t).map (·.size)
def tshape (P : Program) (t : TypeId) : Option (Option Nat) :=
 match P.underlying t, P.info? t with
 | some (.struct _), some i => some (some i.size)
 | some (.array _ _), some i => some (some i.size)
 | some _, some _ => some none
 | _, _ => none
def places (P : Program) : List Field → Option (List (Nat × Nat))
 | [] => some []
 | f :: fs => match tsize P f.type, places P fs with
  | some s, some r => some ((f.offset, s) :: r)
  | _, _ => none
def skOf (P : Program) (t : TypeId) : Option SK :=
 match P.underlying t with
 | some .bool => some .bool
 | some (.int k) => some (.int k)
 | some .string => some .str
 | _ => none
def flatFields (P : Program) : List Field → Nat → Option (List SK)
 | [], _ => some []
 | f :: fs, n => match skOf P f.type, flatFields P fs (n + 1) with
  | some s, some ss => if f.name != "_" && f.offset == n && tsize P f.type == some 1 then some (s :: ss) else none
  | _, _ => none
def structSK (P : Program) (t : TypeId) : Option (List SK) :=
 match P.underlying t with
 | some (.struct fs) => match flatFields P fs.toList 0 with
  | some ss => if !P.eqGuardType P.depth t && !P.stoodInHeld t && (tsize P t == some fs.size) then some ss else none
  | none => none
 | _ => none
def kkOf (P : Program) (t : TypeId) : Option KK :=
 match skOf P t with
 | some s => some (.one s)
 | none => (structSK P t).map .agg
def negOf : BinOp → Option Bool
 | .eql => some false
 | .neq => some true
 | _ => none
def cbin (P : Program) (op : BinOp) (t : TypeId) (x y : Operand) : Option IOp :=
 match copd x, copd y with
 | some a, some b =>
  match P.underlying t, y with
  | some (.int _), _ | some .string, _ => some (.bin op a b)
  | some .bool, _ => (negOf op).map fun n => .beq n a b
  | some (.pointer _), .const (.pointer none) => (negOf op).map fun n => .isnil .ptr n a
  | some (.slice _), .const (.slice none 0 0) => (negOf op).map fun n => .isnil .sl n a
  | some (.map _ _), .const (.map none) => (negOf op).map fun n => .isnil .mp n a
  | some (.func _ _ _), .const .nilFunc => (negOf op).map fun n => .isnil .fn n a
  | some (.interface _), .const .nilIface => (negOf op).map fun n => .isnil .ifc n a
  | some (.struct _), _ => match structSK P t, negOf op with
   | some ks, some n => some (.eqs ks n a b)
   | _, _ => none
  | _, _ => none
 | _, _ => none
def cconv (P : Program) (src dst : TypeId) (x : Operand) : Option IOp :=
 match copd x, P.underlying src, P.underlying dst with
 | some a, some (.int _), some (.int k) => some (.conv k a)
 | _, _, _ => none
def csub (P : Program) (t : TypeId) (x : Operand) (lo hi mx : Option Operand) : Option IOp :=
 match copd x, copdO lo, copdO hi, copdO mx with
 | some a, some l, some b, some m =>
  match P.underlying t with
  | some .string => some (.sub .str a l b m)
  | some (.slice e) => (tsize P e).map fun s => .sub (.sl s) a l b m
  | some (.array n e) => (tsize P e).map fun s => .sub (.ar n s) a l b m
  | _ => none
 | _, _, _, _ => none
def cbuiltin (P : Program) (b : Builtin) (ts : List TypeId) (args : List Operand) : Option IOp :=
 match b, ts, copds args with
 | .len, t :: _, some [a] => match P.underlying t with
  | some .string => some (.len .str a)
  | some (.slice _) => some (.len .sl a)
  | some (.map _ _) => some (.len .mp a)
  | some (.array n _) => some (.len (.ar n) a)
  | _ => none
 | .max, _, some [a, b] => some (.minmax true a b)
 | .min, _, some [a, b] => some (.minmax false a b)
 | .append, [t, u], some [a, b] => match P.underlying t, P.underlying u with
  | some (.slice e), some (.slice _) | some (.slice e), some .string => match P.info? e, zcells P e with
   | some i, some _ => if 0 < i.size && 0 < i.bytes then some (.append i.size i.bytes a b) else none
   | _, _ => none
  | _, _ => none
 | .recover, _, some [] => some .recover
 | .clear, t :: _, some [a] => match P.underlying t with
  | some (.slice e) => (zcells P e).map fun z => .clear z a
  | _ => none
 | _, _, _ => none
def cop (P : Program) (o : Op) : Option IOp :=
 match o with
 | .move x | .assign x => (copd x).map .mov
 | .pick c a b => match copd c, copd a, copd b with
  | some c, some a, some b => some (.pick c a b)
  | _, _, _ => none
 | .alloc t => (zcells P t).map .alloc
 | .box _ x => (copd x).map .box
 | .build t ps => match P.underlying t, zcells P t with
  | some (.struct fs), some z => match places P fs.toList with
   | some pl => (cparts (pl[·]?) ps.toList).map (.build z)
   | none => none
  | some (.array _ e), some z => match tsize P e with
   | some s => (cparts (fun i => some (i * s, s)) ps.toList).map (.build z)
   | none => none
  | _, _ => none
 | .buildSlice t len ps => match P.underlying t with
  | some (.slice e) => match tsize P e, zcells P e with
   | some s, some z => if len * s ≤ 16777216 then (cparts (fun i => some (i * s, s)) ps.toList).map (.lit s len (List.replicate len z).flatten) else none
   | _, _ => none
  | _ => none
 | .load t a => match tshape P t, copd a with
  | some n, some a => some (.load n a)
  | _, _ => none
 | .store t a v => match tsize P t, copd a, copd v with
  | some n, some a, some v => some (.store n a v)
  | _, _, _ => none
 | .nilCheck x => (copd x).map .nilck
 | .binOp op t x y _ => cbin P op t x y
 | .unOp op _ x => (copd x).map (.un op)
 | .convert s d x => cconv P s d x
 | .makeInterface t x => match P.underlying t with
  | some (.interface _) => none
  | some _ => (copd x).map (.iface t)
  | none => none
 | .makeFunc (.func f) first cap => match copds first.toList, copds cap.toList with
  | some a, some b => some (.fn f a b)
  | _, _ => none
 | .makeMap t r => match P.underlying t with
  | some (.map kt _) => match r, kkOf P kt with
   | none, some kk => some (.mkmap kk)
   | some (.const (.int _ _)), some kk => some (.mkmap kk)
   | _, _ => none
  | _ => none
 | .makeSlice t l c => match P.underlying t with
  | some (.slice e) => match P.info? e, zcells P e, copd l, copd c with
   | some i, some z, some l, some c => if 0 < i.size && 0 < i.bytes then some (.mkslice i.size i.bytes z l c) else none
   | _, _, _, _ => none
  | _ => none
 | .slice t x lo hi mx => csub P t x lo hi mx
 | .fieldAddr t x f => match P.underlying t with
  | some (.struct fs) => match fs.toList[f]? with
   | some fd => match tsize P fd.type, copd x with
    | some s, some a => if 0 < s then some (.faddr fd.offset a) else none
    | _, _ => none
   | none => none
  | _ => none
 | .field t x f => match P.underlying t with
  | some (.struct fs) => match fs.toList[f]? with
   | some fd => match tshape P fd.type, copd x with
    | some n, some a => some (.field fd.offset n a)
    | _, _ => none
   | none => none
  | _ => none
 | .indexAddr t x i => match P.underlying t with
  | some (.slice e) => match tsize P e, copd x, copd i with
   | some s, some a, some j => some (.iaddr (.sl s) a j)
   | _, _, _ => none
  | some (.array n e) => match tsize P e, copd x, copd i with
   | some s, some a, some j => some (.iaddr (.ar n s) a j)
   | _, _, _ => none
  | _ => none
 | .index t x i => match P.underlying t with
  | some .string => match copd x, copd i with
   | some a, some j => some (.sidx a j)
   | _, _ => none
  | some (.array n e) => match tsize P e, tshape P e, copd x, copd i with
   | some s, some sh, some a, some j => some (.aidx n s sh a j)
   | _, _, _, _ => none
  | _ => none
 | .lookup t m k ok => match P.underlying t with
  | some (.map kt e) => match (P.info? e).bind (·.zero), copd m, copd k, kkOf P kt with
   | some z, some m, some k, some kk => if constOk z then some (.lookup kk z ok m k) else none
   | _, _, _, _ => none
  | _ => none
 | .mapUpdate t m k v | .insert t m k v => match P.underlying t with
  | some (.map kt _) => match copd m, copd k, copd v, kkOf P kt with
   | some m, some k, some v, some kk => some (.mapset kk m k v)
   | _, _, _, _ => none
  | _ => none
 | .range t x => match P.underlying t with
  | some .string => (copd x).map .range
  | _ => none
 | .next x true => (copd x).map .next
 | .typeAssert x _ t true => match P.underlying t with
  | some (.interface _) => none
  | some _ => match (P.info? t).bind (·.zero), copd x with
   | some z, some a => if constOk z then some (.assert t z a) else none
   | _, _ => none
  | none => none
 | .extract x i => (copd x).map (.extract · i)
 | .call { callee := .builtin b, args, argTypes } => cbuiltin P b argTypes.toList args.toList
 | _ => none
def cstm (P : Program) (o : Op) : Option Stm :=
 match o with
 | .call { callee := .value (.func f), args, .. } => (copds args.toList).map (.call f)
 | .call { callee := .value x, args, .. } => match copd x, copds args.toList with
  | some a, some as => some (.callv a as)
  | _, _ => none
 | .defer { callee := .value x, args, .. } => match copd x, copds args.toList with
  | some a, some as => some (.defer a as)
  | _, _ => none
 | .panic x => (copd x).map .panic
 | o => (cop P o).map .op
def dstOk (nt : Nat) : Option Nat → Bool
 | some d => decide (d < nt)
 | none => true
def cstep (P : Program) (nt : Nat) (ops : Array Oper) (o : Oper) : Option Step :=
 match cstm P o.op with
 | none => none
 | some m =>
  if dstOk nt o.dst then
   match o.guard with
   | none => some ⟨o.dst, m, none⟩
   | some (j, b) => match (ops[j]?).bind (·.dst) with
    | some t => some ⟨o.dst, m, some (t, b)⟩
    | none => none
  else none
def csteps (P : Program) (nt : Nat) (ops : Array Oper) : List Oper → Option (List Step)
 | [] => some []
 | o :: os => match cstep P nt ops o, csteps P nt ops os with
  | some a, some as => some (a :: as)
  | _, _ => none
def ancs (ops : List Oper) : List (List Nat) :=
 ops.foldl (fun acc o => acc ++ [(o.after.toList.foldl (fun s e => if Region.binds .any e then (e.on :: acc.getD e.on []) ++ s else s) []).eraseDups]) []
def opdT : Opd → List Nat
 | .t i => [i]
 | .c _ => []
def opdsT (l : List Opd) : List Nat := l.flatMap opdT
def iopOpds : IOp → List Opd
 | .mov a | .box a | .load _ a | .nilck a | .isnil _ _ a | .un _ a | .conv _ a | .iface _ a | .faddr _ a | .field _ _ a | .assert _ _ a | .extract a _ | .len _ a | .range a | .next a | .clear _ a => [a]
 | .pick a b c => [a, b, c]
 | .alloc _ | .mkmap _ | .recover => []
 | .build _ l | .lit _ _ _ l => l.map (·.2.2)
 | .bin _ a b | .eqs _ _ a b | .beq _ a b | .mkslice _ _ _ a b | .iaddr _ a b | .sidx a b | .aidx _ _ _ a b | .lookup _ _ _ a b | .minmax _ a b | .append _ _ a b | .store _ a b => [a, b]
 | .fn _ l m => l ++ m
 | .sub _ a l h m => a :: (l.toList ++ h.toList ++ m.toList)
 | .mapset _ a b c => [a, b, c]
def stmOpds : Stm → List Opd
 | .op q => iopOpds q
 | .call _ l => l
 | .callv a l | .defer a l => a :: l
 | .panic a => [a]
def stepT (x : Step) : List Nat := (match x.grd with | some (j, _) => [j] | none => []) ++ opdsT (stmOpds x.stm)
def namesAt (ops : Array Oper) (o : Oper) (x : Step) : List Nat := o.looksAt ops ++ x.dst.toList ++ stepT x
def pairOk (ops : Array Oper) (l : List Step) (anc : List (List Nat)) (i j : Nat) : Bool :=
 (anc.getD j []).contains i ||
 match ops[i]?, ops[j]?, l[i]?, l[j]? with
 | some p, some q, some x, some y =>
  (match x.dst with | some d => !(namesAt ops q y).contains d | none => true) && (match y.dst with | some d => !(namesAt ops p x).contains d | none => true) &&
  !(kdStm x.stm == .E && kdStm y.stm == .E)
 | _, _, _, _ => false
def drawOk (ops : Array Oper) (l : List Step) (anc : List (List Nat)) : Bool :=
 (List.range l.length).all fun j => (List.range j).all fun i => pairOk ops l anc i j
def rankOk (md : Region.Mode) (ops : Array Oper) (rank : Nat → Nat) : Bool :=
 (List.range ops.size).all fun i => ((ops[i]?).map fun o => o.after.all fun e => !Region.binds md e || (decide (e.on < ops.size) && decide (rank e.on < rank i))).getD true
def schedOk (ops : Array Oper) : Bool :=
 rankOk .any ops id && (!Region.departs ops || (rankOk .text ops id && (let g := Region.linearise .gc ops 0; rankOk .gc ops (fun i => g.idxOf i))))
def stuck : IC := .cond (.c (.chan none)) .skip .skip
def cic (P : Program) (nt : Nat) : Code → Option IC
 | .skip => some .skip
 | .label _ => some .skip
 | .region _ ops draw => match csteps P nt ops ops.toList with
  | some l => if draw then (if drawOk ops l (ancs ops.toList) && schedOk ops then some (.draw l (ancs ops.toList)) else some stuck) else some (.ops l)
  | none => some stuck
 | .seq a b => match cic P nt a, cic P nt b with
  | some a, some b => some (.seq a b)
  | _, _ => none
 | .cond c a b => match copd c, cic P nt a, cic P nt b with
  | some c, some a, some b => some (.cond c a b)
  | _, _, _ => none
 | .block id b => (cic P nt b).map (.block id)
 | .loop b => (cic P nt b).map .loop
 | .scope b => cic P nt b
 | .rangeFunc f ps asg body => match copd f, cic P nt asg, cic P nt body with
  | some f, some a, some b => if ps.toList.all (· < nt) then some (.rangeF f ps.toList a b) else none
  | _, _, _ => none
 | .exit id => some (.exit id)
 | .ret => some .ret
 | _ => some stuck
def crv (P : Program) : List ResultVar → Option (List RV)
 | [] => some []
 | .tmp t :: rs => (crv P rs).map (.tmp t :: ·)
 | .cell a t :: rs => match tshape P t, crv P rs with
  | some n, some r => some (.cell a n :: r)
  | _, _ => none
def cfn (P : Program) (f : Func) : Option IFn :=
 match f.body with
 | none => none
 | some c => match cic P f.ntmps c, crv P f.results.toList with
  | some c, some r => if f.name == "runtime.NumGoroutine" then none else some ⟨f.ntmps, c, r⟩
  | _, _ => none
end Go.Idl
end

section
namespace Go.Idl
variable {C : Nat → IC → Code → Prop} {base : Nat} {ι : Inj} {h : Heap} {w : World} {P : Program} {ρ : Operand → Value} {e : Env}
def Does (P : Program) (ρ : Operand → Value) (op : Op) (w w' : World) (v' : Value) : Prop :=
 ∀ o : Oper, o.op = op → (execOp ρ o).run P w = .ok (.value v') w' ∨ ((execOp ρ o).run P w = .ok .skip w' ∧ v' = undef)
def loudOp : Op → Bool
 | .alloc _ | .box _ _ | .buildSlice _ _ _ | .store _ _ _ | .makeMap _ _ | .makeSlice _ _ _ | .mapUpdate _ _ _ _ | .insert _ _ _ _ | .range _ _ | .next _ _ => true
 | .call { callee := .builtin .append, .. } => true
 | .call { callee := .builtin .clear, .. } => true
 | _ => false
def Good (C : Nat → IC → Code → Prop) (base : Nat) (P : Program) (ρ : Operand → Value) (op : Op) (ι : Inj) (h : Heap) (w : World) (v : Value) (h' : Heap) : Prop :=
 ∃ v' w' ι', Does P ρ op w w' v' ∧ Sim C base ι' h' w' ∧ Ext ι h w ι' h' w' ∧ (loudOp op = false → w' = w ∧ ι' = ι) ∧ Rep ι' v v'
def OpdRep (ι : Inj) (e : Env) (ρ : Operand → Value) : Prop := (∀ x a, copd x = some a → Rep ι (ev e a) (ρ x)) ∧ ∀ v, ρ (.const v) = v
theorem good_pure (hs : Sim C base ι h w) {op : Op} {v v' : Value} (hr : ∀ o : Oper, o.op = op → (execOp ρ o).run P w = .ok (.value v') w) (hv : Rep ι v v') : Good C base P ρ op ι h w v h :=
 ⟨v', w, ι, fun o ho => .inl (hr o ho), hs, .refl _ _ _, fun _ => ⟨rfl, rfl⟩, hv⟩
theorem run_sizeOf' {t : TypeId} {n : Nat} (h : tsize P t = some n) (w : World) : (sizeOf t).run P w = .ok n w := by
 unfold tsize at h
 cases hi : P.info? t with
 | none => simp [hi] at h
 | some i => simp [hi] at h; simp [sizeOf, typeInfo, hi, h]
theorem constC_rep {v : Value} (h : constC v = true) : flat v = true ∧ Rep ι v v := by
 unfold constC at h
 split at h
 case h_1 => exact ⟨rfl, .bool _⟩
 case h_2 => exact ⟨rfl, .int _ _⟩
 case h_3 => exact ⟨rfl, .string _⟩
 case h_4 => exact ⟨rfl, .pnil⟩
 case h_5 => exact ⟨rfl, .mnil⟩
 case h_6 => exact ⟨rfl, .nilFunc⟩
 case h_7 => exact ⟨rfl, .nilIface⟩
 case h_8 => exact ⟨rfl, .snil⟩
 case h_9 f a b =>
  simp at h
  obtain ⟨rfl, rfl⟩ := h
  exact ⟨rfl, .func rfl (fun k v v' h => by simp at h) rfl (fun k v v' h => by simp at h)⟩
 case h_10 => cases h
theorem constL_rep {l : List Value} (h : l.all constC = true) : RepC ι l l :=
 ⟨rfl, fun k v v' h1 h2 => by
  rw [h1] at h2; cases h2
  exact constC_rep (List.all_eq_true.1 h v (List.mem_of_getElem? h1))⟩
theorem constOk_rep {v : Value} (h : constOk v = true) : Rep ι v v := by
 unfold constOk at h
 split at h
 ·exact rep_agg.2 (constL_rep h)
 ·exact (constC_rep h).2
theorem zcells_spec {t : TypeId} {z : List Value} (h : zcells P t = some z) : ∃ i v, P.info? t = some i ∧ i.zero = some v ∧ v.cells.toList = z ∧ z.length = i.size ∧ RepC ι z z ∧ cellsOf v = some z ∧ ∀ w, (zeroValue t).run P w = .ok v w := by
 unfold zcells at h
 split at h
 case h_2 => cases h
 rename_i i hi
 split at h
 case h_2 => cases h
 rename_i v hv
 split at h
 case isFalse => cases h
 rename_i hc
 simp at hc
 cases h
 have hall : RepC ι v.cells.toList v.cells.toList ∧ cellsOf v = some v.cells.toList := by
  have := hc.1
  unfold constOk at this
  split at this
  ·exact ⟨constL_rep this, rfl⟩
  ·rename_i hn
   have hf := (constC_rep (ι := ι) this)
   have hv' : v.cells = #[v] := by cases v <;> first | rfl | (simp [flat] at hf)
   have hv'' : cellsOf v = some [v] := by cases v <;> first | rfl | (simp [flat] at hf)
   rw [hv']
   exact ⟨RepC.cons hf.1 hf.2 (RepC.nil _), hv''⟩
 exact ⟨i, v, hi, hv, rfl, by simpa using hc.2, hall.1, hall.2, fun w => by simp [zeroValue, typeInfo, hi, hv]⟩
theorem tshape_spec {t : TypeId} {n : Option Nat} (h : tshape P t = some n) :
 (∃ k, n = some k ∧ tsize P t = some k ∧ ∀ w, (isAgg t).run P w = .ok true w) ∨ (n = none ∧ ∀ w, (isAgg t).run P w = .ok false w) := by
 unfold tshape at h
 split at h
 ·rename_i fs i hu hi; cases h; exact .inl ⟨_, rfl, by simp [tsize, hi], fun w => by simp [isAgg, run_underlying hu]⟩
 ·rename_i a b i hu hi; cases h; exact .inl ⟨_, rfl, by simp [tsize, hi], fun w => by simp [isAgg, run_underlying hu]⟩
 ·rename_i d i h1 h2 hu hi
  cases h
  refine .inr ⟨rfl, fun w => ?_⟩
  simp only [isAgg, Sem.run_bind, run_underlying hu, Result.andThen_ok]
  cases d <;> first | rfl | (exfalso; simp_all)
 ·cases h
theorem copds_rep (hρ : OpdRep ι e ρ) : ∀ {xs : List Operand} {as : List Opd}, copds xs = some as → RepL ι (as.map (ev e)) (xs.map ρ)
 | [], as, h => by simp [copds] at h; subst h; exact RepL.nil _
 | x :: xs, as, h => by
  simp only [copds] at h
  split at h
  ·rename_i a as' h1 h2
   cases h
   exact RepL.cons (hρ.1 _ _ h1) (copds_rep hρ h2)
  ·cases h
theorem partL_rep {cs : List Value} {cs' : Array Value} (hr : RepC ι cs cs'.toList) {off : Nat} {t : TypeId} {n : Option Nat} (ht : tshape P t = some n) {v : Value} (hv : partL cs off n = some v) (w : World) :
 ∃ v', (part t cs' off).run P w = .ok v' w ∧ Rep ι v v' := by
 rcases tshape_spec ht with ⟨k, rfl, hk, ha⟩ | ⟨rfl, ha⟩
 ·simp only [partL] at hv
  split at hv
  ·cases hv
   refine ⟨.agg (cs'.extract off (off + k)), by simp [part, ha, run_sizeOf' hk], ?_⟩
   rw [rep_agg]
   simp only [List.toList_toArray, Array.toList_extract, List.extract_eq_take_drop, Nat.add_sub_cancel_left]
   exact (hr.drop off).take k
  ·cases hv
 ·simp only [partL] at hv
  obtain ⟨v', h1, _, h2⟩ := hr.get hv
  rw [Array.getElem?_toList] at h1
  exact ⟨v', by simp [part, ha, h1], h2⟩
theorem rep_int {k : IntKind} {n : Int} {v' : Value} (h : Rep ι (.int k n) v') : v' = .int k n := by cases h; rfl
theorem rep_bool {b : Bool} {v' : Value} (h : Rep ι (.bool b) v') : v' = .bool b := by cases h; rfl
theorem rep_string {s : ByteArray} {v' : Value} (h : Rep ι (.string s) v') : v' = .string s := by cases h; rfl
theorem rep_ptr {b o : Nat} {v' : Value} (h : Rep ι (.pointer (some ⟨b, o, none⟩)) v') : ∃ i, ι b = some i ∧ v' = .pointer (some ⟨i.blk, o + i.sh, none⟩) := by
 cases h with
 | ptr hi => exact ⟨_, hi, rfl⟩
theorem rep_slice {b o l c : Nat} {v' : Value} (h : Rep ι (.slice (some ⟨b, o, none⟩) l c) v') : ∃ a' c' i, v' = .slice (some a') l c' ∧ ι b = some i ∧ l ≤ c' ∧ (c = l → c' = l) ∧ (c' ≠ 0 → a' = ⟨i.blk, o + i.sh, none⟩) ∧
 (0 < i.esz → c' ≠ 0 → o + i.sh + c' * i.esz ≤ i.top) := by
 cases h with
 | slice h1 h2 h3 h4 h5 => exact ⟨_, _, _, rfl, h1, h2, h3, h4, h5⟩
theorem rep_nilIface {v' : Value} (h : Rep ι .nilIface v') : v' = .nilIface := by cases h; rfl
theorem rep_nilmap {v' : Value} (h : Rep ι (.map none) v') : v' = .map none := by cases h; rfl
theorem rep_nilsl {l c : Nat} {v' : Value} (h : Rep ι (.slice none l c) v') : v' = .slice none 0 0 ∧ l = 0 ∧ c = 0 := by cases h; exact ⟨rfl, rfl, rfl⟩
theorem rep_iface {t : TypeId} {v v' : Value} (h : Rep ι (.iface t v) v') : ∃ x, v' = .iface t x ∧ Rep ι v x := by
 cases h with
 | iface hx => exact ⟨_, rfl, hx⟩
theorem rep_map {b : Nat} {v' : Value} (h : Rep ι (.map (some b)) v') : ∃ i, ι b = some i ∧ v' = .map (some i.blk) := by
 cases h with
 | map hi => exact ⟨_, hi, rfl⟩
theorem rep_aggL {cs : Array Value} {v' : Value} (h : Rep ι (.agg cs) v') : ∃ cs', v' = .agg cs' ∧ RepC ι cs.toList cs'.toList := by
 cases h with
 | agg h1 h2 h3 => exact ⟨_, rfl, rep_agg.1 (.agg h1 h2 h3)⟩
theorem rep_tupL {cs : Array Value} {v' : Value} (h : Rep ι (.tuple cs) v') : ∃ cs', v' = .tuple cs' ∧ RepL ι cs.toList cs'.toList := by
 cases h with
 | tuple h1 h2 => exact ⟨_, rfl, by simpa using h1, fun k v v' h3 h4 => h2 k v v' (by simpa using h3) (by simpa using h4)⟩
theorem good_mov (hs : Sim C base ι h w) (hρ : OpdRep ι e ρ) {x : Operand} {a : Opd} (ha : copd x = some a) : Good C base P ρ (.move x) ι h w (ev e a) h :=
 good_pure hs (fun o ho => by simp [execOp, ho]) (hρ.1 _ _ ha)
theorem good_assign (hs : Sim C base ι h w) (hρ : OpdRep ι e ρ) {x : Operand} {a : Opd} (ha : copd x = some a) : Good C base P ρ (.assign x) ι h w (ev e a) h :=
 good_pure hs (fun o ho => by simp [execOp, ho]) (hρ.1 _ _ ha)
theorem good_pick (hs : Sim C base ι h w) (hρ : OpdRep ι e ρ) {x y z : Operand} {a b c : Opd} (ha : copd x = some a) (hb : copd y = some b) (hc : copd z = some c) {t : Bool}
 (ht : ev e a = .bool t) : Good C base P ρ (.pick x y z) ι h w (if t then ev e b else ev e c) h := by
 have h1 := rep_bool (ht ▸ hρ.1 _ _ ha)
 refine good_pure hs (v' := if t then ρ y else ρ z) (fun o ho => by simp [execOp, ho, h1, asBool]) ?_
 cases t
 ·exact hρ.1 _ _ hc
 ·exact hρ.1 _ _ hb
theorem good_new (hs : Sim C base ι h w) (hb : base ≤ w.heap.size) {op : Op} {cs cs' : List Value} {t : TypeId} {esz : Nat} (hloud : loudOp op = true)
 (hr : RepC ι cs cs') {v : Value} {vf : Nat → Value}
 (hrun : ∀ o : Oper, o.op = op → (execOp ρ o).run P w = .ok (.value (vf w.heap.size)) { w with heap := w.heap.push (.cells cs'.toArray t) })
 (hv : ∀ ι', ι'  h.next = some ⟨w.heap.size, 0, cs'.length, esz⟩ → Rep ι' v (vf w.heap.size)) :
 Good C base P ρ op ι h w v (h.new (.cells cs true esz)) := by
 obtain ⟨h1, h2⟩ := hs.new (.cells cs true esz) (.cells cs'.toArray t) ⟨w.heap.size, 0, cs'.length, esz⟩ rfl
  (fun ι' hl hi => ⟨by simp, by simp [hr.1], by
   have := (hr.mono hl)
   simp only [List.toList_toArray, List.drop_zero]
   rw [List.take_of_length_le (by rw [this.1]; exact Nat.le_refl _)]
   exact this, rfl, fun _ => ⟨rfl, hb⟩, fun hq => by cases hq⟩) (w' := { w with heap := w.heap.push (.cells cs'.toArray t) }) rfl rfl rfl rfl
 exact ⟨vf w.heap.size, _, _, fun o ho => .inl (hrun o ho), h1, h2, (fun h => by rw [hloud] at h; cases h), hv _ (ext1_same _ _ _)⟩
theorem rep_newptr {ι : Inj} {n : Nat} {i : BI} (h : ι n = some i) (hz : i.sh = 0) : Rep ι (ptr n 0) (.pointer (some ⟨i.blk, 0, none⟩)) := by
 have := Rep.ptr (ι := ι) (b := n) (o := 0) h
 simpa [hz, ptr] using this
theorem good_alloc (hs : Sim C base ι h w) (hb : base ≤ w.heap.size) {t : TypeId} {z : List Value} (hz : zcells P t = some z) :
 Good C base P ρ (.alloc t) ι h w (ptr h.next 0) (h.new (.cells z true 0)) := by
 obtain ⟨i, v, hi, hv, rfl, hl, hr, hc, hzero⟩ := zcells_spec (ι := ι) hz
 refine good_new hs hb (vf := fun n => .pointer (some ⟨n, 0, none⟩)) (t := t) rfl hr (fun o ho => ?_) fun ι' hι => rep_newptr hι rfl
 simp [execOp, ho, Instr.alloc, hzero, newVar, newRow]
theorem good_box (hs : Sim C base ι h w) (hb : base ≤ w.heap.size) (hρ : OpdRep ι e ρ) {t : TypeId} {x : Operand} {a : Opd} (ha : copd x = some a) {cs : List Value} (hc : cellsOf (ev e a) = some cs) :
 Good C base P ρ (.box t x) ι h w (ptr h.next 0) (h.new (.cells cs true 0)) := by
 have hr := rep_cellsOf (hρ.1 _ _ ha) hc
 refine good_new hs hb (vf := fun n => .pointer (some ⟨n, 0, none⟩)) (t := t) rfl hr (fun o ho => ?_) fun ι' hι => rep_newptr hι rfl
 simp [execOp, ho, Instr.box, newVar, newRow]
theorem cparts_fill (hρ : OpdRep ι e ρ) {place : Nat → Option (Nat × Nat)} : ∀ {ps : List (Nat × Operand)} {qs : List (Nat × Nat × Opd)}, cparts place ps = some qs →
 ∀ {cs cs' : List Value} {out : List Value}, RepC ι cs cs' → fillL cs (evps e qs) = some out →
 ∃ out', Instr.fill place cs'.toArray (ps.map fun p => (p.1, ρ p.2)) = some out'.toArray ∧ RepC ι out out'
 | [], qs, hc, cs, cs', out, hr, hf => by
  simp [cparts] at hc; subst hc
  simp [evps, fillL] at hf; subst hf
  exact ⟨cs', rfl, hr⟩
 | (i, x) :: ps, qs, hc, cs, cs', out, hr, hf => by
  simp only [cparts] at hc
  split at hc
  case h_2 => cases hc
  rename_i o s a as h1 h2 h3
  cases hc
  simp only [evps, List.map_cons, fillL] at hf
  split at hf
  case h_2 => cases hf
  rename_i vs hvs
  split at hf
  case isFalse => cases hf
  rename_i hle
  have hrv := rep_cellsOf (hρ.1 _ _ h2) hvs
  have hlen : (ρ x).cells.size = s := by have := hrv.1; simp at this; omega
  have hput : ((ρ x).cells.zipIdx.foldl (fun cs (c, j) => cs.setIfInBounds (o + j) c) cs'.toArray) = (put cs' o (ρ x).cells.toList).toArray := by
   have gen : ∀ (l : List Value) (k : Nat) (acc : List Value), (l.zipIdx k).foldl (fun (cs : Array Value) (c, j) => cs.setIfInBounds (o + j) c) acc.toArray = (put acc (o + k) l).toArray := by
    intro l
    induction l with
    | nil => intro k acc; simp [put]
    | cons v l ih => intro k acc; simp only [List.zipIdx_cons, List.foldl_cons, put]; rw [show (acc.toArray.setIfInBounds (o + k) v) = (acc.set (o + k) v).toArray by simp, ih (k + 1)]; rfl
   have := gen (ρ x).cells.toList 0 cs'
   rw [← Array.foldl_toList, Array.toList_zipIdx]; simpa using this
  obtain ⟨out', h4, h5⟩ := cparts_fill hρ h3 (RepC.put (o := o) hrv hr) hf
  refine ⟨out', ?_, h5⟩
  simp only [List.map_cons, Instr.fill, h1]
  rw [if_neg (by
   have := hr.1
   simp [hlen]; omega), hput]
  exact h4
theorem places_get {fs : List Field} {pl : List (Nat × Nat)} (h : places P fs = some pl) : ∀ w, (fs.mapM fun (f : Field) => (Prod.mk f.offset <$> sizeOf f.type : Sem (Nat × Nat))).run P w = .ok pl w := by
 induction fs generalizing pl with
 | nil => intro w; simp [places] at h; subst h; rfl
 | cons f fs ih =>
  intro w
  simp only [places] at h
  split at h
  ·rename_i s r h1 h2
   cases h
   simp [List.mapM_cons, run_sizeOf' h1, ih h2]
  ·cases h
theorem good_build (hs : Sim C base ι h w) (hρ : OpdRep ι e ρ) {t : TypeId} {ps : Array (Nat × Operand)} {z : List Value} {qs : List (Nat × Nat × Opd)}
 (hc : cop P (.build t ps) = some (.build z qs)) {cs : List Value} (hf : fillL z (evps e qs) = some cs) : Good C base P ρ (.build t ps) ι h w (.agg cs.toArray) h := by
 simp only [cop] at hc
 split at hc
 ·rename_i fs z' hu hz
  split at hc
  case h_2 => cases hc
  rename_i pl hpl
  cases hq : cparts (pl[·]?) ps.toList with
  | none => simp [hq] at hc
  | some qs' =>
   simp [hq] at hc
   obtain ⟨rfl, rfl⟩ := hc
   obtain ⟨i, v, hi, hv, rfl, hl, hr, hcv, hzero⟩ := zcells_spec (ι := ι) hz
   obtain ⟨out', h1, h2⟩ := cparts_fill hρ hq hr hf
   refine good_pure hs (v' := .agg out'.toArray) (fun o ho => ?_) (rep_agg.2 (by simpa using h2))
   have h3 : (Array.mapM (fun (f : Field) => (Prod.mk f.offset <$> sizeOf f.type : Sem (Nat × Nat))) fs).run P w = .ok pl.toArray w := by
    rw [Array.mapM_eq_mapM_toList, Sem.run_map, places_get hpl w]; rfl
   simp only [Array.toArray_toList] at h1
   simp [execOp, ho, Instr.build, hzero, run_underlying hu, h3]
   rw [h1]
   rfl
 ·rename_i n el z' hu hz
  split at hc
  case h_2 => cases hc
  rename_i s hsz
  cases hq : cparts (fun i => some (i * s, s)) ps.toList with
  | none => simp [hq] at hc
  | some qs' =>
   simp [hq] at hc
   obtain ⟨rfl, rfl⟩ := hc
   obtain ⟨i, v, hi, hv, rfl, hl, hr, hcv, hzero⟩ := zcells_spec (ι := ι) hz
   obtain ⟨out', h1, h2⟩ := cparts_fill hρ hq hr hf
   refine good_pure hs (v' := .agg out'.toArray) (fun o ho => ?_) (rep_agg.2 (by simpa using h2))
   simp only [Array.toArray_toList] at h1
   simp [execOp, ho, Instr.build, hzero, run_underlying hu, run_sizeOf' hsz]
   rw [h1]
   rfl
 ·cases hc
end Go.Idl
end

section
namespace Go.Idl
variable {C : Nat → IC → Code → Prop} {base : Nat} {ι : Inj} {h : Heap} {w : World} {P : Program} {ρ : Operand → Value} {e : Env}
theorem opt_map {α β : Type} {o : Option α} {f : α → β} {y : β} (h : o.map f = some y) : ∃ x, o = some x ∧ f x = y := by
 cases o with
 | none => simp at h
 | some x => exact ⟨x, rfl, by simpa using h⟩
theorem good_load (hs : Sim C base ι h w) (hρ : OpdRep ι e ρ) {t : TypeId} {x : Operand} {a : Opd} {n : Option Nat} (ht : tshape P t = some n) (ha : copd x = some a) {v : Value} {h' : Heap}
 (hi : iop (.load n a) e h = some (v, h')) : Good C base P ρ (.load t x) ι h w v h' := by
 simp only [iop] at hi
 split at hi
 case h_2 => cases hi
 rename_i b o hb
 obtain ⟨i, hι, hx⟩ := rep_ptr (hb ▸ hρ.1 _ _ ha)
 rcases tshape_spec ht with ⟨k, rfl, hk, hag⟩ | ⟨rfl, hag⟩
 ·obtain ⟨cs, hcs, hp⟩ := opt_map hi
  cases hp
  obtain ⟨cs', hr, hlen, hcell⟩ := hs.cells hι hcs
  have hld := run_loadCells_list (P := P) w _ cs' hcell
  rw [← hr.1, hlen] at hld
  refine good_pure hs (v' := .agg cs'.toArray) (fun o ho => ?_) (rep_agg.2 (by simpa using hr))
  simp [execOp, ho, hx, Instr.loadAt, Instr.sureAddr, loadVar, hag, run_sizeOf' hk, hld]
 ·obtain ⟨v', hv, hp⟩ := opt_map hi
  cases hp
  obtain ⟨u, hf, hr, hcell⟩ := hs.cell hι hv
  refine good_pure hs (v' := u) (fun o ho => ?_) hr
  simp [execOp, ho, hx, Instr.loadAt, Instr.sureAddr, loadVar, hag, hcell]
theorem good_nilck (hs : Sim C base ι h w) (hρ : OpdRep ι e ρ) {x : Operand} {a : Opd} (ha : copd x = some a) {v : Value} {h' : Heap}
 (hi : iop (.nilck a) e h = some (v, h')) : Good C base P ρ (.nilCheck x) ι h w v h' := by
 have hr := hρ.1 _ _ ha
 simp only [iop] at hi
 split at hi <;> first | cases hi | skip
 all_goals
  rename_i hb
  rw [hb] at hr
  refine good_pure hs (v' := ρ x) (fun o ho => ?_) hr
  generalize hu : ρ x = u at hr
  cases hr
  all_goals simp [execOp, ho, hu]
theorem run_eqGuard_plain {op : BinOp} {t : TypeId} {x y : Operand} {a b : Value} (h1 : a ≠ .nilIface) (h2 : ∀ cs, a ≠ .agg cs) (w : World) : (eqGuard op t x y a b).run P w = .ok () w := by
 unfold eqGuard
 cases a <;> cases b <;> first | (exfalso; exact h1 rfl) | (exfalso; exact h2 _ rfl) | (cases op <;> simp)
theorem binI_run {op : BinOp} {k : IntKind} {x y : Int} {v : Value} (h : binI op k x y = some v) (h1 : op ≠ .shl) (h2 : op ≠ .shr) (t : TypeId) (w : World) : (binOp op t (.int k x) (.int k y)).run P w = .ok v w := by
 cases op <;> simp only [binI] at h <;> first
  | (exact absurd rfl h1)
  | (exact absurd rfl h2)
  | (cases h; simp [binOp, Op.intArith, Op.intBits, Op.intCmp]; done)
  | (split at h
     ·cases h
     ·rename_i hy
      cases h; simp [binOp, Op.intDiv, hy])
theorem string_eq_iff (a b : ByteArray) : (a.toList == b.toList) = decide (a = b) := by
 by_cases h : a = b
 ·subst h; simp
 ·have : a.toList ≠ b.toList := fun e => h (by
   rw [ByteArray.toList_eq, ByteArray.toList_eq] at e
   obtain ⟨x⟩ := a
   obtain ⟨y⟩ := b
   obtain rfl : x = y := Array.ext' e
   rfl)
  simp [h, this]
theorem good_bin (hs : Sim C base ι h w) (hρ : OpdRep ι e ρ) {op : BinOp} {t yt : TypeId} {x y : Operand} {a b : Opd} (ha : copd x = some a) (hb : copd y = some b)
 {v : Value} {h' : Heap}
 (hi : iop (.bin op a b) e h = some (v, h')) : Good C base P ρ (.binOp op t x y yt) ι h w v h' := by
 simp only [iop] at hi
 obtain ⟨v', hv, hp⟩ := opt_map hi
 cases hp
 have hx := hρ.1 _ _ ha
 have hy := hρ.1 _ _ hb
 generalize ev e a = p at *
 generalize ev e b = q at *
 have fin : ∀ {z : Value}, Rep ι v z → (ρ x ≠ .nilIface) → (∀ cs, ρ x ≠ .agg cs) → (binOp op t (ρ x) (ρ y)).run P w = .ok z w → Good C base P ρ (.binOp op t x y yt) ι h w v h := by
  intro z hz h1 h2 hr
  refine good_pure hs (v' := z) (fun o ho => ?_) hz
  simp [execOp, ho, run_eqGuard_plain h1 h2, hr]
 unfold binV at hv
 split at hv
 ·rename_i k m k' n
  rw [rep_int hx, rep_int hy] at fin
  split at hv
  ·split at hv
   ·cases hv
   ·rename_i hn
    cases hv
    exact fin (.int _ _) (by simp) (by simp) (by simp [binOp, Op.shift, hn])
  ·split at hv
   ·cases hv
   ·rename_i hn
    cases hv
    exact fin (.int _ _) (by simp) (by simp) (by simp [binOp, Op.shift, hn])
  ·rename_i h1 h2
   split at hv
   case isFalse => cases hv
   rename_i hk
   subst hk
   have := binI_run (P := P) hv (fun e => h1 e) (fun e => h2 e) t w
   refine fin ?_ (by simp) (by simp) this
   cases op <;> simp only [binI] at hv <;> first
    | (cases hv; first | exact .int _ _ | exact .bool _)
    | (split at hv
       ·cases hv
       ·cases hv; exact .int _ _)
    | cases hv
 ·rename_i m n
  rw [rep_string hx, rep_string hy] at fin
  split at hv
  ·split at hv
   case isFalse => cases hv
   rename_i hle
   cases hv
   refine fin (.string _) (by simp) (by simp) ?_
   have h1 : ¬ (((m.size + n.size : Nat) : Int) > IntKind.i64.max) := by show ¬ _ > (9223372036854775807 : Int); omega
   simp only [binOp, Op.stringOp, if_neg h1, Sem.run_pure]
  ·cases hv
   exact fin (.bool _) (by simp) (by simp) (by simp [binOp, Op.stringOp, string_eq_iff])
  ·cases hv
   exact fin (.bool _) (by simp) (by simp) (by simp [binOp, Op.stringOp, string_eq_iff])
  ·cases hv
 ·cases hv
def eqOp (neg : Bool) : BinOp := if neg then .neq else .eql
theorem negOf_spec {op : BinOp} {n : Bool} (h : negOf op = some n) : op = eqOp n := by
 cases op <;> simp [negOf] at h <;> subst h <;> rfl
theorem good_beq (hs : Sim C base ι h w) (hρ : OpdRep ι e ρ) {neg : Bool} {t yt : TypeId} {x y : Operand} {a b : Opd} (ha : copd x = some a) (hb : copd y = some b)
 (hu : P.underlying t = some .bool) {v : Value} {h' : Heap}
 (hi : iop (.beq neg a b) e h = some (v, h')) : Good C base P ρ (.binOp (eqOp neg) t x y yt) ι h w v h' := by
 simp only [iop] at hi
 have hx := hρ.1 _ _ ha
 have hy := hρ.1 _ _ hb
 generalize ev e a = p at *
 generalize ev e b = q at *
 split at hi
 case h_2 => cases hi
 cases hi
 have hx := rep_bool hx
 have hy := rep_bool hy
 have heq := fun (a b : Bool) => run_equalIn_bool (P := P) w 9999 t a b hu
 refine good_pure hs (fun o ho => ?_) (.bool _)
 cases neg <;> simp [execOp, ho, hx, hy, run_eqGuard_plain, binOp, Op.equal, Op.maxDepth, heq, eqOp]
theorem skOf_spec {t : TypeId} {s : SK} (h : skOf P t = some s) : ∃ d, P.underlying t = some d ∧ ((d = .bool ∧ s = .bool) ∨ (∃ k, d = .int k ∧ s = .int k) ∨ (d = .string ∧ s = .str)) := by
 unfold skOf at h
 split at h <;> first | cases h | skip
 ·exact ⟨_, by assumption, .inl ⟨rfl, rfl⟩⟩
 ·exact ⟨_, by assumption, .inr (.inl ⟨_, rfl, rfl⟩)⟩
 ·exact ⟨_, by assumption, .inr (.inr ⟨rfl, rfl⟩)⟩
theorem fit1_rep {s : SK} {v v' : Value} (hf : fit1 s v = true) (hr : Rep ι v v') : v' = v := by
 cases s <;> cases v <;> simp [fit1] at hf
 ·exact rep_int hr
 ·exact rep_string hr
 ·exact rep_bool hr
theorem fitL_rep : ∀ {ks : List SK} {xs ys : List Value}, fitL ks xs = true → RepL ι xs ys → ys = xs
 | [], [], ys, _, hr => by have := hr.1; cases ys <;> simp_all
 | [], _ :: _, _, hf, _ => by simp [fitL] at hf
 | _ :: _, [], _, hf, _ => by simp [fitL] at hf
 | k :: ks, x :: xs, [], _, hr => by simp [RepL] at hr
 | k :: ks, x :: xs, y :: ys, hf, hr => by
  simp [fitL] at hf
  rw [fit1_rep hf.1 hr.head.1, fitL_rep hf.2 hr.head.2]
theorem run_equalIn_scalar {t : TypeId} {s : SK} (hs : skOf P t = some s) {a b : Value} (ha : fit1 s a = true) (hb : fit1 s b = true) (d : Nat) (w : World) :
 (Op.equalIn (d + 1) t a b).run P w = .ok (seq1 a b) w := by
 obtain ⟨dd, hd, h⟩ := skOf_spec hs
 rcases h with ⟨rfl, rfl⟩ | ⟨k, rfl, rfl⟩ | ⟨rfl, rfl⟩
 ·cases a <;> cases b <;> simp [fit1] at ha hb
  exact run_equalIn_bool w d t _ _ hd
 ·cases a <;> cases b <;> simp [fit1] at ha hb
  subst ha; subst hb
  exact run_equalIn_int w d t _ _ _ _ hd
 ·cases a <;> cases b <;> simp [fit1] at ha hb
  rw [run_equalIn_string w d t _ _ hd, string_eq_iff]; rfl
theorem skOf_part {t : TypeId} {s : SK} (hs : skOf P t = some s) {cs : Array Value} {o : Nat} {v : Value} (hv : cs.toList[o]? = some v) (w : World) : (part t cs o).run P w = .ok v w := by
 obtain ⟨dd, hd, h⟩ := skOf_spec hs
 have hv' : cs[o]? = some v := by simpa using hv
 rcases h with ⟨rfl, rfl⟩ | ⟨k, rfl, rfl⟩ | ⟨rfl, rfl⟩ <;> simp [part, isAgg, run_underlying hd, hv']
theorem run_eqFields (d : Nat) (xs ys : Array Value) : ∀ (fs : List Field) (n : Nat) (ks : List SK), flatFields P fs n = some ks → fitL ks (xs.toList.drop n) = true → fitL ks (ys.toList.drop n) = true →
 ∀ w, (Op.eqFields (d + 1) xs ys fs).run P w = .ok (seqL (xs.toList.drop n) (ys.toList.drop n)) w
 | [], n, ks, hf, hx, hy, w => by
  simp [flatFields] at hf; subst hf
  cases hxs : xs.toList.drop n with
  | cons => simp [hxs, fitL] at hx
  | nil => cases hys : ys.toList.drop n with
   | cons => simp [hys, fitL] at hy
   | nil => simp [Op.eqFields, seqL]
 | f :: fs, n, ks, hf, hx, hy, w => by
  simp only [flatFields] at hf
  split at hf
  case h_2 => cases hf
  rename_i s ss h1 h2
  split at hf
  case isFalse => cases hf
  rename_i hc
  simp at hc
  cases hf
  obtain ⟨⟨hn, ho⟩, _⟩ := hc
  cases hxs : xs.toList.drop n with
  | nil => simp [hxs, fitL] at hx
  | cons x xt => cases hys : ys.toList.drop n with
   | nil => simp [hys, fitL] at hy
   | cons y yt =>
    have hx0 : xs.toList[n]? = some x := by have := congrArg (·[0]?) hxs; simpa using this
    have hy0 : ys.toList[n]? = some y := by have := congrArg (·[0]?) hys; simpa using this
    have hxt : xs.toList.drop (n + 1) = xt := by rw [← List.drop_drop, hxs]; rfl
    have hyt : ys.toList.drop (n + 1) = yt := by rw [← List.drop_drop, hys]; rfl
    rw [hxs] at hx
    rw [hys] at hy
    simp [fitL] at hx hy
    have ih := run_eqFields d xs ys fs (n + 1) ss h2 (by rw [hxt]; exact hx.2) (by rw [hyt]; exact hy.2) w
    rw [hxt, hyt] at ih
    have p1 := skOf_part h1 hx0 w
    have p2 := skOf_part h1 hy0 w
    have p3 := run_equalIn_scalar h1 hx.1 hy.1 d w
    subst ho
    simp only [Op.eqFields, ne_eq, hn, not_false_eq_true, if_true, Sem.run_bind, p1, p2, p3, Result.andThen_ok, seqL]
    cases seq1 x y <;> simp [ih]
theorem structSK_spec {t : TypeId} {ks : List SK} (h : structSK P t = some ks) : ∃ fs, P.underlying t = some (.struct fs) ∧ flatFields P fs.toList 0 = some ks ∧ P.eqGuardType P.depth t = false ∧ P.stoodInHeld t = false := by
 unfold structSK at h
 split at h
 case h_2 => cases h
 rename_i fs hu
 split at h
 case h_2 => cases h
 rename_i ss hf
 split at h
 case isFalse => cases h
 rename_i hc
 simp at hc
 cases h
 exact ⟨fs, hu, hf, hc.1.1, hc.1.2⟩
theorem run_equalIn_structSK {t : TypeId} {ks : List SK} (h : structSK P t = some ks) {xs ys : Array Value} (hx : fitL ks xs.toList = true) (hy : fitL ks ys.toList = true) (d : Nat) (w : World) :
 (Op.equalIn (d + 2) t (.agg xs) (.agg ys)).run P w = .ok (seqL xs.toList ys.toList) w := by
 obtain ⟨fs, hu, hf, hg, hst⟩ := structSK_spec h
 have hfo : P.fieldsOf t = fs := by simp [Program.fieldsOf, hu]
 rw [run_equalIn_struct w (d + 1) t xs ys (by rw [hfo]; exact hu) hst, hfo]
 simpa using run_eqFields d xs ys fs.toList 0 ks hf (by simpa using hx) (by simpa using hy) w
theorem good_eqs (hs : Sim C base ι h w) (hρ : OpdRep ι e ρ) {neg : Bool} {t yt : TypeId} {x y : Operand} {a b : Opd} {ks : List SK} (ha : copd x = some a) (hb : copd y = some b)
 (hu : structSK P t = some ks) {v : Value} {h' : Heap}
 (hi : iop (.eqs ks neg a b) e h = some (v, h')) : Good C base P ρ (.binOp (eqOp neg) t x y yt) ι h w v h' := by
 simp only [iop] at hi
 have hx := hρ.1 _ _ ha
 have hy := hρ.1 _ _ hb
 generalize ev e a = p at *
 generalize ev e b = q at *
 split at hi
 case h_2 => cases hi
 rename_i xs ys
 split at hi
 case isFalse => cases hi
 rename_i hf
 simp at hf
 cases hi
 obtain ⟨xs', hx1, hx2⟩ := rep_aggL hx
 obtain ⟨ys', hy1, hy2⟩ := rep_aggL hy
 have e1 : xs' = xs := Array.ext' (fitL_rep hf.1 hx2.toL)
 have e2 : ys' = ys := Array.ext' (fitL_rep hf.2 hy2.toL)
 subst e1; subst e2
 have hr := run_equalIn_structSK hu hf.1 hf.2 9998 w
 obtain ⟨fs, hu1, hu2, hg, hst⟩ := structSK_spec hu
 refine good_pure hs (v' := .bool (seqL xs'.toList ys'.toList != neg)) (fun o ho => ?_) (.bool _)
 cases neg
 ·simp [execOp, ho, hx1, hy1, run_eqGuard_agg w .eql t x y xs' ys' hg, run_eql_struct, hr, eqOp]
 ·simp [execOp, ho, hx1, hy1, run_eqGuard_agg w .neq t x y xs' ys' hg, run_neq_struct, hr, eqOp]
theorem eqn1 {t u : TypeId} (h : P.underlying t = some (.pointer u)) (a : Option Addr) (w : World) : (Op.equalIn 10000 t (.pointer a) (.pointer none)).run P w = .ok a.isNone w := by
 have g : ∀ d, (Op.equalIn (d + 1) t (.pointer a) (.pointer none)).run P w = .ok a.isNone w := fun d => by cases a <;> simp [Op.equalIn, run_underlying h]
 exact g 9999
theorem eqn2 {t u : TypeId} (h : P.underlying t = some (.slice u)) (a : Option Addr) (l c : Nat) (w : World) : (Op.equalIn 10000 t (.slice a l c) (.slice none 0 0)).run P w = .ok a.isNone w := by
 have g : ∀ d, (Op.equalIn (d + 1) t (.slice a l c) (.slice none 0 0)).run P w = .ok a.isNone w := fun d => by cases a <;> simp [Op.equalIn, run_underlying h]
 exact g 9999
theorem eqn3 {t u v : TypeId} (h : P.underlying t = some (.map u v)) (a : Option Nat) (w : World) : (Op.equalIn 10000 t (.map a) (.map none)).run P w = .ok a.isNone w := by
 have g : ∀ d, (Op.equalIn (d + 1) t (.map a) (.map none)).run P w = .ok a.isNone w := fun d => by cases a <;> simp [Op.equalIn, run_underlying h]
 exact g 9999
theorem eqn4 {t : TypeId} {a b : Array TypeId} {c : Bool} (h : P.underlying t = some (.func a b c)) (w : World) : (Op.equalIn 10000 t .nilFunc .nilFunc).run P w = .ok true w := by
 have g : ∀ d, (Op.equalIn (d + 1) t .nilFunc .nilFunc).run P w = .ok true w := fun d => by simp [Op.equalIn, run_underlying h]
 exact g 9999
theorem eqn5 {t : TypeId} {a b : Array TypeId} {c : Bool} (h : P.underlying t = some (.func a b c)) (f : Fn) (x y : Array Value) (w : World) : (Op.equalIn 10000 t (.func f x y) .nilFunc).run P w = .ok false w := by
 have g : ∀ d, (Op.equalIn (d + 1) t (.func f x y) .nilFunc).run P w = .ok false w := fun d => by simp [Op.equalIn, run_underlying h]
 exact g 9999
theorem eqn6 {t : TypeId} {m : Array (String × TypeId)} (h : P.underlying t = some (.interface m)) (w : World) : (Op.equalIn 10000 t .nilIface .nilIface).run P w = .ok true w := by
 have g : ∀ d, (Op.equalIn (d + 1) t .nilIface .nilIface).run P w = .ok true w := fun d => by simp [Op.equalIn, run_underlying h]
 exact g 9999
theorem eqn7 {t u : TypeId} {m : Array (String × TypeId)} (h : P.underlying t = some (.interface m)) (v : Value) (w : World) : (Op.equalIn 10000 t (.iface u v) .nilIface).run P w = .ok false w := by
 have g : ∀ d, (Op.equalIn (d + 1) t (.iface u v) .nilIface).run P w = .ok false w := fun d => by simp [Op.equalIn, run_underlying h]
 exact g 9999
theorem good_isnil (hs : Sim C base ι h w) (hρ : OpdRep ι e ρ) {neg : Bool} {t yt : TypeId} {x : Operand} {c : Value} {a : Opd} {k : NK} {d : TypeDesc} (ha : copd x = some a)
 (hu : P.underlying t = some d) (hk : (∃ u, d = .pointer u ∧ k = .ptr ∧ c = .pointer none) ∨ (∃ u, d = .slice u ∧ k = .sl ∧ c = .slice none 0 0) ∨ (∃ u v, d = .map u v ∧ k = .mp ∧ c = .map none) ∨
  (∃ a b f, d = .func a b f ∧ k = .fn ∧ c = .nilFunc) ∨ ∃ m, d = .interface m ∧ k = .ifc ∧ c = .nilIface) {v : Value} {h' : Heap}
 (hi : iop (.isnil k neg a) e h = some (v, h')) : Good C base P ρ (.binOp (eqOp neg) t x (.const c) yt) ι h w v h' := by
 simp only [iop] at hi
 obtain ⟨b, hb, hp⟩ := opt_map hi
 cases hp
 have hx := hρ.1 _ _ ha
 generalize ev e a = p at *
 generalize hu' : ρ x = u at hx
 have hc : ρ (.const c) = c := hρ.2 c
 have fin : (eqGuard (eqOp neg) t x (.const c) u c).run P w = .ok () w → (binOp (eqOp neg) t u c).run P w = .ok (.bool (b != neg)) w → Good C base P ρ (.binOp (eqOp neg) t x (.const c) yt) ι h w (.bool (b != neg)) h := by
  intro h1 h2
  refine good_pure hs (v' := .bool (b != neg)) (fun o ho => ?_) (.bool _)
  simp [execOp, ho, hu', hc, h1, h2]
 refine fin ?_ ?_
 ·rcases hk with ⟨_, rfl, rfl, rfl⟩ | ⟨_, rfl, rfl, rfl⟩ | ⟨_, _, rfl, rfl, rfl⟩ | ⟨_, _, _, rfl, rfl, rfl⟩ | ⟨_, rfl, rfl, rfl⟩ <;>
   cases hx <;> simp [nilV] at hb <;> cases neg <;> simp [eqGuard, eqOp]
 ·rcases hk with ⟨_, rfl, rfl, rfl⟩ | ⟨_, rfl, rfl, rfl⟩ | ⟨_, _, rfl, rfl, rfl⟩ | ⟨_, _, _, rfl, rfl, rfl⟩ | ⟨_, rfl, rfl, rfl⟩ <;>
   cases hx <;> simp [nilV] at hb <;> subst hb <;> cases neg <;> first | (simp [eqOp, binOp, Op.equal, Op.maxDepth, eqn1 hu]; done) | (simp [eqOp, binOp, Op.equal, Op.maxDepth, eqn2 hu]; done) | (simp [eqOp, binOp, Op.equal, Op.maxDepth, eqn3 hu]; done) | (simp [eqOp, binOp, Op.equal, Op.maxDepth, eqn4 hu]; done) | (simp [eqOp, binOp, Op.equal, Op.maxDepth, eqn5 hu]; done) | (simp [eqOp, binOp, Op.equal, Op.maxDepth, eqn6 hu]; done) | (simp [eqOp, binOp, Op.equal, Op.maxDepth, eqn7 hu]; done)
theorem good_un (hs : Sim C base ι h w) (hρ : OpdRep ι e ρ) {op : UnOp} {t : TypeId} {x : Operand} {a : Opd} (ha : copd x = some a) {v : Value} {h' : Heap}
 (hi : iop (.un op a) e h = some (v, h')) : Good C base P ρ (.unOp op t x) ι h w v h' := by
 simp only [iop] at hi
 obtain ⟨v', hv, hp⟩ := opt_map hi
 cases hp
 have hx := hρ.1 _ _ ha
 generalize ev e a = p at *
 unfold unV at hv
 split at hv
 ·have hx := rep_int hx
  split at hv
  ·cases hv
   exact good_pure hs (fun o ho => by simp [execOp, ho, hx, Op.unary, Op.intArith]) (.int _ _)
  ·cases hv
   exact good_pure hs (fun o ho => by simp [execOp, ho, hx, Op.unary, Op.intBits]) (.int _ _)
  ·cases hv
 ·have hx := rep_bool hx
  split at hv
  ·cases hv
   exact good_pure hs (fun o ho => by simp [execOp, ho, hx, Op.unary]) (.bool _)
  ·cases hv
 ·cases hv
theorem good_conv (hs : Sim C base ι h w) (hρ : OpdRep ι e ρ) {s d : TypeId} {k k' : IntKind} {x : Operand} {a : Opd} (ha : copd x = some a) (h1 : P.underlying s = some (.int k')) (h2 : P.underlying d = some (.int k))
 {v : Value} {h' : Heap} (hi : iop (.conv k a) e h = some (v, h')) : Good C base P ρ (.convert s d x) ι h w v h' := by
 simp only [iop] at hi
 have hx := hρ.1 _ _ ha
 generalize ev e a = p at *
 split at hi
 case h_2 => cases hi
 cases hi
 have hx := rep_int hx
 exact good_pure hs (fun o ho => by simp [execOp, ho, hx, convert, run_underlying h1, run_underlying h2, Conv.intToInt]) (.int _ _)
theorem good_iface (hs : Sim C base ι h w) (hρ : OpdRep ι e ρ) {t : TypeId} {d : TypeDesc} {x : Operand} {a : Opd} (ha : copd x = some a) (h1 : P.underlying t = some d) (h2 : ∀ m, d ≠ .interface m) :
 Good C base P ρ (.makeInterface t x) ι h w (.iface t (ev e a)) h := by
 refine good_pure hs (v' := .iface t (ρ x)) (fun o ho => ?_) (.iface (hρ.1 _ _ ha))
 cases d <;> first | (exact absurd rfl (h2 _)) | simp [execOp, ho, Instr.makeInterface, run_underlying h1]
theorem good_fn (hs : Sim C base ι h w) (hρ : OpdRep ι e ρ) {f : FuncId} {xs ys : Array Operand} {as bs : List Opd} (ha : copds xs.toList = some as) (hb : copds ys.toList = some bs) :
 Good C base P ρ (.makeFunc (.func f) xs ys) ι h w (.func (.func f) (as.map (ev e)).toArray (bs.map (ev e)).toArray) h := by
 have h1 := copds_rep hρ ha
 have h2 := copds_rep hρ hb
 refine good_pure hs (v' := .func (.func f) (xs.map ρ) (ys.map ρ)) (fun o ho => by simp [execOp, ho, Instr.makeFunc]) ?_
 refine .func (by simpa using h1.1) (fun k v v' h3 h4 => h1.2 k v v' (by simpa using h3) (by simpa using h4)) (by simpa using h2.1) (fun k v v' h3 h4 => h2.2 k v v' (by simpa using h3) (by simpa using h4))
end Go.Idl
end

section
namespace Go.Idl
variable {C : Nat → IC → Code → Prop} {base : Nat} {ι : Inj} {h : Heap} {w : World} {P : Program} {ρ : Operand → Value} {e : Env}
theorem good_faddr (hs : Sim C base ι h w) (hρ : OpdRep ι e ρ) {t : TypeId} {fs : Array Field} {f s : Nat} {fd : Field} {x : Operand} {a : Opd} (hu : P.underlying t = some (.struct fs)) (hf : fs.toList[f]? = some fd)
 (hz : tsize P fd.type = some s) (hp : 0 < s) (ha : copd x = some a) {v : Value} {h' : Heap} (hi : iop (.faddr fd.offset a) e h = some (v, h')) : Good C base P ρ (.fieldAddr t x f) ι h w v h' := by
 simp only [iop] at hi
 split at hi
 case h_2 => cases hi
 rename_i b o hb
 cases hi
 obtain ⟨i, hι, hx⟩ := rep_ptr (hb ▸ hρ.1 _ _ ha)
 have hf' : fs[f]? = some fd := by simpa using hf
 refine good_pure hs (v' := .pointer (some ⟨i.blk, o + fd.offset + i.sh, none⟩)) (fun o ho => ?_) (.ptr hι)
 simp [execOp, ho, Instr.fieldAt, run_underlying hu, hf', hx, Instr.sureAddr, fieldPlace, run_sizeOf' hz, Nat.ne_of_gt hp, addr_add]
 omega
theorem good_field (hs : Sim C base ι h w) (hρ : OpdRep ι e ρ) {t : TypeId} {fs : Array Field} {f : Nat} {n : Option Nat} {fd : Field} {x : Operand} {a : Opd} (hu : P.underlying t = some (.struct fs)) (hf : fs.toList[f]? = some fd)
 (hz : tshape P fd.type = some n) (ha : copd x = some a) {v : Value} {h' : Heap} (hi : iop (.field fd.offset n a) e h = some (v, h')) : Good C base P ρ (.field t x f) ι h w v h' := by
 simp only [iop] at hi
 have hx := hρ.1 _ _ ha
 generalize ev e a = p at *
 split at hi
 case h_2 => cases hi
 obtain ⟨u, hv, hp⟩ := opt_map hi
 cases hp
 obtain ⟨cs', hx', hr⟩ := rep_aggL hx
 have hf' : fs[f]? = some fd := by simpa using hf
 obtain ⟨v', h1, h2⟩ := partL_rep hr hz hv w
 refine good_pure hs (v' := v') (fun o ho => ?_) h2
 simp [execOp, ho, Instr.field, run_underlying hu, hf', hx', asAgg, h1]
theorem idxV_spec {n j : Nat} {v v' : Value} (h : idxV n v = some j) (hr : Rep ι v v') : ∃ k i, v' = .int k i ∧ 0 ≤ i ∧ i < n ∧ i.toNat = j := by
 unfold idxV at h
 split at h
 case h_2 => cases h
 split at h
 ·rename_i hc; cases h; exact ⟨_, _, rep_int hr, hc.1, hc.2, rfl⟩
 ·cases h
theorem good_iaddr_sl (hs : Sim C base ι h w) (hρ : OpdRep ι e ρ) {t el : TypeId} {s : Nat} {x y : Operand} {a b : Opd} (hu : P.underlying t = some (.slice el)) (hz : tsize P el = some s) (ha : copd x = some a) (hb : copd y = some b)
 {v : Value} {h' : Heap} (hi : iop (.iaddr (.sl s) a b) e h = some (v, h')) : Good C base P ρ (.indexAddr t x y) ι h w v h' := by
 simp only [iop] at hi
 have hx := hρ.1 _ _ ha
 have hy := hρ.1 _ _ hb
 generalize ev e a = p at *
 generalize ev e b = q at *
 split at hi <;> first | cases hi | skip
 ·rename_i size bl o len cap heq
  cases heq
  obtain ⟨j, hj, hp⟩ := opt_map hi
  cases hp
  obtain ⟨k, i, hy', h0, h1, rfl⟩ := idxV_spec hj hy
  obtain ⟨a', c', bi, hx', hι, hle, _, hadr, _⟩ := rep_slice hx
  have ha' := hadr (by omega)
  subst ha'
  refine good_pure hs (v' := .pointer (some ⟨bi.blk, o + i.toNat * s + bi.sh, none⟩)) (fun o ho => ?_) (.ptr hι)
  simp [execOp, ho, Instr.indexAt, run_underlying hu, hx', hy', asIntOf, h0, h1, run_sizeOf' hz, addr_add]
  omega
 ·rename_i heq; cases heq
theorem good_iaddr_ar (hs : Sim C base ι h w) (hρ : OpdRep ι e ρ) {t el : TypeId} {n s : Nat} {x y : Operand} {a b : Opd} (hu : P.underlying t = some (.array n el)) (hz : tsize P el = some s) (ha : copd x = some a) (hb : copd y = some b)
 {v : Value} {h' : Heap} (hi : iop (.iaddr (.ar n s) a b) e h = some (v, h')) : Good C base P ρ (.indexAddr t x y) ι h w v h' := by
 simp only [iop] at hi
 have hx := hρ.1 _ _ ha
 have hy := hρ.1 _ _ hb
 generalize ev e a = p at *
 generalize ev e b = q at *
 split at hi <;> first | cases hi | skip
 ·rename_i heq; cases heq
 ·rename_i m size bl o heq
  cases heq
  obtain ⟨j, hj, hp⟩ := opt_map hi
  cases hp
  obtain ⟨k, i, hy', h0, h1, rfl⟩ := idxV_spec hj hy
  obtain ⟨bi, hι, hx'⟩ := rep_ptr hx
  refine good_pure hs (v' := .pointer (some ⟨bi.blk, o + i.toNat * s + bi.sh, none⟩)) (fun o ho => ?_) (.ptr hι)
  simp [execOp, ho, Instr.indexAt, run_underlying hu, hx', hy', asIntOf, h0, h1, Instr.sureAddr, run_sizeOf' hz, addr_add]
  omega
theorem good_sidx (hs : Sim C base ι h w) (hρ : OpdRep ι e ρ) {t : TypeId} {x y : Operand} {a b : Opd} (hu : P.underlying t = some .string) (ha : copd x = some a) (hb : copd y = some b)
 {v : Value} {h' : Heap} (hi : iop (.sidx a b) e h = some (v, h')) : Good C base P ρ (.index t x y) ι h w v h' := by
 simp only [iop] at hi
 have hx := hρ.1 _ _ ha
 have hy := hρ.1 _ _ hb
 generalize ev e a = p at *
 generalize ev e b = q at *
 split at hi
 case h_2 => cases hi
 rename_i s
 split at hi
 case h_2 => cases hi
 rename_i j hj
 obtain ⟨c, hc, hp⟩ := opt_map hi
 cases hp
 obtain ⟨k, i, hy', h0, h1, rfl⟩ := idxV_spec hj hy
 have hx' := rep_string hx
 refine good_pure hs (v' := .int .u8 c.toNat) (fun o ho => ?_) (.int _ _)
 have hget : s[i.toNat]? = some c := by
  have hlt : i.toNat < s.size := by omega
  rw [getElem?_pos s i.toNat hlt]
  have h3 : i.toNat < s.data.toList.length := by simpa using hlt
  rw [List.getElem?_eq_getElem h3] at hc
  cases hc; rfl
 simp [execOp, ho, Instr.index, run_underlying hu, hx', hy', asIntOf, h0, hget]
theorem good_aidx (hs : Sim C base ι h w) (hρ : OpdRep ι e ρ) {t el : TypeId} {len size : Nat} {n : Option Nat} {x y : Operand} {a b : Opd} (hu : P.underlying t = some (.array len el)) (hz : tsize P el = some size) (hsh : tshape P el = some n)
 (ha : copd x = some a) (hb : copd y = some b) {v : Value} {h' : Heap} (hi : iop (.aidx len size n a b) e h = some (v, h')) : Good C base P ρ (.index t x y) ι h w v h' := by
 simp only [iop] at hi
 have hx := hρ.1 _ _ ha
 have hy := hρ.1 _ _ hb
 generalize ev e a = p at *
 generalize ev e b = q at *
 split at hi
 case h_2 => cases hi
 split at hi
 case h_2 => cases hi
 rename_i j hj
 obtain ⟨u, hv, hp⟩ := opt_map hi
 cases hp
 obtain ⟨k, i, hy', h0, h1, rfl⟩ := idxV_spec hj hy
 obtain ⟨cs', hx', hr⟩ := rep_aggL hx
 obtain ⟨v', h2, h3⟩ := partL_rep hr hsh hv w
 refine good_pure hs (v' := v') (fun o ho => ?_) h3
 simp [execOp, ho, Instr.index, run_underlying hu, hx', hy', asIntOf, h0, h1, run_sizeOf' hz, h2]
theorem good_extract (hs : Sim C base ι h w) (hρ : OpdRep ι e ρ) {x : Operand} {a : Opd} {i : Nat} (ha : copd x = some a) {v : Value} {h' : Heap} (hi : iop (.extract a i) e h = some (v, h')) :
 Good C base P ρ (.extract x i) ι h w v h' := by
 simp only [iop] at hi
 have hx := hρ.1 _ _ ha
 generalize ev e a = p at *
 split at hi
 case h_2 => cases hi
 obtain ⟨u, hv, hp⟩ := opt_map hi
 cases hp
 obtain ⟨cs', hx', hr⟩ := rep_tupL hx
 obtain ⟨v', h1, h2⟩ := hr.get hv
 refine good_pure hs (v' := v') (fun o ho => ?_) h2
 have h1' : cs'[i]? = some v' := by simpa using h1
 simp [execOp, ho, Instr.extract, hx', h1']
theorem rep_tup2 {a a' b b' : Value} (h1 : Rep ι a a') (h2 : Rep ι b b') : Rep ι (.tuple #[a, b]) (.tuple #[a', b']) := rep_tuple (RepL.cons h1 (RepL.cons h2 (RepL.nil _)))
theorem rep_tup1 {a a' : Value} (h1 : Rep ι a a') : Rep ι (.tuple #[a]) (.tuple #[a']) := rep_tuple (RepL.cons h1 (RepL.nil _))
theorem rep_tup3 {a a' b b' c c' : Value} (h1 : Rep ι a a') (h2 : Rep ι b b') (h3 : Rep ι c c') : Rep ι (.tuple #[a, b, c]) (.tuple #[a', b', c']) := rep_tuple (RepL.cons h1 (RepL.cons h2 (RepL.cons h3 (RepL.nil _))))
theorem good_assert (hs : Sim C base ι h w) (hρ : OpdRep ι e ρ) {x : Operand} {a : Opd} {xt t : TypeId} {d : TypeDesc} {z : Value} (hu : P.underlying t = some d) (hd : ∀ m, d ≠ .interface m)
 (hz : (P.info? t).bind (·.zero) = some z) (hc : constOk z = true) (ha : copd x = some a) {v : Value} {h' : Heap} (hi : iop (.assert t z a) e h = some (v, h')) : Good C base P ρ (.typeAssert x xt t true) ι h w v h' := by
 simp only [iop] at hi
 have hx := hρ.1 _ _ ha
 generalize ev e a = p at *
 have hzero : (zeroValue t).run P w = .ok z w := by
  cases hq : P.info? t with
  | none => simp [hq] at hz
  | some i => simp [hq] at hz; simp [zeroValue, typeInfo, hq, hz]
 split at hi
 ·cases hi
  have hx' := rep_nilIface hx
  refine good_pure hs (v' := .tuple #[z, .bool false]) (fun o ho => ?_) (rep_tup2 (constOk_rep hc) (.bool _))
  cases d <;> first | (exact absurd rfl (hd _)) | simp [execOp, ho, Instr.typeAssert, run_underlying hu, hx', hzero]
 ·rename_i u y
  cases hi
  obtain ⟨y', hx', hy⟩ := rep_iface hx
  by_cases he : u = t
  ·refine good_pure hs (v' := .tuple #[y', .bool true]) (fun o ho => ?_) (by rw [if_pos he]; exact rep_tup2 hy (.bool _))
   cases d <;> first | (exact absurd rfl (hd _)) | simp [execOp, ho, Instr.typeAssert, run_underlying hu, hx', he]
  ·refine good_pure hs (v' := .tuple #[z, .bool false]) (fun o ho => ?_) (by rw [if_neg he]; exact rep_tup2 (constOk_rep hc) (.bool _))
   cases d <;> first | (exact absurd rfl (hd _)) | simp [execOp, ho, Instr.typeAssert, run_underlying hu, hx', he, hzero]
 ·cases hi
theorem good_minmax (hs : Sim C base ι h w) (hρ : OpdRep ι e ρ) {mx : Bool} {x y : Operand} {a b : Opd} {ts : Array TypeId} (ha : copd x = some a) (hb : copd y = some b) {v : Value} {h' : Heap}
 (hi : iop (.minmax mx a b) e h = some (v, h')) : Good C base P ρ (.call { callee := .builtin (if mx then .max else .min), args := #[x, y], argTypes := ts }) ι h w v h' := by
 simp only [iop] at hi
 have hx := hρ.1 _ _ ha
 have hy := hρ.1 _ _ hb
 generalize ev e a = p at *
 generalize ev e b = q at *
 split at hi
 case h_2 => cases hi
 split at hi
 case isFalse => cases hi
 rename_i hk
 subst hk
 cases hi
 have hx' := rep_int hx
 have hy' := rep_int hy
 cases mx
 ·refine good_pure hs (fun o ho => ?_) (.int _ _)
  simp [execOp, ho, resolve, invoke, builtin, Builtin.min_, Builtin.min2, hx', hy']
 ·refine good_pure hs (fun o ho => ?_) (.int _ _)
  simp [execOp, ho, resolve, invoke, builtin, Builtin.max_, Builtin.max2, hx', hy']
theorem good_len (hs : Sim C base ι h w) (hρ : OpdRep ι e ρ) {k : LenK} {x : Operand} {a : Opd} {t : TypeId} {ts : List TypeId} {d : TypeDesc} (ha : copd x = some a) (hu : P.underlying t = some d)
 (hk : (d = .string ∧ k = .str) ∨ (∃ u, d = .slice u ∧ k = .sl) ∨ (∃ u v, d = .map u v ∧ k = .mp) ∨ ∃ n u, d = .array n u ∧ k = .ar n) {v : Value} {h' : Heap}
 (hi : iop (.len k a) e h = some (v, h')) {at' : Array TypeId} (hat : at'.toList = t :: ts) : Good C base P ρ (.call { callee := .builtin .len, args := #[x], argTypes := at' }) ι h w v h' := by
 obtain rfl : at' = (t :: ts).toArray := by rw [← hat]
 simp only [iop] at hi
 have hx := hρ.1 _ _ ha
 generalize ev e a = p at *
 generalize hx' : ρ x = u at hx
 rcases hk with ⟨rfl, rfl⟩ | ⟨_, rfl, rfl⟩ | ⟨_, _, rfl, rfl⟩ | ⟨n, _, rfl, rfl⟩
 ·cases p <;> (try dsimp only at hi) <;> cases hi
  cases hx
  exact good_pure hs (fun o ho => by simp [execOp, ho, resolve, invoke, builtin, Builtin.len_, run_underlying hu, hx', goInt]) (.int _ _)
 ·cases p <;> (try dsimp only at hi) <;> cases hi
  cases hx
  ·exact good_pure hs (fun o ho => by simp [execOp, ho, resolve, invoke, builtin, Builtin.len_, run_underlying hu, hx', goInt]) (.int _ _)
  ·exact good_pure hs (fun o ho => by simp [execOp, ho, resolve, invoke, builtin, Builtin.len_, run_underlying hu, hx', goInt]) (.int _ _)
 ·cases p <;> (try dsimp only at hi) <;> try cases hi
  rename_i r
  cases r with
  | none =>
   cases hi
   cases hx
   exact good_pure hs (fun o ho => by simp [execOp, ho, resolve, invoke, builtin, Builtin.len_, run_underlying hu, hx', goInt]) (.int _ _)
  | some b =>
   dsimp only at hi
   split at hi
   case h_2 => cases hi
   rename_i kk es hb
   cases hi
   obtain ⟨i, hι, rfl⟩ := rep_map hx
   obtain ⟨o', ho', hr⟩ := hs.blk b _ i hb hι
   cases o' <;> simp only [BRel] at hr
   rename_i es' clock
   have hg : (getObj i.blk).run P w = .ok (.map es' clock) w := by simp [getObj, Sem.run, ho']
   exact good_pure hs (fun o ho => by simp [execOp, ho, resolve, invoke, builtin, Builtin.len_, run_underlying hu, hx', goInt, hg, hr.2.2.1]) (.int _ _)
 ·have hi' : v = .int .i64 n ∧ h' = h := by
   cases p <;> simp_all
  obtain ⟨rfl, rfl⟩ := hi'
  exact good_pure hs (fun o ho => by simp [execOp, ho, resolve, invoke, builtin, Builtin.len_, run_underlying hu, hx', goInt]) (.int _ _)
end Go.Idl
end

section
namespace Go.Idl
variable {C : Nat → IC → Code → Prop} {base : Nat} {ι : Inj} {h : Heap} {w : World} {P : Program} {ρ : Operand → Value} {e : Env}
theorem row_flat (z : List Value) (hz : z ≠ []) : ∀ n, (List.range (n * z.length)).map (fun i => z.toArray[i % z.length]!) = (List.replicate n z).flatten
 | 0 => by simp
 | n + 1 => by
  have hp : 0 < z.length := List.length_pos_iff.2 hz
  rw [Nat.succ_mul, List.range_add, List.map_append, row_flat z hz n, List.replicate_succ', List.flatten_append]
  congr 1
  simp only [List.map_map, List.flatten_cons, List.flatten_nil, List.append_nil]
  apply List.ext_getElem?
  intro j
  by_cases hj : j < z.length
  ·simp [hj, Nat.mod_eq_of_lt hj]
  ·simp [hj]
theorem madeCells_list {z : Array Value} (hz : 0 < z.size) (n : Nat) : (madeCells z (n * z.size)).toList = (List.replicate n z.toList).flatten := by
 have := row_flat z.toList (by intro e; simp at e; simp [e] at hz) n
 simpa [madeCells] using this
theorem repC_flat {z : List Value} (hz : RepC ι z z) : ∀ n, RepC ι (List.replicate n z).flatten (List.replicate n z).flatten
 | 0 => by simpa using RepC.nil ι
 | n + 1 => by simp only [List.replicate_succ, List.flatten_cons]; exact hz.append (repC_flat hz n)
theorem flat_len (z : List Value) (n : Nat) : (List.replicate n z).flatten.length = n * z.length := by simp
theorem flat_take (z : List Value) {l n : Nat} (h : l ≤ n) : (List.replicate n z).flatten.take (l * z.length) = (List.replicate l z).flatten := by
 obtain ⟨k, rfl⟩ : ∃ k, n = l + k := ⟨n - l, by omega⟩
 rw [← List.replicate_append_replicate, List.flatten_append, List.take_append_of_le_length (by simp)]
 rw [List.take_of_length_le (by simp)]
theorem good_mkmap (hs : Sim C base ι h w) (hb : base ≤ w.heap.size) {t kt et : TypeId} {r : Option Operand} {kk : KK} (hρ : OpdRep ι e ρ) (hu : P.underlying t = some (.map kt et)) (hr : r = none ∨ ∃ k n, r = some (.const (.int k n))) :
 Good C base P ρ (.makeMap t r) ι h w (.map (some h.next)) (h.new (.map kk [])) := by
 obtain ⟨h1, h2⟩ := hs.new (.map kk []) (.map #[] 0) ⟨w.heap.size, 0, 0, 0⟩ rfl (fun ι' hl hi => ⟨hb, by simp, by simp, by simp⟩) (w' := { w with heap := w.heap.push (.map #[] 0) }) rfl rfl rfl rfl
 refine ⟨.map (some w.heap.size), _, _, fun o ho => .inl ?_, h1, h2, nofun, .map (i := ⟨w.heap.size, 0, 0, 0⟩) (ext1_same _ _ _)⟩
 rcases hr with rfl | ⟨k, n, rfl⟩
 ·simp [execOp, ho, Instr.makeMap]
 ·simp [execOp, ho, Instr.makeMap, hρ.2, run_underlying hu, asInt, asIntOf]
theorem good_lit (hs : Sim C base ι h w) (hb : base ≤ w.heap.size) (hρ : OpdRep ι e ρ) {t el : TypeId} {len s : Nat} {ps : Array (Nat × Operand)} {z : List Value} {qs : List (Nat × Nat × Opd)}
 (hu : P.underlying t = some (.slice el)) (hsz : tsize P el = some s) (hz : zcells P el = some z) (hle : len * s ≤ 16777216) (hq : cparts (fun i => some (i * s, s)) ps.toList = some qs) {cs : List Value}
 (hf : fillL (List.replicate len z).flatten (evps e qs) = some cs) :
 Good C base P ρ (.buildSlice t len ps) ι h w (.slice (some ⟨h.next, 0, none⟩) len len) (h.new (.cells cs true s)) := by
 obtain ⟨i, v, hi, hv, rfl, hl, hr, hcv, hzero⟩ := zcells_spec (ι := ι) hz
 have his : i.size = s := by simp [tsize, hi] at hsz; exact hsz
 obtain ⟨out', h1, h2⟩ := cparts_fill hρ hq (repC_flat hr len) hf
 have hlen : out'.length = len * s := by
  have : cs.length = len * s := by
   have gen : ∀ (qs : List (Nat × Nat × Value)) (a b : List Value), fillL a qs = some b → b.length = a.length := by
    intro qs
    induction qs with
    | nil => intro a b hab; simp [fillL] at hab; rw [hab]
    | cons q qs ih =>
     intro a b hab
     obtain ⟨o, sz, u⟩ := q
     simp only [fillL] at hab
     split at hab
     ·split at hab
      ·rw [ih _ _ hab, put_length]
      ·cases hab
     ·cases hab
   rw [gen _ _ _ hf, flat_len, hl, his]
  rw [← h2.1, this]
 refine good_new hs hb (esz := s) (vf := fun n => .slice (some ⟨n, 0, none⟩) len len) (t := el) rfl h2 (fun o ho => ?_) (fun ι' hι => ?_)
 ·have hbig : ¬ (16777216 < len * s) := by omega
  by_cases h0 : len * s = 0
  ·have hnil : (List.replicate len v.cells.toList).flatten = [] := by
    apply List.length_eq_zero_iff.1
    rw [flat_len, hl, his, h0]
   rw [hnil] at h1
   simp only [execOp, ho, Instr.buildSlice, Sem.run_bind, run_underlying hu, run_sizeOf' hsz, Result.andThen_ok, if_neg hbig, Sem.run_ite, if_pos h0, Sem.run_pure, gt_iff_lt]
   simp only [h0, Array.range_zero', List.map_toArray, List.map_nil, Array.map_empty, Array.toList_map]
   simp only [List.map_nil, List.toArray] at h1
   simp [h1, newRow]
  ·have hcells : (Array.range (len * s)).map (v.cells[· % v.cells.size]!) = ((List.replicate len v.cells.toList).flatten).toArray := by
    have hsz' : v.cells.size = s := by simpa [his] using hl
    have hp : 0 < v.cells.size := by
     rw [hsz']; exact Nat.pos_of_ne_zero fun e => h0 (by simp [e])
    apply Array.ext'
    have := madeCells_list hp len
    rw [hsz'] at this ⊢
    simpa [madeCells, hsz'] using this
   simp only [execOp, ho, Instr.buildSlice, Sem.run_bind, run_underlying hu, run_sizeOf' hsz, Result.andThen_ok, gt_iff_lt, if_neg hbig, Sem.run_ite, if_neg h0, Sem.run_pure, hzero]
   simp only [hcells, Array.toList_map]
   simp [h1, newRow]
 ·have := Rep.slice (ι := ι') (b := h.next) (o := 0) (l := len) (c := len) (a' := ⟨w.heap.size, 0, none⟩) (c' := len) hι (Nat.le_refl _) (fun _ => rfl) (fun _ => rfl) (fun _ _ => by simp [hlen])
  exact this
theorem good_mkslice (hs : Sim C base ι h w) (hb : base ≤ w.heap.size) (hρ : OpdRep ι e ρ) {t el : TypeId} {i : TypeInfo} {z : List Value} {x y : Operand} {a b : Opd}
 (hu : P.underlying t = some (.slice el)) (hi : P.info? el = some i) (hz : zcells P el = some z) (hp : 0 < i.size) (hby : 0 < i.bytes) (ha : copd x = some a) (hbb : copd y = some b) {v : Value} {h' : Heap}
 (hio : iop (.mkslice i.size i.bytes z a b) e h = some (v, h')) : Good C base P ρ (.makeSlice t x y) ι h w v h' := by
 simp only [iop] at hio
 have hx := hρ.1 _ _ ha
 have hy := hρ.1 _ _ hbb
 generalize ev e a = p at *
 generalize ev e b = q at *
 split at hio
 case h_2 => cases hio
 rename_i l c
 split at hio
 case isFalse => cases hio
 rename_i hc
 obtain ⟨h0, hlc, hbytes⟩ := hc
 cases hio
 have hx' := rep_int hx
 have hy' := rep_int hy
 obtain ⟨i', v, hi', hv, rfl, hl, hr, hcv, hzero⟩ := zcells_spec (ι := ι) hz
 rw [hi] at hi'; cases hi'
 have hcb : c ≤ 140737488355328 := by
  have h1 : (1 : Int) ≤ i.bytes := by omega
  have h2 : c * 1 ≤ c * i.bytes := Int.mul_le_mul_of_nonneg_left h1 (by omega)
  omega
 have hrun := run_make (P := P) w t el i v hu hi hv .i64 .i64 l c h0 hlc (by rw [Int.mul_comm]; omega) (by omega)
 have hsize : v.cells.size = i.size := by simpa using hl
 have hpz : 0 < v.cells.size := by omega
 have hmade := madeCells_list hpz c.toNat
 rw [hsize] at hmade
 have hll : l.toNat ≤ c.toNat := by omega
 obtain ⟨h1, h2⟩ := hs.new (.cells (List.replicate l.toNat v.cells.toList).flatten true i.size) (.cells (madeCells v.cells (c.toNat * i.size)) el) ⟨w.heap.size, 0, c.toNat * i.size, i.size⟩ rfl
  (fun ι' hle hι => ⟨size_madeCells _ _, by
   rw [flat_len, hl]; simp only [Nat.zero_add]; exact Nat.mul_le_mul_right _ hll, by
   rw [hmade, List.drop_zero, flat_len, flat_take _ hll]
   exact repC_flat (hr.mono hle) _, rfl, fun _ => ⟨rfl, hb⟩, fun hq => by cases hq⟩)
  (w' := w.alloc (.cells (madeCells v.cells (c.toNat * i.size)) el)) rfl rfl rfl rfl
 refine ⟨.slice (some ⟨w.heap.size, 0, none⟩) l.toNat c.toNat, _, _, fun o ho => .inl ?_, h1, h2, nofun, ?_⟩
 ·simp [execOp, ho, hx', hy', hrun]
 ·refine Rep.slice (i := ⟨w.heap.size, 0, c.toNat * i.size, i.size⟩) (ext1_same _ _ _) hll (fun hcl => ?_) (fun _ => rfl) (fun _ _ => by simp)
  split at hcl
  ·rename_i e; rw [e]
  ·omega
theorem good_range (hs : Sim C base ι h w) (hb : base ≤ w.heap.size) (hρ : OpdRep ι e ρ) {t : TypeId} {x : Operand} {a : Opd} (hu : P.underlying t = some .string) (ha : copd x = some a) {v : Value} {h' : Heap}
 (hi : iop (.range a) e h = some (v, h')) : Good C base P ρ (.range t x) ι h w v h' := by
 simp only [iop] at hi
 have hx := hρ.1 _ _ ha
 generalize ev e a = p at *
 split at hi
 case h_2 => cases hi
 rename_i s
 cases hi
 have hx' := rep_string hx
 obtain ⟨h1, h2⟩ := hs.new (.siter s 0) (.stringIter s 0) ⟨w.heap.size, 0, 0, 0⟩ rfl (fun ι' hl hi => ⟨hb, rfl, rfl, rfl⟩) (w' := { w with heap := w.heap.push (.stringIter s 0) }) rfl rfl rfl rfl
 refine ⟨.pointer (some ⟨w.heap.size, 0, none⟩), _, _, fun o ho => .inl ?_, h1, h2, nofun, rep_newptr (i := ⟨w.heap.size, 0, 0, 0⟩) (ext1_same _ _ _) rfl⟩
 simp [execOp, ho, hx', Instr.range, run_underlying hu]
theorem Sim.setObj (hs : Sim C base ι h w) {b : Nat} {i : BI} (hi : ι b = some i) (hm : mine h b) (o : Blk) {old o' : Obj} (hold : w.heap[i.blk]? = some old) (hnc : ∀ c t f, old ≠ .cells c t f) (hr : BRel C base ι i o o') :
 ∃ w', (Go.setObj i.blk o').run P w = .ok () w' ∧ Sim C base ι (h.set b o) w' ∧ Ext ι h w ι (h.set b o) w' := by
 have hlt : i.blk < w.heap.size := (Array.getElem?_eq_some_iff.1 hold).1
 refine ⟨{ w with heap := w.heap.setIfInBounds i.blk o' }, ?_, ?_⟩
 ·simp only [Go.setObj, Sem.run, hold]
 ·exact hs.turn hi hm o o' hr (by simp [hlt]) (fun k hk => by simp [Array.getElem?_setIfInBounds, Ne.symm hk]) (by simp) rfl rfl rfl
theorem good_next (hs : Sim C base ι h w) (hρ : OpdRep ι e ρ) {x : Operand} {a : Opd} (ha : copd x = some a) {v : Value} {h' : Heap}
 (hi : iop (.next a) e h = some (v, h')) : Good C base P ρ (.next x true) ι h w v h' := by
 simp only [iop] at hi
 split at hi
 case h_2 => cases hi
 rename_i b hx0
 obtain ⟨i, hι, hx⟩ := rep_ptr (hx0 ▸ hρ.1 _ _ ha)
 split at hi
 case h_2 => cases hi
 rename_i s pos hb
 obtain ⟨o', ho', hr⟩ := hs.blk b _ i hb hι
 cases o' <;> simp only [BRel] at hr
 rename_i s' p'
 obtain ⟨hbase, hsh, rfl, rfl⟩ := hr
 have hg : (getObj i.blk).run P w = .ok (.stringIter s pos) w := by simp [getObj, Sem.run, ho']
 have hx' : ρ x = .pointer (some ⟨i.blk, 0, none⟩) := by rw [hx, hsh]
 split at hi
 ·rename_i hlt
  cases hi
  obtain ⟨w', hrun, hs', he'⟩ := hs.setObj (P := P) hι (by unfold mine; rw [hb]; trivial) (.siter s (pos + (Utf8.decode s pos).2)) (o' := .stringIter s (pos + (Utf8.decode s pos).2)) ho' (by simp) ⟨hbase, hsh, rfl, rfl⟩
  refine ⟨_, w', ι, fun o ho => .inl ?_, hs', he', nofun, rep_tup3 (.bool _) (.int _ _) (.int _ _)⟩
  simp [execOp, ho, hx', Instr.next, hg, hlt, hrun, goInt]
 ·rename_i hlt
  cases hi
  refine good_pure hs (fun o ho => ?_) (rep_tup1 (.bool _))
  simp [execOp, ho, hx', Instr.next, hg, hlt]
theorem good_store (hs : Sim C base ι h w) (hρ : OpdRep ι e ρ) {t : TypeId} {n : Nat} {x y : Operand} {a b : Opd} (hz : tsize P t = some n) (ha : copd x = some a) (hb : copd y = some b) {v : Value} {h' : Heap}
 (hi : iop (.store n a b) e h = some (v, h')) : Good C base P ρ (.store t x y) ι h w v h' := by
 simp only [iop] at hi
 have hy := hρ.1 _ _ hb
 split at hi
 case h_2 => cases hi
 rename_i bk o hx0
 obtain ⟨i, hι, hx⟩ := rep_ptr (hx0 ▸ hρ.1 _ _ ha)
 split at hi
 case h_2 => cases hi
 rename_i vs hvs
 split at hi
 case isFalse => cases hi
 rename_i hlen
 obtain ⟨h1, hw, hp⟩ := opt_map hi
 cases hp
 have hr := rep_cellsOf hy hvs
 obtain ⟨w', hrun, hs', he'⟩ := hs.write P hι hr hw
 refine ⟨undef, w', ι, fun o ho => .inr ⟨?_, rfl⟩, hs', he', nofun, .tuple rfl (fun k v v' h => by simp at h)⟩
 have hl : (ρ y).cells.size = n := by have := hr.1; simp at this; omega
 simp [execOp, ho, Instr.storeAt, hx, Instr.sureAddr, storeVar, run_sizeOf' hz, hl, hrun]
theorem good_clear (hs : Sim C base ι h w) (hρ : OpdRep ι e ρ) {t el : TypeId} {ts : Array TypeId} {ts' : List TypeId} {z : List Value} {x : Operand} {a : Opd} (hts : ts.toList = t :: ts') (hu : P.underlying t = some (.slice el)) (hz : zcells P el = some z) (ha : copd x = some a) {v : Value} {h' : Heap}
 (hi : iop (.clear z a) e h = some (v, h')) : Good C base P ρ (.call { callee := .builtin .clear, args := #[x], argTypes := ts }) ι h w v h' := by
 obtain ⟨ii, zv, hi', hzv, rfl, hzl, hzr, hzc, hz0⟩ := zcells_spec (ι := ι) hz
 simp only [iop] at hi
 have hx := hρ.1 _ _ ha
 have hts0 : ts[0]? = some t := by rw [← Array.getElem?_toList, hts]; rfl
 have exec : ∀ (o : Oper), o.op = .call { callee := .builtin .clear, args := #[x], argTypes := ts } → ∀ v' w', (Builtin.clear_ ts o.type #[ρ x]).run P w = .ok v' w' → (execOp ρ o).run P w = .ok (.value v') w' := by
  intro o ho v' w' hr
  simp [execOp, ho, resolve, invoke, builtin, hr]
 have hrun0 := run_underlying hu
 split at hi
 ·rename_i l c hx0
  cases hi
  rw [hx0] at hx
  refine ⟨.tuple #[], w, ι, fun o ho => .inl (exec o ho _ _ ?_), hs, .refl _ _ _, nofun, .tuple rfl (fun k v v' h => by simp at h)⟩
  obtain ⟨q, hq⟩ : ∃ q : Value, q = ρ x := ⟨_, rfl⟩
  rw [← hq] at hx ⊢
  cases hx
  simp [Builtin.clear_, hts0, hrun0]
 ·rename_i b o len c hx0
  rw [hx0] at hx
  obtain ⟨a', c', i, hxe, hι, hlc, _, ha', _⟩ := rep_slice hx
  split at hi
  ·rename_i hl0
   subst hl0
   cases hi
   refine ⟨.tuple #[], w, ι, fun o ho => .inl (exec o ho _ _ ?_), hs, .refl _ _ _, nofun, .tuple rfl (fun k v v' h => by simp at h)⟩
   rw [hxe]
   simp [Builtin.clear_, hts0, hrun0]
  ·rename_i hl0
   obtain ⟨h1, hw, hp⟩ := opt_map hi
   cases hp
   obtain ⟨w', hrun, hs', he'⟩ := hs.write P hι (repC_flat hzr len) hw
   have haa := ha' (by omega)
   subst haa
   refine ⟨.tuple #[], w', ι, fun o ho => .inl (exec o ho _ _ ?_), hs', he', nofun, .tuple rfl (fun k v v' h => by simp at h)⟩
   rw [hxe]
   have hcells : (Builtin.zeroCells zv.cells len).toList = (List.replicate len zv.cells.toList).flatten := by
    by_cases h0 : zv.cells.size = 0
    ·have : zv.cells = #[] := Array.size_eq_zero_iff.1 h0
     simp [Builtin.zeroCells, this]
    ·exact madeCells_list (Nat.pos_of_ne_zero h0) len
   cases len with
   | zero => exact (hl0 rfl).elim
   | succ len =>
    simp only [Builtin.clear_, hts0]
    simp [hrun0, hz0, hcells, hrun]
 ·cases hi
end Go.Idl
end

section
namespace Go.Idl
variable {C : Nat → IC → Code → Prop} {base : Nat} {ι : Inj} {h : Heap} {w : World} {P : Program} {ρ : Operand → Value} {e : Env}
theorem bndV_spec {hi n : Nat} {v v' : Value} (hb : bndV 0 hi v = some n) (hr : Rep ι v v') : n ≤ hi ∧ ∀ y, hi ≤ y → ∀ code w, (Instr.sliceBound v' y code).run P w = .ok n w := by
 unfold bndV at hb
 split at hb
 case h_2 => cases hb
 split at hb
 case isFalse => cases hb
 rename_i k i hc
 cases hb
 have hv := rep_int hr
 refine ⟨by omega, fun y hy code w => ?_⟩
 have h1 : (0 : Int) ≤ i := by simpa using hc.1
 have h2 : i ≤ (y : Int) := by omega
 simp [Instr.sliceBound, hv, asIntOf, h1, h2]
theorem bndO_spec (hρ : OpdRep ι e ρ) {hi dflt n : Nat} {o : Option Operand} {q : Option Opd} (hq : copdO o = some q) (hb : bndO e 0 hi dflt q = some n) :
 (o = none ∧ n = dflt) ∨ ∃ x, o = some x ∧ n ≤ hi ∧ ∀ y, hi ≤ y → ∀ code w, (Instr.sliceBound (ρ x) y code).run P w = .ok n w := by
 cases o with
 | none => simp [copdO] at hq; subst hq; simp [bndO] at hb; exact .inl ⟨rfl, hb.symm⟩
 | some x =>
  simp only [copdO] at hq
  obtain ⟨a, ha, rfl⟩ := opt_map hq
  simp only [bndO] at hb
  obtain ⟨h1, h2⟩ := bndV_spec (P := P) hb (hρ.1 _ _ ha)
  exact .inr ⟨x, rfl, h1, h2⟩
theorem run_bounds_str (hρ : OpdRep ι e ρ) {n b a : Nat} {lo hi : Option Operand} {ql qh : Option Opd} (hl : copdO lo = some ql) (hh : copdO hi = some qh) (h1 : bndO e 0 n n qh = some b) (h2 : bndO e 0 b 0 ql = some a) (isSl : Bool) (c : Nat) (hc : n ≤ c) (w : World) :
 (Instr.sliceBounds isSl n c (lo.map ρ) (hi.map ρ) none).run P w = .ok (a, b, c) w ∧ a ≤ b ∧ b ≤ n := by
 have h3 := bndO_spec (P := P) hρ hh h1
 have h4 := bndO_spec (P := P) hρ hl h2
 have hbn : b ≤ n := by rcases h3 with ⟨_, rfl⟩ | ⟨_, _, h, _⟩ <;> omega
 have hab : a ≤ b := by rcases h4 with ⟨_, rfl⟩ | ⟨_, _, h, _⟩ <;> omega
 refine ⟨?_, hab, hbn⟩
 rcases h3 with ⟨rfl, rfl⟩ | ⟨x, rfl, _, hx⟩ <;> rcases h4 with ⟨rfl, rfl⟩ | ⟨y, rfl, _, hy⟩
 ·simp [Instr.sliceBounds]
 ·simp [Instr.sliceBounds, hy _ (Nat.le_refl _)]
 ·simp [Instr.sliceBounds, hx _ hc]
 ·simp [Instr.sliceBounds, hx _ hc, hy _ (Nat.le_refl _)]
theorem good_sub_str (hs : Sim C base ι h w) (hρ : OpdRep ι e ρ) {t : TypeId} {x : Operand} {a : Opd} {lo hi : Option Operand} {ql qh : Option Opd} {mx : Option Operand} {qm : Option Opd} (hu : P.underlying t = some .string) (ha : copd x = some a)
 (hl : copdO lo = some ql) (hh : copdO hi = some qh) (hm : copdO mx = some qm) {v : Value} {h' : Heap} (hi' : iop (.sub .str a ql qh qm) e h = some (v, h')) : Good C base P ρ (.slice t x lo hi mx) ι h w v h' := by
 simp only [iop] at hi'
 have hx := hρ.1 _ _ ha
 generalize ev e a = p at *
 cases p <;> (try dsimp only at hi') <;> try cases hi'
 rename_i s
 split at hi'
 case h_2 => cases hi'
 rename_i b hb
 split at hi'
 case h_2 => cases hi'
 rename_i k hk
 split at hi'
 case h_2 => cases hi'
 cases hi'
 have hmn : mx = none := by cases mx with | none => rfl | some m => simp [copdO] at hm
 subst hmn
 have hx' := rep_string hx
 obtain ⟨hrun, hab, hbn⟩ := run_bounds_str (P := P) hρ hl hh hb hk false s.size (Nat.le_refl _) w
 refine good_pure hs (v' := .string (s.extract k b)) (fun o ho => ?_) (.string _)
 simp [execOp, ho, hx', Instr.sliceAt, run_underlying hu, Instr.slice, hrun]
theorem okSz_spec (hs : Sim C base ι h w) {b size : Nat} {i : BI} (hi : ι b = some i) (ho : okSz h b size = true) : i.esz = 0 ∨ i.esz = size := by
 unfold okSz at ho
 split at ho
 ·rename_i cs own esz hb
  obtain ⟨o', ho', hr⟩ := hs.blk b _ i hb hi
  cases o' <;> simp only [BRel] at hr
  simp at ho
  rw [hr.2.2.2.1]; exact ho
 ·cases ho
theorem rep_sub {bk o len cap c' l b m size : Nat} {i : BI} {a' : Addr} {mx : Option Nat} (hι : ι bk = some i) (hlb : l ≤ b) (hbl : b ≤ len) (hlc : len ≤ c') (hex : cap = len → c' = len)
 (had : c' ≠ 0 → a' = ⟨i.blk, o + i.sh, none⟩) (hes : 0 < i.esz → c' ≠ 0 → o + i.sh + c' * i.esz ≤ i.top) (hsz : i.esz = 0 ∨ i.esz = size) (hm : (mx = none ∧ m = c') ∨ (mx = some m ∧ b ≤ m ∧ m ≤ len)) :
 Rep ι (subSl size len cap l b mx (some ⟨bk, o, none⟩)) (.slice (if m = l then some a' else (some a').map (·.add (l * size))) (b - l) (m - l)) := by
 have hbm : b ≤ m := by rcases hm with ⟨_, rfl⟩ | ⟨_, h, _⟩ <;> omega
 have hmc : m ≤ c' := by rcases hm with ⟨_, rfl⟩ | ⟨_, _, h⟩ <;> omega
 obtain ⟨a2, ha2, ha3⟩ : ∃ a2, (if m = l then some a' else (some a').map (·.add (l * size))) = some a2 ∧ (m ≠ l → a2 = a'.add (l * size)) := by
  by_cases e : m = l
  ·exact ⟨a', by rw [if_pos e], fun h => absurd e h⟩
  ·exact ⟨a'.add (l * size), by rw [if_neg e]; rfl, fun _ => rfl⟩
 rw [ha2]
 simp only [subSl, Option.map_some]
 refine Rep.slice hι (by omega) (fun hcap => ?_) (fun hne => ?_) (fun h1 h2 => ?_)
 ·rcases hm with ⟨rfl, rfl⟩ | ⟨rfl, h1, h2⟩
  ·simp only at hcap
   split at hcap
   ·rename_i hc; have := hex hc.1; omega
   ·omega
  ·simp only at hcap
   split at hcap
   ·omega
   ·omega
 ·rw [ha3 (by omega), had (by omega), addr_add]
  congr 1; omega
 ·have h3 := hes h1 (by omega)
  have h4 : l * size + (m - l) * i.esz ≤ c' * i.esz := by
   rcases hsz with h | h
   ·omega
   ·rw [← h, ← Nat.add_mul]; exact Nat.mul_le_mul_right _ (by omega)
  omega
theorem good_sub_sl (hs : Sim C base ι h w) (hρ : OpdRep ι e ρ) {t el : TypeId} {size : Nat} {x : Operand} {a : Opd} {lo hi : Option Operand} {ql qh : Option Opd} {mx : Option Operand} {qm : Option Opd} (hu : P.underlying t = some (.slice el)) (hz : tsize P el = some size) (ha : copd x = some a)
 (hl : copdO lo = some ql) (hh : copdO hi = some qh) (hm : copdO mx = some qm) {v : Value} {h' : Heap} (hi' : iop (.sub (.sl size) a ql qh qm) e h = some (v, h')) : Good C base P ρ (.slice t x lo hi mx) ι h w v h' := by
 simp only [iop] at hi'
 have hx := hρ.1 _ _ ha
 generalize ev e a = p at *
 cases p <;> (try dsimp only at hi') <;> try cases hi'
 rename_i ad len cap
 split at hi'
 case h_1 => cases hi'
 rename_i m hmm
 split at hi'
 case h_2 => cases hi'
 rename_i b hb
 split at hi'
 case h_2 => cases hi'
 rename_i l hlo
 split at hi'
 case isTrue => cases hi'
 rename_i hok
 simp at hok
 cases hi'
 obtain ⟨hok1, hok2⟩ := hok
 have run0 : ∀ (A : Option Addr) (c' m' : Nat), (Instr.sliceBounds true len c' (lo.map ρ) (hi.map ρ) (mx.map ρ)).run P w = .ok (l, b, m') w → ρ x = .slice A len c' →
  ∀ o : Oper, o.op = .slice t x lo hi mx → (execOp ρ o).run P w = .ok (.value (.slice (if m' = l then A else A.map (·.add (l * size))) (b - l) (m' - l))) w := by
  intro A c' m' hr hxx o ho
  simp [execOp, ho, hxx, Instr.sliceAt, run_underlying hu, Instr.slice, hr, run_sizeOf' hz]
 have bounds : ∀ c', len ≤ c' → ∃ m', (Instr.sliceBounds true len c' (lo.map ρ) (hi.map ρ) (mx.map ρ)).run P w = .ok (l, b, m') w ∧ l ≤ b ∧ b ≤ len ∧ ((m = none ∧ m' = c') ∨ (m = some m' ∧ b ≤ m' ∧ m' ≤ len)) := by
  intro c' hc
  cases mx with
  | none =>
   simp [copdO] at hm; subst hm
   simp at hmm; subst hmm
   obtain ⟨hrun, hab, hbn⟩ := run_bounds_str (P := P) hρ hl hh hb hlo true c' hc w
   exact ⟨c', hrun, hab, hbn, .inl ⟨rfl, rfl⟩⟩
  | some mo =>
   simp only [copdO] at hm
   obtain ⟨ma, hma, rfl⟩ := opt_map hm
   obtain ⟨mn, hmn, rfl⟩ := opt_map hmm
   obtain ⟨g1, g2⟩ := bndV_spec (P := P) hmn (hρ.1 _ _ hma)
   simp only [Option.getD_some] at hb
   have h3 := bndO_spec (P := P) hρ hh hb
   have h4 := bndO_spec (P := P) hρ hl hlo
   have hhi : ∃ y, hi = some y := by
    cases hi with
    | none => simp [copdO] at hh; subst hh; simp at hok1
    | some y => exact ⟨y, rfl⟩
   obtain ⟨y, rfl⟩ := hhi
   rcases h3 with ⟨h, _⟩ | ⟨y', hy, hbm, hrb⟩
   ·cases h
   cases hy
   have hab : l ≤ b := by rcases h4 with ⟨_, rfl⟩ | ⟨_, _, h, _⟩ <;> omega
   refine ⟨mn, ?_, hab, by omega, .inr ⟨rfl, hbm, g1⟩⟩
   rcases h4 with ⟨rfl, rfl⟩ | ⟨z, rfl, _, hz'⟩
   ·simp [Instr.sliceBounds, g2 _ hc, hrb _ (Nat.le_refl _)]
   ·simp [Instr.sliceBounds, g2 _ hc, hrb _ (Nat.le_refl _), hz' _ (Nat.le_refl _)]
 cases ad with
 | none =>
  obtain ⟨hx', rfl, rfl⟩ := rep_nilsl hx
  obtain ⟨m', hrun, hab, hbn, hmm'⟩ := bounds 0 (Nat.le_refl _)
  have hb0 : b = 0 := by omega
  have hl0 : l = 0 := by omega
  have hm0 : m' = 0 := by rcases hmm' with ⟨_, rfl⟩ | ⟨_, _, h⟩ <;> omega
  subst hb0; subst hl0; subst hm0
  have := run0 none 0 0 hrun hx'
  refine good_pure hs this ?_
  have : subSl size 0 0 0 0 m none = .slice none 0 0 := by
   rcases hmm' with ⟨rfl, _⟩ | ⟨rfl, _⟩ <;> simp [subSl]
  rw [this]; exact .snil
 | some ad =>
  obtain ⟨bk, o, sp⟩ := ad
  have hsp : sp = none := by generalize ρ x = u at hx; cases hx; rfl
  subst hsp
  obtain ⟨a', c', i, hx', hι, hle, hex, had, hes⟩ := rep_slice hx
  obtain ⟨m', hrun, hab, hbn, hmm'⟩ := bounds c' hle
  exact good_pure hs (run0 (some a') c' m' hrun hx') (rep_sub hι hab hbn hle hex had hes (okSz_spec hs hι (by simpa [okSzO] using hok2)) hmm')
theorem good_sub_ar (hs : Sim C base ι h w) (hρ : OpdRep ι e ρ) {t el : TypeId} {n size : Nat} {x : Operand} {a : Opd} {lo hi : Option Operand} {ql qh : Option Opd} {mx : Option Operand} {qm : Option Opd} (hu : P.underlying t = some (.array n el)) (hz : tsize P el = some size) (ha : copd x = some a)
 (hl : copdO lo = some ql) (hh : copdO hi = some qh) (hm : copdO mx = some qm) {v : Value} {h' : Heap} (hi' : iop (.sub (.ar n size) a ql qh qm) e h = some (v, h')) : Good C base P ρ (.slice t x lo hi mx) ι h w v h' := by
 simp only [iop] at hi'
 have hx := hρ.1 _ _ ha
 generalize ev e a = p at *
 cases p <;> (try dsimp only at hi') <;> try cases hi'
 rename_i ad
 cases ad with
 | none => cases hi'
 | some ad =>
  obtain ⟨bk, o, sp⟩ := ad
  have hsp : sp = none := by generalize ρ x = u at hx; cases hx; rfl
  subst hsp
  dsimp only at hi'
  split at hi'
  case h_2 => cases hi'
  rename_i b hb
  split at hi'
  case h_2 => cases hi'
  rename_i l hlo
  split at hi'
  case h_2 => cases hi'
  split at hi'
  case isFalse => cases hi'
  rename_i hok
  cases hi'
  have hmn : mx = none := by cases mx with | none => rfl | some m => simp [copdO] at hm
  subst hmn
  obtain ⟨i, hι, hx'⟩ := rep_ptr hx
  obtain ⟨hrun, hab, hbn⟩ := run_bounds_str (P := P) hρ hl hh hb hlo false n (Nat.le_refl _) w
  have hez : i.esz = 0 := by have := okSz_spec hs hι hok; omega
  have := rep_sub (size := size) (o := o) (a' := ⟨i.blk, o + i.sh, none⟩) hι hab hbn (Nat.le_refl _) (cap := n) (fun _ => rfl) (fun _ => rfl) (fun h _ => by omega) (.inl hez) (mx := none) (.inl ⟨rfl, rfl⟩)
  refine good_pure hs (fun o ho => ?_) this
  simp [execOp, ho, hx', Instr.sliceAt, run_underlying hu, Instr.sureAddr, hrun, run_sizeOf' hz]
  split <;> rfl
theorem skOf_keyT {t : TypeId} {s : SK} (h : skOf P t = some s) {v : Value} (hv : fit1 s v = true) (b : Bool) (n : Nat) (w : World) : (Instr.checkKey b (n + 1) t v).run P w = .ok () w := by
 obtain ⟨d, hd, hh⟩ := skOf_spec h
 rcases hh with ⟨rfl, rfl⟩ | ⟨k, rfl, rfl⟩ | ⟨rfl, rfl⟩ <;> simp [Instr.checkKey, run_underlying hd]
theorem run_checkFields (b : Bool) (n : Nat) (xs : Array Value) : ∀ (fs : List Field) (m : Nat) (ks : List SK), flatFields P fs m = some ks → fitL ks (xs.toList.drop m) = true →
 ∀ w, (forIn fs PUnit.unit fun (f : Field) (_ : PUnit) => (do
  if f.name ≠ "_" then do
   let v ← part f.type xs f.offset
   Instr.checkKey b (n + 1) f.type v
   pure (ForInStep.yield PUnit.unit)
  else pure (ForInStep.yield PUnit.unit) : Sem (ForInStep PUnit))).run P w = .ok PUnit.unit w
 | [], m, ks, hf, hx, w => by simp
 | f :: fs, m, ks, hf, hx, w => by
  simp only [flatFields] at hf
  split at hf
  case h_2 => cases hf
  rename_i s ss h1 h2
  split at hf
  case isFalse => cases hf
  rename_i hc
  simp at hc
  cases hf
  obtain ⟨⟨hn, ho⟩, _⟩ := hc
  cases hxs : xs.toList.drop m with
  | nil => simp [hxs, fitL] at hx
  | cons x xt =>
   have hx0 : xs.toList[m]? = some x := by have := congrArg (·[0]?) hxs; simpa using this
   have hxt : xs.toList.drop (m + 1) = xt := by rw [← List.drop_drop, hxs]; rfl
   rw [hxs] at hx
   simp [fitL] at hx
   have ih := run_checkFields b n xs fs (m + 1) ss h2 (by rw [hxt]; exact hx.2) w
   have p1 := skOf_part h1 hx0 w
   subst ho
   simp only [List.forIn_cons, Sem.run_bind, ne_eq, hn, not_false_eq_true, if_true, p1, Result.andThen_ok, skOf_keyT h1 hx.1, Sem.run_pure]
   exact ih
theorem key_spec {kt : TypeId} {kk : KK} (hk : kkOf P kt = some kk) {v v' : Value} {ks : List Value} (hv : keyOf kk v = some ks) (hr : Rep ι v v') :
 v' = v ∧ cellsV v = ks ∧ ∀ b w, (Instr.checkKey b 10000 kt v).run P w = .ok () w := by
 unfold kkOf at hk
 split at hk
 ·rename_i s hs
  cases hk
  simp only [keyOf] at hv
  split at hv
  case isFalse => cases hv
  rename_i hf
  cases hv
  refine ⟨fit1_rep hf hr, ?_, fun b w => skOf_keyT hs hf b 9999 w⟩
  cases v <;> simp_all [cellsV, fit1]
 ·obtain ⟨ss, hss, rfl⟩ := opt_map hk
  cases v <;> simp only [keyOf, reduceCtorEq] at hv
  rename_i cs
  split at hv
  case isFalse => cases hv
  rename_i hf
  cases hv
  obtain ⟨cs', hv', hrc⟩ := rep_aggL hr
  have e := fitL_rep hf hrc.toL
  have e' : cs' = cs := Array.ext' e
  subst e'
  refine ⟨hv', rfl, fun b w => ?_⟩
  obtain ⟨fs, hu, hff, _, _⟩ := structSK_spec hss
  have g : ∀ n, (Instr.checkKey b (n + 1 + 1) kt (.agg cs')).run P w = .ok () w := by
   intro n
   have := run_checkFields (P := P) b n cs' fs.toList 0 ss hff (by simpa using hf) w
   unfold Instr.checkKey
   simp only [Sem.run_bind, run_underlying hu, Result.andThen_ok]
   rw [← Array.forIn_toList, this]
   rfl
  exact g 9998
theorem bytes_beq (a b : ByteArray) : (a == b) = decide (a = b) := by rw [beq_toListBytes, string_eq_iff]
def srch (ks : List Value) : List MapEntry → Nat → Option (Nat × Value)
 | [], _ => none
 | x :: es, n => if seqL ks (cellsV x.key) then some (n, x.val) else srch ks es (n + 1)
theorem findNow_spec {kt : TypeId} {s : SK} {d : TypeDesc} (hu : P.underlying kt = some d) (hs : skOf P kt = some s) {k : Value} (hk : fit1 s k = true) :
 ∀ (es' : List MapEntry) (n : Nat), (∀ x ∈ es', fit1 s x.key = true) → Instr.findNow d k es' n = some (srch [k] es' n)
 | [], n, _ => rfl
 | x :: es', n, hf => by
  have hfa := hf x (by simp)
  have hsame : Instr.sameNow d k x.key = some (seqL [k] (cellsV x.key)) := by
   obtain ⟨dd, hd, h⟩ := skOf_spec hs
   rw [hu] at hd; cases hd
   obtain ⟨xk, xv, xb⟩ := x
   simp only at hfa ⊢
   rcases h with ⟨rfl, rfl⟩ | ⟨q, rfl, rfl⟩ | ⟨rfl, rfl⟩ <;> cases k <;> simp [fit1] at hk <;> cases xk <;> simp [fit1] at hfa
   ·simp [Instr.sameNow, cellsV, seqL, seq1]
   ·simp [Instr.sameNow, cellsV, seqL, seq1, ← hk, ← hfa]
   ·simp [Instr.sameNow, cellsV, seqL, seq1, bytes_beq]
  simp only [Instr.findNow, srch, hsame]
  cases hq : seqL [k] (cellsV x.key) with
  | true => rfl
  | false => simpa using findNow_spec hu hs hk es' (n + 1) (fun y hy => hf y (by simp [hy]))
theorem findAsking_spec {kt : TypeId} {ss : List SK} (hs : structSK P kt = some ss) {cs : Array Value} (hk : fitL ss cs.toList = true) :
 ∀ (es' : List MapEntry) (n : Nat), (∀ x ∈ es', ∃ ys, x.key = .agg ys ∧ fitL ss ys.toList = true) → (Instr.findAsking kt (.agg cs) es' n).run P w = .ok (srch cs.toList es' n) w
 | [], n, _ => by simp [Instr.findAsking, srch]
 | x :: es', n, hf => by
  obtain ⟨ys, hx, hys⟩ := hf x (by simp)
  have h1 : (Op.equal kt (.agg cs) x.key).run P w = .ok (seqL cs.toList ys.toList) w := by
   rw [hx]; exact run_equalIn_structSK hs hk hys 9998 w
  have ih := findAsking_spec hs hk es' (n + 1) (fun y hy => hf y (by simp [hy]))
  rw [hx] at h1
  simp only [Instr.findAsking, Sem.run_bind, hx, h1, Result.andThen_ok, srch, cellsV]
  cases hq : seqL cs.toList ys.toList with
  | true => simp
  | false => simpa using ih
theorem findKey_spec {kt : TypeId} {kk : KK} (hkk : kkOf P kt = some kk) {k : Value} {ks : List Value} (hk : keyOf kk k = some ks) (es' : List MapEntry) (hf : ∀ x ∈ es', ∃ ys, keyOf kk x.key = some ys) :
 (Instr.findKey kt k es').run P w = .ok (srch ks es' 0) w := by
 unfold kkOf at hkk
 split at hkk
 ·rename_i s hs
  cases hkk
  obtain ⟨d, hd, _⟩ := skOf_spec hs
  simp only [keyOf] at hk
  split at hk
  case isFalse => cases hk
  rename_i hfk
  cases hk
  have := findNow_spec hd hs hfk es' 0 (fun x hx => by
   obtain ⟨ys, hy⟩ := hf x hx
   simp only [keyOf] at hy
   split at hy
   ·assumption
   ·cases hy)
  simp [Instr.findKey, run_underlying hd, this]
 ·obtain ⟨ss, hss, rfl⟩ := opt_map hkk
  obtain ⟨fs, hu, _⟩ := structSK_spec hss
  cases k <;> simp only [keyOf, reduceCtorEq] at hk
  rename_i cs
  split at hk
  case isFalse => cases hk
  rename_i hfk
  cases hk
  have := findAsking_spec (w := w) hss hfk es' 0 (fun x hx => by
   obtain ⟨ys, hy⟩ := hf x hx
   generalize x.key = q at hy ⊢
   cases q <;> simp only [keyOf, reduceCtorEq] at hy
   split at hy
   ·exact ⟨_, rfl, by assumption⟩
   ·cases hy)
  cases es' with
  | nil => simp [Instr.findKey, run_underlying hu, Instr.findNow, srch]
  | cons x es' => simp [Instr.findKey, run_underlying hu, Instr.findNow, Instr.sameNow, this]
theorem srch_spec (ks : List Value) (kv v : Value) : ∀ (es : List (Value × Value)) (es' : List MapEntry) (n : Nat), es.length = es'.length → (∀ (j : Nat) a u x, es[j]? = some (a, u) → es'[j]? = some x → x.key = a) →
 (findK ks es = none ∧ srch ks es' n = none ∧ setK ks kv v es = es ++ [(kv, v)]) ∨
 (∃ j a u x, es[j]? = some (a, u) ∧ es'[j]? = some x ∧ findK ks es = some u ∧ srch ks es' n = some (n + j, x.val) ∧ setK ks kv v es = es.set j (kv, v) ∧ seqL ks (cellsV a) = true)
 | [], [], n, _, _ => .inl ⟨rfl, rfl, rfl⟩
 | [], _ :: _, _, hl, _ => by simp at hl
 | _ :: _, [], _, hl, _ => by simp at hl
 | (a, u) :: es, x :: es', n, hl, hr => by
  have hxa := hr 0 a u x rfl rfl
  cases hq : seqL ks (cellsV a) with
  | true => exact .inr ⟨0, a, u, x, rfl, rfl, by simp [findK, hq], by simp [srch, hxa, hq], by simp [setK, hq], hq⟩
  | false =>
   rcases srch_spec ks kv v es es' (n + 1) (by simpa using hl) (fun j a u y h1 h2 => hr (j + 1) a u y (by simpa using h1) (by simpa using h2)) with ⟨h1, h2, h3⟩ | ⟨j, b, t, y, h1, h2, h3, h4, h5, h6⟩
   ·exact .inl ⟨by simp [findK, hq, h1], by simp [srch, hxa, hq, h2], by simp [setK, hq, h3]⟩
   ·refine .inr ⟨j + 1, b, t, y, by simpa using h1, by simpa using h2, by simp [findK, hq, h3], ?_, by simp [setK, hq, h5], h6⟩
    simp only [srch, hxa, hq, Bool.false_eq_true, if_false, h4]
    rw [show n + 1 + j = n + (j + 1) by omega]
theorem good_lookup (hs : Sim C base ι h w) (hρ : OpdRep ι e ρ) {t kt et : TypeId} {kk : KK} {z : Value} {ok : Bool} {x y : Operand} {a b : Opd} (hu : P.underlying t = some (.map kt et)) (hkk : kkOf P kt = some kk)
 (hz : (P.info? et).bind (·.zero) = some z) (hc : constOk z = true) (ha : copd x = some a) (hb : copd y = some b) {v : Value} {h' : Heap} (hi : iop (.lookup kk z ok a b) e h = some (v, h')) :
 Good C base P ρ (.lookup t x y ok) ι h w v h' := by
 simp only [iop] at hi
 have hx := hρ.1 _ _ ha
 have hy := hρ.1 _ _ hb
 generalize ev e a = p at *
 generalize ev e b = q at *
 have hzero : ∀ w, (zeroValue et).run P w = .ok z w := by
  intro w
  cases hq : P.info? et with
  | none => simp [hq] at hz
  | some i => simp [hq] at hz; simp [zeroValue, typeInfo, hq, hz]
 split at hi
 case h_2 => cases hi
 rename_i es ks hes hks
 obtain ⟨hyv, hcv, hck⟩ := key_spec (P := P) hkk hks hy
 obtain ⟨es', hget, hlen, hkeys, hfit⟩ : ∃ (es' : Array MapEntry), ((ρ x = .map none ∧ es' = #[]) ∨ ∃ r clock, ρ x = .map (some r) ∧ (getObj r).run P w = .ok (.map es' clock) w) ∧ es.length = es'.toList.length ∧
  (∀ (j : Nat) a u x, es[j]? = some (a, u) → es'.toList[j]? = some x → x.key = a ∧ Rep ι u x.val) ∧ (∀ x ∈ es'.toList, ∃ ys, keyOf kk x.key = some ys) := by
  split at hes
  ·cases hes
   have hx' := rep_nilmap hx
   exact ⟨#[], .inl ⟨hx', rfl⟩, rfl, fun j a u x h => by simp at h, fun x h => by simp at h⟩
  ·rename_i bk
   split at hes
   case h_2 => cases hes
   rename_i kk' es0 hbk
   split at hes
   case isFalse => cases hes
   rename_i hkk'
   subst hkk'
   cases hes
   obtain ⟨i, hι, hx'⟩ := rep_map hx
   obtain ⟨o', ho', hr⟩ := hs.blk bk _ i hbk hι
   cases o' <;> simp only [BRel] at hr
   rename_i es' clock
   obtain ⟨_, hfit, hl, hkr⟩ := hr
   have hg : (getObj i.blk).run P w = .ok (.map es' clock) w := by simp [getObj, Sem.run, ho']
   refine ⟨es', .inr ⟨_, clock, hx', hg⟩, by simpa using hl, fun j a u x h1 h2 => hkr j a u x h1 (by simpa using h2), fun x hxm => ?_⟩
   obtain ⟨j, hj⟩ := List.getElem?_of_mem hxm
   have hj' : j < es.length := by rw [hl]; simpa using (List.getElem?_eq_some_iff.1 hj).1
   obtain ⟨au, hau⟩ : ∃ au, es[j]? = some au := ⟨_, List.getElem?_eq_getElem hj'⟩
   have := (hkr j au.1 au.2 x hau (by simpa using hj)).1
   rw [this]
   exact hfit au (List.mem_of_getElem? hau)
  ·cases hes
 have hfk := findKey_spec (w := w) hkk hks es'.toList hfit
 have run0 : ∀ (o : Oper), o.op = .lookup t x y ok → ∀ (u : Value) (bb : Bool), ((match srch ks es'.toList 0 with
  | some (_, v) => pure (v, true)
  | none => do pure (← zeroValue et, false) : Sem (Value × Bool))).run P w = .ok (u, bb) w → (execOp ρ o).run P w = .ok (.value (if ok then .tuple #[u, .bool bb] else u)) w := by
  intro o ho u bb hr
  rcases hget with ⟨hx', rfl⟩ | ⟨r, clock, hx', hg⟩
  ·simp only [execOp, ho, Instr.lookup, Sem.run_bind, run_underlying hu, Result.andThen_ok, hx', Sem.run_pure, hyv, hck, hfk] at hr ⊢
   split at hr <;> simp_all
  ·simp only [execOp, ho, Instr.lookup, Sem.run_bind, run_underlying hu, Result.andThen_ok, hx', hg, Sem.run_pure, hyv, hck, hfk] at hr ⊢
   split at hr <;> simp_all
 rcases srch_spec ks (.int .i64 0) (.int .i64 0) es es'.toList 0 hlen (fun j a u x h1 h2 => (hkeys j a u x h1 h2).1) with ⟨h1, h2, _⟩ | ⟨j, a, u, x', h1, h2, h3, h4, _, _⟩
 ·rw [h1] at hi
  cases hi
  refine good_pure hs (v' := if ok then .tuple #[z, .bool false] else z) (fun o ho => run0 o ho z false (by simp [h2, hzero])) ?_
  cases ok
  ·exact constOk_rep hc
  ·exact rep_tup2 (constOk_rep hc) (.bool _)
 ·rw [h3] at hi
  cases hi
  refine good_pure hs (v' := if ok then .tuple #[x'.val, .bool true] else x'.val) (fun o ho => run0 o ho x'.val true (by simp [h4])) ?_
  have hr := (hkeys j a u x' h1 h2).2
  cases ok
  ·exact hr
  ·exact rep_tup2 hr (.bool _)
end Go.Idl
end

section
namespace Go.Idl
variable {C : Nat → IC → Code → Prop} {base : Nat} {ι : Inj} {h : Heap} {w : World} {P : Program} {ρ : Operand → Value} {e : Env}
theorem seq1_eq {s : SK} {x y : Value} (hx : fit1 s x = true) (hy : fit1 s y = true) (h : seq1 x y = true) : x = y := by
 cases s <;> cases x <;> simp [fit1] at hx <;> cases y <;> simp [fit1] at hy <;> simp [seq1] at h
 ·rw [← hx, ← hy, h]
 ·rw [h]
 ·rw [h]
theorem seqL_eq : ∀ {ss : List SK} {xs ys : List Value}, fitL ss xs = true → fitL ss ys = true → seqL xs ys = true → xs = ys
 | [], [], [], _, _, _ => rfl
 | [], _ :: _, _, h, _, _ => by simp [fitL] at h
 | [], [], _ :: _, _, h, _ => by simp [fitL] at h
 | _ :: _, [], _, h, _, _ => by simp [fitL] at h
 | _ :: _, _ :: _, [], _, h, _ => by simp [fitL] at h
 | s :: ss, x :: xs, y :: ys, h1, h2, h3 => by
  simp [fitL] at h1 h2
  simp [seqL] at h3
  rw [seq1_eq h1.1 h2.1 h3.1, seqL_eq h1.2 h2.2 h3.2]
theorem sameBits_scalar {s : SK} {x : Value} (h : fit1 s x = true) (n : Nat) : Instr.sameBits n x x = true := by
 cases s <;> cases x <;> simp [fit1] at h <;> simp [Instr.sameBits]
 rw [bytes_beq]; simp
theorem sameBits_key {kk : KK} {a k : Value} {as ks : List Value} (ha : keyOf kk a = some as) (hk : keyOf kk k = some ks) (h : seqL ks (cellsV a) = true) : a = k ∧ Instr.sameBits 10000 a k = true := by
 cases kk with
 | one s =>
  simp only [keyOf] at ha hk
  split at ha <;> cases ha
  split at hk <;> cases hk
  rename_i h1 h2
  have hc : cellsV a = [a] := by cases a <;> simp_all [cellsV, fit1]
  rw [hc] at h
  simp [seqL] at h
  have e := seq1_eq h2 h1 h
  exact ⟨e.symm, by rw [e]; exact sameBits_scalar h1 _⟩
 | agg ss =>
  cases a <;> simp only [keyOf, reduceCtorEq] at ha
  cases k <;> simp only [keyOf, reduceCtorEq] at hk
  rename_i xs ys
  split at ha <;> cases ha
  split at hk <;> cases hk
  rename_i h1 h2
  simp only [cellsV] at h
  have e : ys = xs := Array.ext' (seqL_eq h2 h1 h)
  subst e
  refine ⟨rfl, ?_⟩
  have gen : ∀ (ss : List SK) (l : List Value), fitL ss l = true → (l.zip l).all (fun (x, y) => Instr.sameBits 9999 x y) = true := by
   intro ss l
   induction l generalizing ss with
   | nil => intro _; rfl
   | cons x l ih =>
    intro hf
    cases ss with
    | nil => simp [fitL] at hf
    | cons s ss =>
     simp [fitL] at hf
     simp [sameBits_scalar hf.1]
     intro a b hab
     have := List.all_eq_true.1 (ih ss hf.2) (a, b) hab
     simpa using this
  have g : ∀ n, ((ys.toList.zip ys.toList).all fun (x, y) => Instr.sameBits n x y) = true → Instr.sameBits (n + 1) (.agg ys) (.agg ys) = true := by
   intro n hn
   simp only [Instr.sameBits, beq_self_eq_true, Bool.true_and]
   exact hn
  exact g 9999 (gen ss ys.toList h1)
theorem good_mapset (hs : Sim C base ι h w) (hρ : OpdRep ι e ρ) {t kt et : TypeId} {kk : KK} {x y z : Operand} {a b c : Opd} (hu : P.underlying t = some (.map kt et)) (hkk : kkOf P kt = some kk)
 (ha : copd x = some a) (hb : copd y = some b) (hc : copd z = some c) {v : Value} {h' : Heap} (hi : iop (.mapset kk a b c) e h = some (v, h')) {op : Op} (hop : op = .mapUpdate t x y z ∨ op = .insert t x y z) :
 Good C base P ρ op ι h w v h' := by
 simp only [iop] at hi
 have hx := hρ.1 _ _ ha
 have hy := hρ.1 _ _ hb
 have hz := hρ.1 _ _ hc
 generalize ev e a = p at *
 generalize ev e b = q at *
 generalize ev e c = r at *
 split at hi
 case h_2 => cases hi
 rename_i bk
 split at hi
 case h_2 => cases hi
 rename_i kk' es ks hbk hks
 split at hi
 case isFalse => cases hi
 rename_i hkk'
 subst hkk'
 cases hi
 obtain ⟨hyv, hcv, hck⟩ := key_spec (P := P) hkk hks hy
 obtain ⟨i, hι, hx'⟩ := rep_map hx
 obtain ⟨o', ho', hr⟩ := hs.blk bk _ i hbk hι
 cases o' <;> simp only [BRel] at hr
 rename_i es' clock
 obtain ⟨hbase, hfit, hl, hkr⟩ := hr
 have hg : (getObj i.blk).run P w = .ok (.map es' clock) w := by simp [getObj, Sem.run, ho']
 have hfit' : ∀ x ∈ es'.toList, ∃ ys, keyOf kk x.key = some ys := by
  intro x hxm
  obtain ⟨j, hj⟩ := List.getElem?_of_mem hxm
  have hj' : j < es.length := by rw [hl]; simpa using (List.getElem?_eq_some_iff.1 hj).1
  obtain ⟨au, hau⟩ : ∃ au, es[j]? = some au := ⟨_, List.getElem?_eq_getElem hj'⟩
  rw [(hkr j au.1 au.2 x hau (by simpa using hj)).1]
  exact hfit au (List.mem_of_getElem? hau)
 have hfk := findKey_spec (w := w) hkk hks es'.toList hfit'
 have hmine : mine h bk := by unfold mine; rw [hbk]; trivial
 have step : ∀ (es2 : Array MapEntry) (clock2 : Nat), BRel C base ι i (.map kk (setK ks q r es)) (.map es2 clock2) →
  (∀ w', (setObj i.blk (.map es2 clock2)).run P w = .ok () w' → (Instr.mapUpdate t (ρ x) (ρ y) (ρ z)).run P w = .ok () w') → Good C base P ρ op ι h w undef (h.set bk (.map kk (setK ks q r es))) := by
  intro es2 clock2 hbr hrun
  obtain ⟨w', h1, h2, h3⟩ := hs.setObj (P := P) hι hmine (.map kk (setK ks q r es)) (o' := .map es2 clock2) ho' (by simp) hbr
  refine ⟨undef, w', ι, fun o ho => .inr ⟨?_, rfl⟩, h2, h3, (fun h => by rcases hop with rfl | rfl <;> cases h), .tuple rfl (fun k v v' h => by simp at h)⟩
  rcases hop with rfl | rfl <;> simp [execOp, ho, hrun w' h1]
 have keyfit : ∃ ks', keyOf kk q = some ks' := ⟨ks, hks⟩
 rcases srch_spec ks q r es es'.toList 0 (by simpa using hl) (fun j a u x h1 h2 => (hkr j a u x h1 (by simpa using h2)).1) with ⟨h1, h2, h3⟩ | ⟨j, a0, u, x', h1, h2, h3, h4, h5, h6⟩
 ·refine step (es'.push { key := q, val := ρ z, born := clock }) (clock + 1) ?_ (fun w' hw' => ?_)
  ·rw [h3]
   refine ⟨hbase, fun p hp => ?_, by simp [hl], fun k a u x g1 g2 => ?_⟩
   ·rcases List.mem_append.1 hp with hp | hp
    ·exact hfit p hp
    ·simp at hp; subst hp; exact keyfit
   ·rw [List.getElem?_append] at g1
    rw [Array.getElem?_push] at g2
    split at g1
    ·rename_i hk
     rw [if_neg (by omega)] at g2
     exact hkr k a u x g1 g2
    ·rename_i hk
     have hkl : k = es'.size := by
      have := (List.getElem?_eq_some_iff.1 g1).1; simp at this; omega
     rw [if_pos hkl] at g2
     cases g2
     have : k - es.length = 0 := by omega
     rw [this] at g1
     simp at g1
     obtain ⟨rfl, rfl⟩ := g1
     exact ⟨rfl, hz⟩
  ·simp only [Instr.mapUpdate, Sem.run_bind, run_underlying hu, Result.andThen_ok, hx', hg, hyv, hck, hfk, h2]
   exact hw'
 ·have hx'k : x'.key = a0 := (hkr j a0 u x' h1 (by simpa using h2)).1
  obtain ⟨ks0, hks0⟩ := hfit (a0, u) (List.mem_of_getElem? h1)
  obtain ⟨heq, hsb⟩ := sameBits_key hks0 hks h6
  have hj' : es'[j]? = some x' := by simpa using h2
  refine step (es'.modify j fun e => { e with key := q, val := ρ z }) clock ?_ (fun w' hw' => ?_)
  ·rw [h5]
   refine ⟨hbase, fun p hp => ?_, by simp [hl], fun k a u x g1 g2 => ?_⟩
   ·rcases List.mem_or_eq_of_mem_set hp with hp | hp
    ·exact hfit p hp
    ·subst hp; exact keyfit
   ·rw [List.getElem?_set] at g1
    rw [Array.getElem?_modify] at g2
    by_cases hjk : j = k
    ·subst hjk
     rw [if_pos rfl] at g1 g2
     have hlt : j < es.length := (List.getElem?_eq_some_iff.1 h1).1
     rw [if_pos hlt] at g1
     cases g1
     rw [hj'] at g2
     cases g2
     exact ⟨rfl, hz⟩
    ·rw [if_neg hjk] at g1 g2
     exact hkr k a u x g1 g2
  ·simp only [Instr.mapUpdate, Sem.run_bind, run_underlying hu, Result.andThen_ok, hx', hg, hyv, hck, hfk, h4, Nat.zero_add, hj', Option.map_some, Option.getD_some, Instr.keyThatStays]
   rw [hx'k, hsb]
   simp only [if_true, Sem.run_pure, Result.andThen_ok]
   exact hw'
theorem elems_spec (hs : Sim C base ι h w) {size n : Nat} {v v' : Value} {xs : List Value} (he : elemsOf h size v = some (n, xs)) (hr : Rep ι v v') :
 xs.length = n * size ∧ (∀ w, (Builtin.lenOf v').run P w = .ok n w) ∧ ∃ ys, RepC ι xs ys ∧ ∀ w2 : World, w2.heap = w.heap → (Builtin.firstCells size n v').run P w2 = .ok ys.toArray w2 := by
 unfold elemsOf at he
 split at he
 ·cases he
  obtain ⟨hv, _, _⟩ := rep_nilsl hr
  exact ⟨by simp, fun w => by simp [hv, Builtin.lenOf], [], RepC.nil _, fun w2 _ => by simp [hv, Builtin.firstCells]⟩
 ·rename_i b o m c
  obtain ⟨a', c', i, hv, hι, hle, hex, had, _⟩ := rep_slice hr
  split at he
  ·rename_i hm
   cases he
   exact ⟨by simp, fun w => by simp [hv, Builtin.lenOf, hm], [], RepC.nil _, fun w2 _ => by simp [hv, Builtin.firstCells, loadCells, loadCellsFrom]⟩
  ·rename_i hm
   obtain ⟨cs, hcs, hp⟩ := opt_map he
   cases hp
   have ha' := had (by omega)
   subst ha'
   obtain ⟨cs', h1, h2, h3⟩ := hs.cells hι hcs
   refine ⟨h2, fun w => by simp [hv, Builtin.lenOf], cs', h1, fun w2 hw2 => ?_⟩
   rw [hv]
   exact run_firstCells_some (P := P) w2 size n _ n c' cs' (by rw [← h1.1, h2]) (fun j u hj => by
    have := h3 j u hj
    simp only [World.cell?, hw2] at this ⊢
    exact this)
 ·split at he
  case isFalse => cases he
  rename_i s hsz
  cases he
  have hv := rep_string hr
  refine ⟨by simp [bytesL, hsz], fun w => by simp [hv, Builtin.lenOf], Lib.strCells s, ?_, fun w2 _ => by rw [hv]; exact Lib.run_firstCells_string w2 size s⟩
  refine ⟨by simp [bytesL, Lib.strCells], fun k u u' h1 h2 => ?_⟩
  simp only [bytesL, Lib.strCells] at h1 h2
  rw [h1] at h2
  cases h2
  rw [List.getElem?_map] at h1
  obtain ⟨b, _, rfl⟩ := opt_map h1
  exact ⟨rfl, .int _ _⟩
 ·cases he
theorem run_append_fresh {t u ty el : TypeId} {i : TypeInfo} {z : Value} (ht : P.underlying t = some (.slice el)) (hu : (∃ q, P.underlying u = some (.slice q)) ∨ P.underlying u = some .string) (hi : P.info? el = some i) (hz : i.zero = some z)
 {base : Option Addr} {sLen sCap n : Nat} {x : Value} {olds news : List Value} (hl : ∀ w, (Builtin.lenOf x).run P w = .ok n w) (hn : (Builtin.firstCells i.size n x).run P w.drew = .ok news.toArray w.drew)
 (ho : (Builtin.firstCells i.size sLen (.slice base sLen sCap)).run P w.drew = .ok olds.toArray w.drew) (hg : sCap < sLen + n) (hb : (sLen + n) * i.bytes ≤ 140737488355328) (hby : 0 < i.bytes) :
 (Builtin.append_ #[t, u] ty #[.slice base sLen sCap, x]).run P w =
  .ok (.slice (some ⟨w.heap.size, 0, none⟩) (sLen + n) (grownCap w (sLen + n) sCap el)) (w.drew.alloc (.cells (olds.toArray ++ news.toArray ++ Builtin.zeroCells z.cells (grownCap w (sLen + n) sCap el - (sLen + n))) el)) := by
 have hnn : ¬ (sLen + n ≤ sCap) := by omega
 have hle : (sLen + n) * 1 ≤ (sLen + n) * i.bytes := Nat.mul_le_mul_left _ hby
 have h63' : ¬ (9223372036854775807 < ((sLen : Int) + (n : Int))) := by omega
 have h48 := growslice_fits (old := sCap) (need := sLen + n) (bytes := i.bytes) hg hb
 have h48' : ¬ (281474976710656 < Builtin.nextslicecap (sLen + n) sCap * i.bytes) := by omega
 rcases hu with ⟨q, hd⟩ | hd
 ·simp [Builtin.append_, run_underlying ht, run_underlying hd, sizeOf, typeInfo, zeroValue, hi, hz, hl, hnn, h63', h48', Question.forced, newRow, grownCap, ho, hn]
  simp [← Array.append_assoc]
 ·simp [Builtin.append_, run_underlying ht, run_underlying hd, sizeOf, typeInfo, zeroValue, hi, hz, hl, hnn, h63', h48', Question.forced, newRow, grownCap, ho, hn]
  simp [← Array.append_assoc]
theorem run_append_here {t u ty el : TypeId} {i : TypeInfo} (ht : P.underlying t = some (.slice el)) (hu : (∃ q, P.underlying u = some (.slice q)) ∨ P.underlying u = some .string) (hi : P.info? el = some i)
 {a : Addr} {sLen sCap n : Nat} {x : Value} {news : List Value} (hl : ∀ w, (Builtin.lenOf x).run P w = .ok n w) (hn : (Builtin.firstCells i.size n x).run P w = .ok news.toArray w)
 (hg : sLen + n ≤ sCap) {w' : World} (hst : (storeCells (a.add (sLen * i.size)) news).run P w = .ok () w') :
 (Builtin.append_ #[t, u] ty #[.slice (some a) sLen sCap, x]).run P w = .ok (.slice (some a) (sLen + n) sCap) w' := by
 rcases hu with ⟨q, hd⟩ | hd
 ·simp [Builtin.append_, run_underlying ht, run_underlying hd, sizeOf, typeInfo, hi, hl, hg, hn, hst]
 ·simp [Builtin.append_, run_underlying ht, run_underlying hd, sizeOf, typeInfo, hi, hl, hg, hn, hst]
theorem zeroCells_len (z : Array Value) (n : Nat) : (Builtin.zeroCells z n).toList.length = n * z.size := by simp [Builtin.zeroCells]
theorem good_append (hs : Sim C base ι h w) (hb : base ≤ w.heap.size) (hρ : OpdRep ι e ρ) {t u el ty : TypeId} {i : TypeInfo} {z : List Value} {x y : Operand} {a b : Opd} (ht : P.underlying t = some (.slice el))
 (hu : (∃ q, P.underlying u = some (.slice q)) ∨ P.underlying u = some .string) (hi : P.info? el = some i) (hz : zcells P el = some z) (hsz : 0 < i.size) (hby : 0 < i.bytes)
 (ha : copd x = some a) (hbb : copd y = some b) {v : Value} {h' : Heap} (hio : iop (.append i.size i.bytes a b) e h = some (v, h')) :
 Good C base P ρ (.call { callee := .builtin .append, args := #[x, y], argTypes := #[t, u] }) ι h w v h' := by
 simp only [iop] at hio
 have hx := hρ.1 _ _ ha
 have hy := hρ.1 _ _ hbb
 generalize ev e a = p at *
 generalize ev e b = q at *
 obtain ⟨i', zv, hi', hzv, rfl, hzl, _, _, _⟩ := zcells_spec (ι := ι) hz
 rw [hi] at hi'; cases hi'
 have hzs : zv.cells.size = i.size := by simpa using hzl
 have exec : ∀ (o : Oper), o.op = .call { callee := .builtin .append, args := #[x, y], argTypes := #[t, u] } → ∀ v' w', (Builtin.append_ #[t, u] o.type #[ρ x, ρ y]).run P w = .ok v' w' → (execOp ρ o).run P w = .ok (.value v') w' := by
  intro o ho v' w' hr
  simp [execOp, ho, resolve, invoke, builtin, hr]
 unfold appendV at hio
 split at hio
 case h_1 => cases hio
 rename_i n xs hel
 obtain ⟨hxl, hlen, ys, hxy, hfc⟩ := elems_spec (P := P) hs hel hy
 have hysl : ys.length = n * i.size := by rw [← hxy.1, hxl]
 have fresh : ∀ (h1 : Heap) (base0 : Option Addr) (sLen sCap : Nat) (olds olds' : List Value), Sim C base ι h1 w → Ext ι h w ι h1 w → ρ x = .slice base0 sLen sCap → RepC ι olds olds' → olds.length = sLen * i.size →
  (∀ w2 : World, w2.heap = w.heap → (Builtin.firstCells i.size sLen (.slice base0 sLen sCap)).run P w2 = .ok olds'.toArray w2) → sCap < sLen + n → (sLen + n) * i.bytes ≤ 140737488355328 → h1.next = h.next →
  Good C base P ρ (.call { callee := .builtin .append, args := #[x, y], argTypes := #[t, u] }) ι h w (.slice (some ⟨h.next, 0, none⟩) (sLen + n) (sLen + n + 1)) (h1.new (.cells (olds ++ xs) true i.size)) := by
  intro h1 base0 sLen sCap olds olds' hs1 he1 hxx hor hol hofc hg hbytes hnx
  have hge := grownCap_ge w (sLen + n) sCap el
  have hol' : olds'.length = sLen * i.size := by rw [← hor.1, hol]
  have hrow : (olds'.toArray ++ ys.toArray ++ Builtin.zeroCells zv.cells (grownCap w (sLen + n) sCap el - (sLen + n))).toList = olds' ++ ys ++ (Builtin.zeroCells zv.cells (grownCap w (sLen + n) sCap el - (sLen + n))).toList := by simp
  obtain ⟨g1, g2⟩ := (hs1.congr (w' := w.drew) rfl).new (.cells (olds ++ xs) true i.size) (.cells (olds'.toArray ++ ys.toArray ++ Builtin.zeroCells zv.cells (grownCap w (sLen + n) sCap el - (sLen + n))) el)
   ⟨w.heap.size, 0, grownCap w (sLen + n) sCap el * i.size, i.size⟩ rfl
   (fun ι' hle hι => ⟨by
    rw [← Array.length_toList, hrow, List.length_append, List.length_append, hol', hysl, zeroCells_len, hzs, ← Nat.add_mul, ← Nat.add_mul]; congr 1; omega, by
    simp only [Nat.zero_add, List.length_append, hol, hxl, ← Nat.add_mul]; exact Nat.mul_le_mul_right _ hge, by
    rw [hrow, List.drop_zero, List.take_append_of_le_length (by simp [hor.1, hxy.1]), List.take_of_length_le (by simp [hor.1, hxy.1])]
    exact (hor.append hxy).mono hle, rfl, fun _ => ⟨rfl, hb⟩, fun hq => by cases hq⟩)
   (w' := w.drew.alloc (.cells (olds'.toArray ++ ys.toArray ++ Builtin.zeroCells zv.cells (grownCap w (sLen + n) sCap el - (sLen + n))) el)) rfl rfl rfl rfl
  have g2' : Ext ι h1 w (ext1 ι h1.next _) _ _ := ⟨g2.inj, ⟨g2.keeps.os, g2.keeps.tape, g2.keeps.output, g2.keeps.size, g2.keeps.block⟩, g2.own, g2.next, g2.fresh⟩
  refine ⟨.slice (some ⟨w.heap.size, 0, none⟩) (sLen + n) (grownCap w (sLen + n) sCap el), _, _, fun o ho => .inl (exec o ho _ _ ?_), g1, he1.trans g2', nofun, ?_⟩
  ·rw [hxx]
   exact run_append_fresh ht hu hi hzv hlen (hfc w.drew rfl) (hofc w.drew rfl) hg hbytes hby
  ·rw [← hnx]
   exact Rep.slice (i := ⟨w.heap.size, 0, grownCap w (sLen + n) sCap el * i.size, i.size⟩) (ext1_same _ _ _) hge (fun h => by omega) (fun _ => rfl) (fun _ _ => by simp)
 split at hio
 ·-- nil
  obtain ⟨hx', _, _⟩ := rep_nilsl hx
  split at hio
  ·rename_i hn0
   cases hio
   subst hn0
   refine ⟨.slice none 0 0, w, ι, fun o ho => .inl (exec o ho _ _ ?_), hs, .refl _ _ _, nofun, .snil⟩
   rw [hx']
   have hf0 := hfc w rfl
   rcases hu with ⟨q', hd⟩ | hd <;> simp [Builtin.append_, run_underlying ht, run_underlying hd, sizeOf, typeInfo, hi, hlen, hf0]
  ·rename_i hn0
   split at hio
   case isFalse => cases hio
   rename_i hbytes
   cases hio
   have := fresh h none 0 0 [] [] hs (.refl _ _ _) hx' (RepC.nil _) (by simp) (fun w2 _ => by simp [Builtin.firstCells]) (by omega) (by simpa using hbytes) rfl
   simpa using this
 ·rename_i bk o len cap
  obtain ⟨a', c', bi, hx', hι, hle, hex, had, hes⟩ := rep_slice hx
  split at hio
  ·rename_i hn0
   cases hio
   subst hn0
   refine ⟨.slice (some a') len c', w, ι, fun o ho => .inl (exec o ho _ _ ?_), hs, .refl _ _ _, nofun, hx' ▸ hx⟩
   rw [hx']
   have hys : ys = [] := by apply List.length_eq_zero_iff.1; simpa using hysl
   have := run_append_here (w := w) (ty := o.type) ht hu hi hlen (hfc w rfl) (a := a') (sLen := len) (sCap := c') (by omega) (w' := w) (by rw [hys]; simp [storeCells])
   simpa using this
  ·rename_i hn0
   split at hio
   case isFalse => cases hio
   rename_i hbytes
   split at hio
   ·-- known to be full
    rename_i hlc
    have hc' := hex hlc.symm
    split at hio
    case h_2 => cases hio
    rename_i old hold
    cases hio
    split at hold
    ·rename_i hl0
     cases hold
     subst hl0
     exact fresh h (some a') 0 c' [] [] hs (.refl _ _ _) hx' (RepC.nil _) (by simp) (fun w2 _ => by simp [Builtin.firstCells, loadCells, loadCellsFrom]) (by omega) hbytes rfl
    ·rename_i hl0
     have ha' := had (by omega)
     subst ha'
     obtain ⟨cs', h1, h2, h3⟩ := hs.cells hι hold
     refine fresh h _ len c' old cs' hs (.refl _ _ _) hx' h1 h2 (fun w2 hw2 => run_firstCells_some (P := P) w2 i.size len _ len c' cs' (by rw [← h1.1, h2]) (fun j u hj => by
      have := h3 j u hj
      simp only [World.cell?, hw2] at this ⊢
      exact this)) (by omega) hbytes rfl
   ·rename_i hlc
    split at hio
    case h_2 => cases hio
    rename_i cs esz hbk
    split at hio
    case isFalse => cases hio
    rename_i hcond
    obtain ⟨rfl, hfit⟩ := hcond
    cases hio
    have hmine : mine h bk := by unfold mine; rw [hbk]; trivial
    have hold : h.cells bk o (len * i.size) = some ((cs.drop o).take (len * i.size)) := by
     unfold Heap.cells; rw [hbk]; simp [hfit]
    obtain ⟨cs', h1, h2, h3⟩ := hs.cells hι hold
    by_cases hroom : len + n ≤ c'
    ·-- in place
     have ha' := had (by omega)
     subst ha'
     obtain ⟨o', ho', hr⟩ := hs.blk bk _ bi hbk hι
     cases o' <;> simp only [BRel] at hr
     rename_i row rt fz
     obtain ⟨hrz, hsh, hrep, hez, hown⟩ := hr
     obtain ⟨rfl, hbase⟩ := hown.1 trivial
     have htop := hes (by rw [hez]; exact hsz) (by omega)
     rw [hez] at htop
     have hmul : len * i.size + n * i.size ≤ c' * i.size := by rw [← Nat.add_mul]; exact Nat.mul_le_mul_right _ hroom
     have hst := run_storeCells_at P bi.blk (o + bi.sh + len * i.size) rt ys 0 row w ho' (by rw [hysl]; omega) (fun v hv => by
      obtain ⟨k, hk⟩ := List.getElem?_of_mem hv
      have hk' : k < xs.length := by rw [hxy.1]; exact (List.getElem?_eq_some_iff.1 hk).1
      have := hxy.2 k _ v (List.getElem?_eq_getElem hk') hk
      rw [oneCell'_eq]; exact this.2.flat this.1)
     simp only [Nat.add_zero, hysl] at hst
     obtain ⟨g1, g2⟩ := hs.move hι hmine (.cells ((cs.drop o).take (len * i.size) ++ xs) true i.size) (.cells (row.toList.take (o + bi.sh + len * i.size) ++ ys ++ row.toList.drop (o + bi.sh + len * i.size + n * i.size)).toArray rt (0, 0))
      ⟨bi.blk, o + bi.sh, bi.top, i.size⟩ rfl
      (fun ι' hle' => ⟨by simp [hysl]; omega, by simp [hxl]; omega, by
       have hcut : ((row.toList.take (o + bi.sh + len * i.size) ++ ys ++ row.toList.drop (o + bi.sh + len * i.size + n * i.size)).drop (o + bi.sh)).take ((cs.drop o).take (len * i.size) ++ xs).length = ((row.toList.drop (o + bi.sh)).take (len * i.size)) ++ ys := by
        rw [List.append_assoc, List.drop_append_of_le_length (by simp; omega), List.drop_take, show o + bi.sh + len * i.size - (o + bi.sh) = len * i.size by omega]
        rw [← List.append_assoc, List.take_append_of_le_length (by simp [hxl, hysl]; omega), List.take_of_length_le (by simp [hxl, hysl]; omega)]
       simp only [List.toList_toArray]
       rw [hcut]
       refine ((?_ : RepC ι _ _).append hxy).mono hle'
       have := (hrep.drop o).take (len * i.size)
       have e : List.take (len * i.size) (List.drop o (List.take cs.length (List.drop bi.sh row.toList))) = List.take (len * i.size) (List.drop (o + bi.sh) row.toList) := by
        rw [List.drop_take, List.take_take, List.drop_drop, Nat.min_eq_left (by omega), Nat.add_comm bi.sh o]
       rw [e] at this
       exact this, rfl, fun _ => ⟨rfl, hbase⟩, fun hq => by cases hq⟩)
      (w' := w.setRow bi.blk (row.toList.take (o + bi.sh + len * i.size) ++ ys ++ row.toList.drop (o + bi.sh + len * i.size + n * i.size)).toArray)
      (setRow_heap _ _ _ _ _ _ ho') (fun k hk => setRow_other _ _ _ _ hk) (by simp) (by simp) (by simp) (by simp)
     refine ⟨.slice (some ⟨bi.blk, o + bi.sh, none⟩) (len + n) c', _, _, fun oo hoo => .inl (exec oo hoo _ _ ?_), g1, g2, nofun, ?_⟩
     ·rw [hx']
      exact run_append_here ht hu hi hlen (hfc w rfl) hroom (by rw [addr_add]; exact hst)
     ·exact Rep.slice (i := ⟨bi.blk, o + bi.sh, bi.top, i.size⟩) (ext1_same _ _ _) hroom (fun h => by omega) (fun _ => by simp) (fun _ _ => by simp; omega)
    ·-- it grows
     obtain ⟨hd1, hd2, _⟩ := hs.die hmine
     refine fresh (h.set bk .dead) (some a') len c' _ cs' hd1 hd2 hx' h1 h2 (fun w2 hw2 => ?_) (by omega) hbytes rfl
     by_cases hl0 : len = 0
     ·subst hl0
      have : cs' = [] := by apply List.length_eq_zero_iff.1; rw [← h1.1, h2]; simp
      subst this
      simp [Builtin.firstCells, loadCells, loadCellsFrom]
     ·have ha' := had (by omega)
      subst ha'
      exact run_firstCells_some (P := P) w2 i.size len _ len c' cs' (by rw [← h1.1, h2]) (fun j u hj => by
       have := h3 j u hj
       simp only [World.cell?, hw2] at this ⊢
       exact this)
 ·cases hio
end Go.Idl
end

section
namespace Go.Idl
variable {C : Nat → IC → Code → Prop} {base : Nat} {ι : Inj} {h : Heap} {w : World} {P : Program} {ρ : Operand → Value} {e : Env}
theorem skind {t : TypeId} {q : IOp} {op : BinOp} {x y : Operand} {yt : TypeId} (hc : cbin P op t x y = some q) (hs : Sim C base ι h w) (hρ : OpdRep ι e ρ) {v : Value} {h' : Heap} (hi : iop q e h = some (v, h')) :
 Good C base P ρ (.binOp op t x y yt) ι h w v h' := by
 unfold cbin at hc
 split at hc
 case h_2 => cases hc
 rename_i a b ha hb
 have nilcase : ∀ {k : NK} {c : Value} {d : TypeDesc}, y = .const c → P.underlying t = some d → ((∃ u, d = .pointer u ∧ k = .ptr ∧ c = .pointer none) ∨ (∃ u, d = .slice u ∧ k = .sl ∧ c = .slice none 0 0) ∨ (∃ u v, d = .map u v ∧ k = .mp ∧ c = .map none) ∨
  (∃ a b f, d = .func a b f ∧ k = .fn ∧ c = .nilFunc) ∨ ∃ m, d = .interface m ∧ k = .ifc ∧ c = .nilIface) → (negOf op).map (fun n => IOp.isnil k n a) = some q → Good C base P ρ (.binOp op t x y yt) ι h w v h' := by
  intro k c d hy hd hk hq
  obtain ⟨n, hn, rfl⟩ := opt_map hq
  rw [negOf_spec hn, hy]
  exact good_isnil hs hρ ha hd hk hi
 split at hc
 ·cases hc; exact good_bin hs hρ ha hb hi
 ·cases hc; exact good_bin hs hρ ha hb hi
 ·rename_i hu
  obtain ⟨n, hn, rfl⟩ := opt_map hc
  rw [negOf_spec hn]
  exact good_beq hs hρ ha hb hu hi
 ·rename_i u hu; exact nilcase rfl hu (.inl ⟨_, rfl, rfl, rfl⟩) hc
 ·rename_i u hu; exact nilcase rfl hu (.inr (.inl ⟨_, rfl, rfl, rfl⟩)) hc
 ·rename_i hu; exact nilcase rfl hu (.inr (.inr (.inl ⟨_, _, rfl, rfl, rfl⟩))) hc
 ·rename_i hu; exact nilcase rfl hu (.inr (.inr (.inr (.inl ⟨_, _, _, rfl, rfl, rfl⟩)))) hc
 ·rename_i hu; exact nilcase rfl hu (.inr (.inr (.inr (.inr ⟨_, rfl, rfl, rfl⟩)))) hc
 ·split at hc
  case h_2 => cases hc
  rename_i ks n hks hn
  cases hc
  rw [negOf_spec hn]
  exact good_eqs hs hρ ha hb hks hi
 ·cases hc
theorem copds1 {xs : List Operand} {a : Opd} (h : copds xs = some [a]) : ∃ x, xs = [x] ∧ copd x = some a := by
 cases xs with
 | nil => simp [copds] at h
 | cons x xs =>
  simp only [copds] at h
  split at h
  ·rename_i b bs h1 h2
   cases h
   cases xs with
   | nil => exact ⟨x, rfl, h1⟩
   | cons y ys => simp only [copds] at h2; split at h2 <;> cases h2
  ·cases h
theorem copds2 {xs : List Operand} {a b : Opd} (h : copds xs = some [a, b]) : ∃ x y, xs = [x, y] ∧ copd x = some a ∧ copd y = some b := by
 cases xs with
 | nil => simp [copds] at h
 | cons x xs =>
  simp only [copds] at h
  split at h
  ·rename_i c cs h1 h2
   cases h
   obtain ⟨y, rfl, hy⟩ := copds1 h2
   exact ⟨x, y, rfl, h1, hy⟩
  ·cases h
theorem good_builtin {b : Builtin} {args : Array Operand} {ts : Array TypeId} {q : IOp} (hc : cbuiltin P b ts.toList args.toList = some q) (hs : Sim C base ι h w) (hb : base ≤ w.heap.size) (hρ : OpdRep ι e ρ) {v : Value} {h' : Heap} (hi : iop q e h = some (v, h')) :
 Good C base P ρ (.call { callee := .builtin b, args := args, argTypes := ts }) ι h w v h' := by
 unfold cbuiltin at hc
 split at hc
 ·rename_i t ts' a hts hargs
  obtain ⟨x, hx, ha⟩ := copds1 hargs
  obtain rfl : args = #[x] := Array.ext' hx
  split at hc <;> first | cases hc | skip
  ·rename_i hu; exact good_len hs hρ ha hu (.inl ⟨rfl, rfl⟩) hi hts
  ·rename_i u hu; exact good_len hs hρ ha hu (.inr (.inl ⟨_, rfl, rfl⟩)) hi hts
  ·rename_i u v hu; exact good_len hs hρ ha hu (.inr (.inr (.inl ⟨_, _, rfl, rfl⟩))) hi hts
  ·rename_i n u hu; exact good_len hs hρ ha hu (.inr (.inr (.inr ⟨_, _, rfl, rfl⟩))) hi hts
 ·rename_i a b hargs
  obtain ⟨x, y, hx, ha, hb'⟩ := copds2 hargs
  obtain rfl : args = #[x, y] := Array.ext' hx
  cases hc
  exact good_minmax (mx := true) hs hρ ha hb' hi
 ·rename_i a b hargs
  obtain ⟨x, y, hx, ha, hb'⟩ := copds2 hargs
  obtain rfl : args = #[x, y] := Array.ext' hx
  cases hc
  exact good_minmax (mx := false) hs hρ ha hb' hi
 ·rename_i t u a b hts hargs
  obtain ⟨x, y, hx, ha, hb'⟩ := copds2 hargs
  obtain rfl : args = #[x, y] := Array.ext' hx
  obtain rfl : ts = #[t, u] := Array.ext' hts
  split at hc
  case h_3 => cases hc
  ·rename_i el el' hel hel'
   split at hc
   case h_2 => cases hc
   rename_i i z hinfo hz
   split at hc
   case isFalse => cases hc
   rename_i hpos
   simp at hpos
   cases hc
   exact good_append (ty := 0) hs hb hρ hel (.inl ⟨_, hel'⟩) hinfo hz hpos.1 hpos.2 ha hb' hi
  ·rename_i el hel hel'
   split at hc
   case h_2 => cases hc
   rename_i i z hinfo hz
   split at hc
   case isFalse => cases hc
   rename_i hpos
   simp at hpos
   cases hc
   exact good_append (ty := 0) hs hb hρ hel (.inr hel') hinfo hz hpos.1 hpos.2 ha hb' hi
 ·cases hc; simp [iop] at hi
 ·rename_i t ts' a hts hargs
  obtain ⟨x, hx, ha⟩ := copds1 hargs
  obtain rfl : args = #[x] := Array.ext' hx
  split at hc
  case h_2 => cases hc
  rename_i el hu
  obtain ⟨z, hz, rfl⟩ := opt_map hc
  exact good_clear hs hρ hts hu hz ha hi
 ·cases hc
theorem cop_sound {op : Op} {q : IOp} (hc : cop P op = some q) (hs : Sim C base ι h w) (hb : base ≤ w.heap.size) (hρ : OpdRep ι e ρ) {v : Value} {h' : Heap} (hi : iop q e h = some (v, h')) :
 Good C base P ρ op ι h w v h' := by
 have hc0 := hc
 unfold cop at hc
 split at hc
 ·obtain ⟨a, ha, rfl⟩ := opt_map hc; simp only [iop] at hi; cases hi; exact good_mov hs hρ ha
 ·obtain ⟨a, ha, rfl⟩ := opt_map hc; simp only [iop] at hi; cases hi; exact good_assign hs hρ ha
 ·-- pick
  split at hc
  case h_2 => cases hc
  rename_i a b c ha hb' hc'
  cases hc
  simp only [iop] at hi
  split at hi
  ·rename_i t ht; cases hi; exact good_pick hs hρ ha hb' hc' ht
  ·cases hi
 ·obtain ⟨z, hz, rfl⟩ := opt_map hc; simp only [iop] at hi; cases hi; exact good_alloc hs hb hz
 ·obtain ⟨a, ha, rfl⟩ := opt_map hc
  simp only [iop] at hi
  obtain ⟨cs, hcs, hp⟩ := opt_map hi
  cases hp
  exact good_box hs hb hρ ha hcs
 ·-- build
  have hq : ∃ z qs, q = .build z qs := by
   split at hc
   ·split at hc
    ·obtain ⟨a, _, rfl⟩ := opt_map hc; exact ⟨_, _, rfl⟩
    ·cases hc
   ·split at hc
    ·obtain ⟨a, _, rfl⟩ := opt_map hc; exact ⟨_, _, rfl⟩
    ·cases hc
   ·cases hc
  obtain ⟨z, qs, rfl⟩ := hq
  simp only [iop] at hi
  obtain ⟨cs, hcs, hp⟩ := opt_map hi
  cases hp
  exact good_build hs hρ hc0 hcs
 ·-- a slice's literal
  split at hc
  case h_2 => cases hc
  rename_i el hu
  split at hc
  case h_2 => cases hc
  rename_i s z hsz hz
  split at hc
  case isFalse => cases hc
  rename_i hle
  obtain ⟨qs, hqs, rfl⟩ := opt_map hc
  simp only [iop] at hi
  obtain ⟨cs, hcs, hp⟩ := opt_map hi
  cases hp
  exact good_lit hs hb hρ hu hsz hz hle hqs hcs
 ·split at hc
  case h_2 => cases hc
  rename_i n a hn ha
  cases hc
  exact good_load hs hρ hn ha hi
 ·split at hc
  case h_2 => cases hc
  rename_i n a v' hn ha hv
  cases hc
  exact good_store hs hρ hn ha hv hi
 ·obtain ⟨a, ha, rfl⟩ := opt_map hc; exact good_nilck hs hρ ha hi
 ·exact skind hc hs hρ hi
 ·obtain ⟨a, ha, rfl⟩ := opt_map hc; exact good_un hs hρ ha hi
 ·-- convert
  unfold cconv at hc
  split at hc
  ·rename_i a k' k ha h1 h2; cases hc; exact good_conv hs hρ ha h1 h2 hi
  ·cases hc
 ·-- makeInterface
  split at hc
  ·cases hc
  ·rename_i d hd hu
   obtain ⟨a, ha, rfl⟩ := opt_map hc
   simp only [iop] at hi
   cases hi
   exact good_iface hs hρ ha hu (fun m hm => hd m hm)
  ·cases hc
 ·split at hc
  case h_2 => cases hc
  rename_i a b ha hb'
  cases hc
  simp only [iop] at hi
  cases hi
  exact good_fn hs hρ ha hb'
 ·-- makeMap
  split at hc
  case h_2 => cases hc
  rename_i kt et hu
  split at hc
  ·cases hc; simp only [iop] at hi; cases hi; exact good_mkmap hs hb hρ hu (.inl rfl)
  ·cases hc; simp only [iop] at hi; cases hi; exact good_mkmap hs hb hρ hu (.inr ⟨_, _, rfl⟩)
  ·cases hc
 ·-- makeSlice
  split at hc
  case h_2 => cases hc
  rename_i el hu
  split at hc
  case h_2 => cases hc
  rename_i i z l c hinfo hz hl hc'
  split at hc
  case isFalse => cases hc
  rename_i hpos
  simp at hpos
  cases hc
  exact good_mkslice hs hb hρ hu hinfo hz hpos.1 hpos.2 hl hc' hi
 ·-- slice
  unfold csub at hc
  split at hc
  case h_2 => cases hc
  rename_i a l b m ha hl hh hm
  split at hc
  ·rename_i hu; cases hc; exact good_sub_str hs hρ hu ha hl hh hm hi
  ·rename_i el hu; obtain ⟨s, hsz, rfl⟩ := opt_map hc; exact good_sub_sl hs hρ hu hsz ha hl hh hm hi
  ·rename_i n el hu; obtain ⟨s, hsz, rfl⟩ := opt_map hc; exact good_sub_ar hs hρ hu hsz ha hl hh hm hi
  ·cases hc
 ·-- fieldAddr
  split at hc
  case h_2 => cases hc
  rename_i fs hu
  split at hc
  case h_2 => cases hc
  rename_i fd hf
  split at hc
  case h_2 => cases hc
  rename_i s a hsz ha
  split at hc
  case isFalse => cases hc
  rename_i hp
  cases hc
  exact good_faddr hs hρ hu hf hsz hp ha hi
 ·-- field
  split at hc
  case h_2 => cases hc
  rename_i fs hu
  split at hc
  case h_2 => cases hc
  rename_i fd hf
  split at hc
  case h_2 => cases hc
  rename_i n a hn ha
  cases hc
  exact good_field hs hρ hu hf hn ha hi
 ·-- indexAddr
  split at hc
  ·rename_i el hu
   split at hc
   case h_2 => cases hc
   rename_i s a j hsz ha hj
   cases hc
   exact good_iaddr_sl hs hρ hu hsz ha hj hi
  ·rename_i n el hu
   split at hc
   case h_2 => cases hc
   rename_i s a j hsz ha hj
   cases hc
   exact good_iaddr_ar hs hρ hu hsz ha hj hi
  ·cases hc
 ·-- index
  split at hc
  ·rename_i hu
   split at hc
   case h_2 => cases hc
   rename_i a j ha hj
   cases hc
   exact good_sidx hs hρ hu ha hj hi
  ·rename_i n el hu
   split at hc
   case h_2 => cases hc
   rename_i s sh a j hsz hsh ha hj
   cases hc
   exact good_aidx hs hρ hu hsz hsh ha hj hi
  ·cases hc
 ·-- lookup
  split at hc
  case h_2 => cases hc
  rename_i kt el hu
  split at hc
  case h_2 => cases hc
  rename_i z m k kk hz hm hk hkk
  split at hc
  case isFalse => cases hc
  rename_i hco
  cases hc
  exact good_lookup hs hρ hu hkk hz hco hm hk hi
 ·split at hc
  case h_2 => cases hc
  rename_i kt el hu
  split at hc
  case h_2 => cases hc
  rename_i m k v' kk hm hk hv hkk
  cases hc
  exact good_mapset hs hρ hu hkk hm hk hv hi (.inl rfl)
 ·split at hc
  case h_2 => cases hc
  rename_i kt el hu
  split at hc
  case h_2 => cases hc
  rename_i m k v' kk hm hk hv hkk
  cases hc
  exact good_mapset hs hρ hu hkk hm hk hv hi (.inr rfl)
 ·-- range
  split at hc
  case h_2 => cases hc
  rename_i hu
  obtain ⟨a, ha, rfl⟩ := opt_map hc
  exact good_range hs hb hρ hu ha hi
 ·obtain ⟨a, ha, rfl⟩ := opt_map hc; exact good_next hs hρ ha hi
 ·-- typeAssert
  split at hc
  ·cases hc
  ·rename_i d hd hu
   split at hc
   case h_2 => cases hc
   rename_i z a hz ha
   split at hc
   case isFalse => cases hc
   rename_i hco
   cases hc
   exact good_assert hs hρ hu (fun m hm => hd m hm) hz hco ha hi
  ·cases hc
 ·obtain ⟨a, ha, rfl⟩ := opt_map hc; exact good_extract hs hρ ha hi
 ·exact good_builtin hc hs hb hρ hi
 ·cases hc
end Go.Idl
end
