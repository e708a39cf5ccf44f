/- The ideal interpreter: a deterministic reading of the model's code (no tape, no capacities), over a heap of its own. -/
import GoSem.Step
namespace Go.Idl

abbrev Env := Nat → Value
def upd (e : Env) (i : Nat) (v : Value) : Env := fun j => if j = i then v else e j

inductive Opd where
  | t (i : Nat)
  | c (v : Value)

def ev (e : Env) : Opd → Value
  | .t i => e i
  | .c v => v

inductive LenK where
  | str | sl | mp
  | ar (n : Nat)
inductive SubK where
  | str
  | sl (size : Nat)
  | ar (n size : Nat)
inductive IdxK where
  | sl (size : Nat)
  | ar (n size : Nat)

/-- Scalars that are compared by their text alone. -/
inductive SK where
  | int (k : IntKind)
  | str
  | bool
  deriving DecidableEq
/-- A map's key: a scalar, or a struct of scalars. -/
inductive KK where
  | one (s : SK)
  | agg (ss : List SK)
  deriving DecidableEq
inductive NK where
  | ptr | sl | mp | fn | ifc

inductive IOp where
  | mov (x : Opd)
  | pick (c a b : Opd)
  | alloc (z : List Value)
  | box (x : Opd)
  | build (z : List Value) (ps : List (Nat × Nat × Opd))
  | lit (esz len : Nat) (z : List Value) (ps : List (Nat × Nat × Opd))
  | load (n : Option Nat) (a : Opd)
  | nilck (x : Opd)
  | bin (op : BinOp) (x y : Opd)
  | eqs (ks : List SK) (neg : Bool) (x y : Opd)
  | beq (neg : Bool) (x y : Opd)
  | isnil (k : NK) (neg : Bool) (x : Opd)
  | un (op : UnOp) (x : Opd)
  | conv (k : IntKind) (x : Opd)
  | iface (t : TypeId) (x : Opd)
  | fn (f : FuncId) (first cap : List Opd)
  | mkmap (kk : KK)
  | mkslice (esz bytes : Nat) (z : List Value) (len cap : Opd)
  | sub (k : SubK) (x : Opd) (lo hi mx : Option Opd)
  | faddr (off : Nat) (x : Opd)
  | field (off : Nat) (n : Option Nat) (x : Opd)
  | iaddr (k : IdxK) (x i : Opd)
  | sidx (x i : Opd)
  | aidx (len size : Nat) (n : Option Nat) (x i : Opd)
  | lookup (kk : KK) (z : Value) (ok : Bool) (m k : Opd)
  | assert (t : TypeId) (z : Value) (x : Opd)
  | extract (x : Opd) (i : Nat)
  | len (k : LenK) (x : Opd)
  | minmax (mx : Bool) (x y : Opd)
  | append (size bytes : Nat) (s x : Opd)
  | range (x : Opd)
  | next (x : Opd)
  | store (n : Nat) (a v : Opd)
  | mapset (kk : KK) (m k v : Opd)
  | recover

inductive Stm where
  | op (o : IOp)
  | call (f : FuncId) (args : List Opd)
  | callv (x : Opd) (args : List Opd)
  | defer (x : Opd) (args : List Opd)
  | panic (x : Opd)

structure Step where
  dst : Option Nat
  stm : Stm
  grd : Option (Nat × Bool)

inductive IC where
  | skip
  | ops (l : List Step)
  | draw (l : List Step) (anc : List (List Nat))
  | seq (a b : IC)
  | cond (c : Opd) (a b : IC)
  | block (id : Nat) (b : IC)
  | loop (b : IC)
  | rangeF (f : Opd) (ps : List Nat) (asg body : IC)
  | exit (id : Nat)
  | ret

inductive LSt where
  | ready | busy | done | gone
  deriving DecidableEq

inductive Jmp where
  | ret
  | brk (id : Nat)

structure LoopB where
  st : LSt
  pend : Option Jmp
  e : Env
  ps : List Nat
  asg : IC
  body : IC

inductive Blk where
  | cells (cs : List Value) (own : Bool) (esz : Nat)
  | dead
  | map (kk : KK) (es : List (Value × Value))
  | siter (s : ByteArray) (pos : Nat)
  | loop (l : LoopB)
  | dfr

structure Heap where
  get : Nat → Option Blk
  next : Nat

def Heap.set (h : Heap) (b : Nat) (o : Blk) : Heap := { h with get := fun k => if k = b then some o else h.get k }
def Heap.new (h : Heap) (o : Blk) : Heap := { get := fun k => if k = h.next then some o else h.get k, next := h.next + 1 }

def ptr (b o : Nat) : Value := .pointer (some ⟨b, o, none⟩)

/-- The cells that a value fills; a tuple fills none. -/
def cellsOf : Value → Option (List Value)
  | .agg cs => some cs.toList
  | .tuple _ => none
  | v => some [v]

def Heap.cell (h : Heap) (b o : Nat) : Option Value :=
  match h.get b with
  | some (.cells cs _ _) => cs[o]?
  | _ => none

def Heap.cells (h : Heap) (b o n : Nat) : Option (List Value) :=
  match h.get b with
  | some (.cells cs _ _) => if o + n ≤ cs.length then some ((cs.drop o).take n) else none
  | _ => none

/-- vs over cs from place o on. -/
def put : List Value → Nat → List Value → List Value
  | cs, _, [] => cs
  | cs, o, v :: vs => put (cs.set o v) (o + 1) vs

def Heap.write (h : Heap) (b o : Nat) (vs : List Value) : Option Heap :=
  match h.get b with
  | some (.cells cs true esz) => if o + vs.length ≤ cs.length then some (h.set b (.cells (put cs o vs) true esz)) else none
  | _ => none

def fillL : List Value → List (Nat × Nat × Value) → Option (List Value)
  | cs, [] => some cs
  | cs, (off, size, v) :: rest =>
    match cellsOf v with
    | some vs => if vs.length = size ∧ off + size ≤ cs.length then fillL (put cs off vs) rest else none
    | none => none

def evps (e : Env) (ps : List (Nat × Nat × Opd)) : List (Nat × Nat × Value) := ps.map fun p => (p.1, p.2.1, ev e p.2.2)

/-- Part of a row of cells as a value: one cell, or so many as an aggregate. -/
def partL (cs : List Value) (off : Nat) : Option Nat → Option Value
  | none => cs[off]?
  | some n => if off + n ≤ cs.length then some (.agg ((cs.drop off).take n).toArray) else none

def fit1 : SK → Value → Bool
  | .int k, .int k' _ => k == k'
  | .str, .string _ => true
  | .bool, .bool _ => true
  | _, _ => false

def fitL : List SK → List Value → Bool
  | [], [] => true
  | s :: ss, v :: vs => fit1 s v && fitL ss vs
  | _, _ => false

def seq1 : Value → Value → Bool
  | .bool a, .bool b => a == b
  | .int _ a, .int _ b => a == b
  | .string a, .string b => decide (a = b)
  | _, _ => false

def seqL : List Value → List Value → Bool
  | [], [] => true
  | x :: xs, y :: ys => seq1 x y && seqL xs ys
  | _, _ => false

/-- A key's cells. -/
def keyOf : KK → Value → Option (List Value)
  | .one s, v => if fit1 s v then some [v] else none
  | .agg ss, .agg cs => if fitL ss cs.toList then some cs.toList else none
  | .agg _, _ => none

def cellsV : Value → List Value
  | .agg cs => cs.toList
  | v => [v]

def findK (k : List Value) : List (Value × Value) → Option Value
  | [] => none
  | (a, v) :: es => if seqL k (cellsV a) then some v else findK k es

def setK (k : List Value) (kv v : Value) : List (Value × Value) → List (Value × Value)
  | [] => [(kv, v)]
  | (a, u) :: es => if seqL k (cellsV a) then (kv, v) :: es else (a, u) :: setK k kv v es

def binI (op : BinOp) (k : IntKind) (x y : Int) : Option Value :=
  match op with
  | .add => some (.int k (k.wrap (x + y)))
  | .sub => some (.int k (k.wrap (x - y)))
  | .mul => some (.int k (k.wrap (x * y)))
  | .quo => if y = 0 then none else some (.int k (k.wrap (x.tdiv y)))
  | .rem => if y = 0 then none else some (.int k (x.tmod y))
  | .and => some (.int k (k.wrap (BitVec.ofInt k.bits x &&& BitVec.ofInt k.bits y).toNat))
  | .or => some (.int k (k.wrap (BitVec.ofInt k.bits x ||| BitVec.ofInt k.bits y).toNat))
  | .xor => some (.int k (k.wrap (BitVec.ofInt k.bits x ^^^ BitVec.ofInt k.bits y).toNat))
  | .andNot => some (.int k (k.wrap (BitVec.ofInt k.bits x &&& ~~~ BitVec.ofInt k.bits y).toNat))
  | .eql => some (.bool (x == y))
  | .neq => some (.bool (x != y))
  | .lss => some (.bool (x < y))
  | .leq => some (.bool (x ≤ y))
  | .gtr => some (.bool (x > y))
  | .geq => some (.bool (x ≥ y))
  | _ => none

def binV (op : BinOp) : Value → Value → Option Value
  | .int k x, .int k' y =>
    match op with
    | .shl => if y < 0 then none else some (.int k (k.wrap (x * 2 ^ min y.toNat k.bits)))
    | .shr => if y < 0 then none else some (.int k (x.fdiv (2 ^ min y.toNat k.bits)))
    | _ => if k = k' then binI op k x y else none
  | .string a, .string b =>
    match op with
    | .add => if a.size + b.size ≤ 9223372036854775807 then some (.string (a ++ b)) else none
    | .eql => some (.bool (decide (a = b)))
    | .neq => some (.bool (!decide (a = b)))
    | _ => none
  | _, _ => none

def unV (op : UnOp) : Value → Option Value
  | .int k n => match op with
    | .neg => some (.int k (k.wrap (0 - n)))
    | .xor => some (.int k (k.wrap (BitVec.ofInt k.bits (if k.signed then -1 else k.max) ^^^ BitVec.ofInt k.bits n).toNat))
    | _ => none
  | .bool b => match op with
    | .not => some (.bool (!b))
    | _ => none
  | _ => none

def nilV : NK → Value → Option Bool
  | .ptr, .pointer a => some a.isNone
  | .sl, .slice a _ _ => some a.isNone
  | .mp, .map a => some a.isNone
  | .fn, .nilFunc => some true
  | .fn, .func _ _ _ => some false
  | .ifc, .nilIface => some true
  | .ifc, .iface _ _ => some false
  | _, _ => none

/-- A bound of a slice expression: a number from lo to hi. -/
def bndV (lo hi : Nat) : Value → Option Nat
  | .int _ i => if lo ≤ i ∧ i ≤ hi then some i.toNat else none
  | _ => none

def bndO (e : Env) (lo hi dflt : Nat) : Option Opd → Option Nat
  | none => some dflt
  | some x => bndV lo hi (ev e x)

/-- s[lo:hi:mx] of what has len elements (of 'size' cells) and a capacity that is known to be len just where cap = len. -/
def subSl (size len cap l hi : Nat) (mx : Option Nat) (a : Option Addr) : Value :=
  let cap' := match mx with
    | some m => if m = hi then hi - l else hi - l + 1
    | none => if cap = len ∧ hi = len then hi - l else hi - l + 1
  .slice (a.map fun p => ⟨p.block, p.off + l * size, none⟩) (hi - l) cap'

def idxV (len : Nat) : Value → Option Nat
  | .int _ i => if 0 ≤ i ∧ i < len then some i.toNat else none
  | _ => none

def bytesL (s : ByteArray) : List Value := s.data.toList.map fun b => .int .u8 b.toNat

/-- What may be cut out of: a block whose elements have that size, or that doesn't grow. -/
def okSz (h : Heap) (b size : Nat) : Bool :=
  match h.get b with
  | some (.cells _ _ esz) => esz == 0 || esz == size
  | _ => false
def okSzO (h : Heap) (size : Nat) : Option Addr → Bool
  | some a => okSz h a.block size
  | none => true

def elemsOf (h : Heap) (size : Nat) : Value → Option (Nat × List Value)
  | .slice none 0 _ => some (0, [])
  | .slice (some ⟨b, o, none⟩) n _ => if n = 0 then some (0, []) else (h.cells b o (n * size)).map fun cs => (n, cs)
  | .string s => if size = 1 then some (s.size, bytesL s) else none
  | _ => none

def appendV (size bytes : Nat) (s x : Value) (h : Heap) : Option (Value × Heap) :=
  match elemsOf h size x with
  | none => none
  | some (n, xs) =>
    match s with
    | .slice none 0 0 =>
      if n = 0 then some (.slice none 0 0, h)
      else if n * bytes ≤ 140737488355328 then some (.slice (some ⟨h.next, 0, none⟩) n (n + 1), h.new (.cells xs true size)) else none
    | .slice (some ⟨b, o, none⟩) len cap =>
      if n = 0 then some (.slice (some ⟨b, o, none⟩) len cap, h)
      else if (len + n) * bytes ≤ 140737488355328 then
        if len = cap then
          match (if len = 0 then some [] else h.cells b o (len * size)) with
          | some old => some (.slice (some ⟨h.next, 0, none⟩) (len + n) (len + n + 1), h.new (.cells (old ++ xs) true size))
          | none => none
        else
          match h.get b with
          | some (.cells cs true esz) =>
            if esz = size ∧ o + len * size ≤ cs.length then
              some (.slice (some ⟨h.next, 0, none⟩) (len + n) (len + n + 1), (h.set b .dead).new (.cells ((cs.drop o).take (len * size) ++ xs) true size))
            else none
          | _ => none
      else none
    | _ => none

def iop (o : IOp) (e : Env) (h : Heap) : Option (Value × Heap) :=
  match o with
  | .mov x => some (ev e x, h)
  | .pick c a b => match ev e c with
    | .bool t => some (if t then ev e a else ev e b, h)
    | _ => none
  | .alloc z => some (ptr h.next 0, h.new (.cells z true 0))
  | .box x => (cellsOf (ev e x)).map fun cs => (ptr h.next 0, h.new (.cells cs true 0))
  | .build z ps => (fillL z (evps e ps)).map fun cs => (.agg cs.toArray, h)
  | .lit esz len z ps => (fillL z (evps e ps)).map fun cs => (.slice (some ⟨h.next, 0, none⟩) len len, h.new (.cells cs true esz))
  | .load n a => match ev e a with
    | .pointer (some ⟨b, o, none⟩) => match n with
      | none => (h.cell b o).map fun v => (v, h)
      | some n => (h.cells b o n).map fun cs => (.agg cs.toArray, h)
    | _ => none
  | .nilck x => match ev e x with
    | .pointer (some a) => some (.pointer (some a), h)
    | .func (.func f) a b => some (.func (.func f) a b, h)
    | .func (.yield f) a b => some (.func (.yield f) a b, h)
    | .iface t v => some (.iface t v, h)
    | _ => none
  | .bin op x y => (binV op (ev e x) (ev e y)).map fun v => (v, h)
  | .eqs ks neg x y => match ev e x, ev e y with
    | .agg a, .agg b => if fitL ks a.toList && fitL ks b.toList then some (.bool (seqL a.toList b.toList != neg), h) else none
    | _, _ => none
  | .beq neg x y => match ev e x, ev e y with
    | .bool a, .bool b => some (.bool ((a == b) != neg), h)
    | _, _ => none
  | .isnil k neg x => (nilV k (ev e x)).map fun b => (.bool (b != neg), h)
  | .un op x => (unV op (ev e x)).map fun v => (v, h)
  | .conv k x => match ev e x with
    | .int _ n => some (.int k (k.wrap n), h)
    | _ => none
  | .iface t x => some (.iface t (ev e x), h)
  | .fn f first cap => some (.func (.func f) (first.map (ev e)).toArray (cap.map (ev e)).toArray, h)
  | .mkmap kk => some (.map (some h.next), h.new (.map kk []))
  | .mkslice esz bytes z len cap => match ev e len, ev e cap with
    | .int .i64 l, .int .i64 c =>
      if 0 ≤ l ∧ l ≤ c ∧ c * bytes ≤ 140737488355328 then
        some (.slice (some ⟨h.next, 0, none⟩) l.toNat (if l = c then l.toNat else l.toNat + 1), h.new (.cells (List.replicate l.toNat z).flatten true esz))
      else none
    | _, _ => none
  | .sub k x lo hi mx => match k, ev e x with
    | .str, .string s => match bndO e 0 s.size s.size hi with
      | some b => match bndO e 0 b 0 lo with
        | some a => match mx with
          | none => some (.string (s.extract a b), h)
          | some _ => none
        | none => none
      | none => none
    | .sl size, .slice a len cap => match (match mx with | none => some none | some m => (bndV 0 len (ev e m)).map some) with
      | none => none
      | some m => match bndO e 0 (m.getD len) len hi with
        | some b => match bndO e 0 b 0 lo with
          | some l => if (mx.isSome && hi.isNone) || !okSzO h size a then none else some (subSl size len cap l b m a, h)
          | none => none
        | none => none
    | .ar n size, .pointer (some a) => match bndO e 0 n n hi with
      | some b => match bndO e 0 b 0 lo with
        | some l => match mx with
          | none => if okSz h a.block 0 then some (subSl size n n l b none (some a), h) else none
          | some _ => none
        | none => none
      | none => none
    | _, _ => none
  | .faddr off x => match ev e x with
    | .pointer (some ⟨b, o, none⟩) => some (ptr b (o + off), h)
    | _ => none
  | .field off n x => match ev e x with
    | .agg cs => (partL cs.toList off n).map fun v => (v, h)
    | _ => none
  | .iaddr k x i => match k, ev e x with
    | .sl size, .slice (some ⟨b, o, none⟩) len _ => (idxV len (ev e i)).map fun j => (ptr b (o + j * size), h)
    | .ar n size, .pointer (some ⟨b, o, none⟩) => (idxV n (ev e i)).map fun j => (ptr b (o + j * size), h)
    | _, _ => none
  | .sidx x i => match ev e x with
    | .string s => match idxV s.size (ev e i) with
      | some j => (s.data.toList[j]?).map fun b => (.int .u8 b.toNat, h)
      | none => none
    | _ => none
  | .aidx len size n x i => match ev e x with
    | .agg cs => match idxV len (ev e i) with
      | some j => (partL cs.toList (j * size) n).map fun v => (v, h)
      | none => none
    | _ => none
  | .lookup kk z ok m k => match (match ev e m with
      | .map none => some []
      | .map (some b) => match h.get b with
        | some (.map kk' es) => if kk = kk' then some es else none
        | _ => none
      | _ => none), keyOf kk (ev e k) with
    | some es, some k' => match findK k' es with
      | some v => some (if ok then .tuple #[v, .bool true] else v, h)
      | none => some (if ok then .tuple #[z, .bool false] else z, h)
    | _, _ => none
  | .assert t z x => match ev e x with
    | .nilIface => some (.tuple #[z, .bool false], h)
    | .iface u v => some (if u = t then .tuple #[v, .bool true] else .tuple #[z, .bool false], h)
    | _ => none
  | .extract x i => match ev e x with
    | .tuple vs => (vs.toList[i]?).map fun v => (v, h)
    | _ => none
  | .len k x => match k, ev e x with
    | .str, .string s => some (.int .i64 s.size, h)
    | .sl, .slice _ n _ => some (.int .i64 n, h)
    | .ar n, _ => some (.int .i64 n, h)
    | .mp, .map none => some (.int .i64 0, h)
    | .mp, .map (some b) => match h.get b with
      | some (.map _ es) => some (.int .i64 es.length, h)
      | _ => none
    | _, _ => none
  | .minmax mx x y => match ev e x, ev e y with
    | .int k a, .int k' b => if k = k' then some (.int k (if mx then (if b > a then b else a) else (if b < a then b else a)), h) else none
    | _, _ => none
  | .append size bytes s x => appendV size bytes (ev e s) (ev e x) h
  | .range x => match ev e x with
    | .string s => some (ptr h.next 0, h.new (.siter s 0))
    | _ => none
  | .next x => match ev e x with
    | .pointer (some ⟨b, 0, none⟩) => match h.get b with
      | some (.siter s pos) =>
        if pos < s.size then some (.tuple #[.bool true, .int .i64 pos, .int .i32 (Utf8.decode s pos).1], h.set b (.siter s (pos + (Utf8.decode s pos).2)))
        else some (.tuple #[.bool false], h)
      | _ => none
    | _ => none
  | .store n a v => match ev e a with
    | .pointer (some ⟨b, o, none⟩) => match cellsOf (ev e v) with
      | some vs => if vs.length = n then (h.write b o vs).map fun h' => (undef, h') else none
      | none => none
    | _ => none
  | .mapset kk m k v => match ev e m with
    | .map (some b) => match h.get b, keyOf kk (ev e k) with
      | some (.map kk' es), some k' => if kk = kk' then some (undef, h.set b (.map kk (setK k' (ev e k) (ev e v) es))) else none
      | _, _ => none
    | _ => none
  | .recover => none

inductive Dfr where
  | fn (f : FuncId) (args : List Value)
  | mark (b : Nat)

/-- d: the deferred calls (none: in a round of a range over a function). -/
structure St where
  e : Env
  h : Heap
  d : Option (List Dfr)

inductive Ex where
  | normal
  | brk (id : Nat)
  | ret
  | pan (v : Value)

inductive Cal where
  | fn (f : FuncId)
  | yld (l : Nat)

inductive Out where
  | ret (v : Value)
  | pan (v : Value)

abbrev CallF := Cal → List Value → Heap → Option (Out × Heap)

def dstUpd (e : Env) : Option Nat → Value → Env
  | some d, v => upd e d v
  | none, _ => e

/-- A function's value at arguments: what is called. -/
def target (x : Value) (args : List Value) : Option (Cal × List Value) :=
  match x with
  | .func (.func f) first cap => some (.fn f, first.toList ++ args ++ cap.toList)
  | .func (.yield l) a b => if a.isEmpty && b.isEmpty then some (.yld l, args) else none
  | _ => none

def afterCall (dst : Option Nat) (s : St) : Option (Out × Heap) → Option (Option Value × St)
  | some (.ret v, h) => some (none, { s with e := dstUpd s.e dst v, h := h })
  | some (.pan v, h) => some (some v, { s with h := h })
  | none => none

/-- One operation: none beside the state: it went through; a value: it panicked. -/
def istm (call : CallF) (dst : Option Nat) (m : Stm) (s : St) : Option (Option Value × St) :=
  match m with
  | .op o => match iop o s.e s.h with
    | some (v, h) => some (none, { s with e := dstUpd s.e dst v, h := h })
    | none => none
  | .call f args => afterCall dst s (call (.fn f) (args.map (ev s.e)) s.h)
  | .callv x args => match target (ev s.e x) (args.map (ev s.e)) with
    | some (c, vs) => afterCall dst s (call c vs s.h)
    | none => none
  | .defer x args => match s.d, target (ev s.e x) (args.map (ev s.e)) with
    | some ds, some (.fn f, vs) => some (none, { s with e := dstUpd s.e dst undef, d := some (.fn f vs :: ds) })
    | _, _ => none
  | .panic x => match ev s.e x with
    | .iface t v => some (some (.iface t v), s)
    | _ => none

def wantedE (e : Env) : Option (Nat × Bool) → Bool
  | none => true
  | some (j, b) => match e j with
    | .bool c => c == b
    | _ => false

def iops (call : CallF) : List Step → St → Option (Option Value × St)
  | [], s => some (none, s)
  | x :: rest, s =>
    if wantedE s.e x.grd then
      match istm call x.dst x.stm s with
      | some (none, s') => iops call rest s'
      | r => r
    else iops call rest { s with e := dstUpd s.e x.dst undef }

end Go.Idl
