/- The model's code, read as ideal code. -/
import Derived.Test.YtfdpknfndjllgaaI0b
import Derived.Orders
namespace Go.Idl
set_option linter.unusedVariables false

/-- A cell that holds no address. -/
def constC : Value → Bool
  | .bool _ | .int _ _ | .string _ | .pointer none | .map none | .nilFunc | .nilIface => true
  | .slice none 0 0 => true
  | .func (.func _) a b => a.toList.isEmpty && b.toList.isEmpty
  | _ => false
def constOk : Value → Bool
  | .agg cs => cs.toList.all constC
  | v => constC v

def copd : Operand → Option Opd
  | .tmp t => some (.t t)
  | .const v => if constOk v then some (.c v) else none
  | .func f => some (.c (.func (.func f) #[] #[]))
  | .global _ => none

def copds : List Operand → Option (List Opd)
  | [] => some []
  | x :: xs => match copd x, copds xs with
    | some a, some as => some (a :: as)
    | _, _ => none

def copdO : Option Operand → Option (Option Opd)
  | none => some none
  | some x => (copd x).map some

def cparts (place : Nat → Option (Nat × Nat)) : List (Nat × Operand) → Option (List (Nat × Nat × Opd))
  | [] => some []
  | (i, x) :: ps => match place i, copd x, cparts place ps with
    | some (o, s), some a, some as => some ((o, s, a) :: as)
    | _, _, _ => none

/-- The zero value's cells. -/
def zcells (P : Program) (t : TypeId) : Option (List Value) :=
  match P.info? t with
  | some i => match i.zero with
    | some v => if constOk v && v.cells.size == i.size then some v.cells.toList else none
    | none => none
  | none => none

def tsize (P : Program) (t : TypeId) : Option Nat := (P.info? t).map (·.size)

/-- How a value of a type is read: one cell, or so many as an aggregate. -/
def tshape (P : Program) (t : TypeId) : Option (Option Nat) :=
  match P.underlying t, P.info? t with
  | some (.struct _), some i => some (some i.size)
  | some (.array _ _), some i => some (some i.size)
  | some _, some _ => some none
  | _, _ => none

/-- A type whose values are compared cell by cell. -/
def tscal (P : Program) (t : TypeId) : Bool :=
  match P.underlying t with
  | some .bool | some (.int _) | some .string => true
  | _ => false

def places (P : Program) : List Field → Option (List (Nat × Nat))
  | [] => some []
  | f :: fs => match tsize P f.type, places P fs with
    | some s, some r => some ((f.offset, s) :: r)
    | _, _ => none

/-- The scalar that a type is. -/
def skOf (P : Program) (t : TypeId) : Option SK :=
  match P.underlying t with
  | some .bool => some .bool
  | some (.int k) => some (.int k)
  | some .string => some .str
  | _ => none

/-- The fields of a struct that is compared cell by cell: scalars, one behind another. -/
def flatFields (P : Program) : List Field → Nat → Option (List SK)
  | [], _ => some []
  | f :: fs, n => match skOf P f.type, flatFields P fs (n + 1) with
    | some s, some ss => if f.name != "_" && f.offset == n && tsize P f.type == some 1 then some (s :: ss) else none
    | _, _ => none

def structSK (P : Program) (t : TypeId) : Option (List SK) :=
  match P.underlying t with
  | some (.struct fs) => match flatFields P fs.toList 0 with
    | some ss => if !P.eqGuardType P.depth t && !P.stoodInHeld t && (tsize P t == some fs.size) then some ss else none
    | none => none
  | _ => none

def kkOf (P : Program) (t : TypeId) : Option KK :=
  match skOf P t with
  | some s => some (.one s)
  | none => (structSK P t).map .agg

def negOf : BinOp → Option Bool
  | .eql => some false
  | .neq => some true
  | _ => none

def cbin (P : Program) (op : BinOp) (t : TypeId) (x y : Operand) : Option IOp :=
  match copd x, copd y with
  | some a, some b =>
    match P.underlying t, y with
    | some (.int _), _ | some .string, _ => some (.bin op a b)
    | some .bool, _ => (negOf op).map fun n => .beq n a b
    | some (.pointer _), .const (.pointer none) => (negOf op).map fun n => .isnil .ptr n a
    | some (.slice _), .const (.slice none 0 0) => (negOf op).map fun n => .isnil .sl n a
    | some (.map _ _), .const (.map none) => (negOf op).map fun n => .isnil .mp n a
    | some (.func _ _ _), .const .nilFunc => (negOf op).map fun n => .isnil .fn n a
    | some (.interface _), .const .nilIface => (negOf op).map fun n => .isnil .ifc n a
    | some (.struct _), _ => match structSK P t, negOf op with
      | some ks, some n => some (.eqs ks n a b)
      | _, _ => none
    | _, _ => none
  | _, _ => none

def cconv (P : Program) (src dst : TypeId) (x : Operand) : Option IOp :=
  match copd x, P.underlying src, P.underlying dst with
  | some a, some (.int _), some (.int k) => some (.conv k a)
  | _, _, _ => none

def csub (P : Program) (t : TypeId) (x : Operand) (lo hi mx : Option Operand) : Option IOp :=
  match copd x, copdO lo, copdO hi, copdO mx with
  | some a, some l, some b, some m =>
    match P.underlying t with
    | some .string => some (.sub .str a l b m)
    | some (.slice e) => (tsize P e).map fun s => .sub (.sl s) a l b m
    | some (.array n e) => (tsize P e).map fun s => .sub (.ar n s) a l b m
    | _ => none
  | _, _, _, _ => none

def cbuiltin (P : Program) (b : Builtin) (ts : List TypeId) (args : List Operand) : Option IOp :=
  match b, ts, copds args with
  | .len, t :: _, some [a] => match P.underlying t with
    | some .string => some (.len .str a)
    | some (.slice _) => some (.len .sl a)
    | some (.map _ _) => some (.len .mp a)
    | some (.array n _) => some (.len (.ar n) a)
    | _ => none
  | .max, _, some [a, b] => some (.minmax true a b)
  | .min, _, some [a, b] => some (.minmax false a b)
  | .append, [t, u], some [a, b] => match P.underlying t, P.underlying u with
    | some (.slice e), some (.slice _) | some (.slice e), some .string => match P.info? e, zcells P e with
      | some i, some _ => if 0 < i.size && 0 < i.bytes then some (.append i.size i.bytes a b) else none
      | _, _ => none
    | _, _ => none
  | .recover, _, some [] => some .recover
  | _, _, _ => none

def cop (P : Program) (o : Op) : Option IOp :=
  match o with
  | .move x | .assign x => (copd x).map .mov
  | .pick c a b => match copd c, copd a, copd b with
    | some c, some a, some b => some (.pick c a b)
    | _, _, _ => none
  | .alloc t => (zcells P t).map .alloc
  | .box _ x => (copd x).map .box
  | .build t ps => match P.underlying t, zcells P t with
    | some (.struct fs), some z => match places P fs.toList with
      | some pl => (cparts (pl[·]?) ps.toList).map (.build z)
      | none => none
    | some (.array _ e), some z => match tsize P e with
      | some s => (cparts (fun i => some (i * s, s)) ps.toList).map (.build z)
      | none => none
    | _, _ => none
  | .buildSlice t len ps => match P.underlying t with
    | some (.slice e) => match tsize P e, zcells P e with
      | some s, some z => if len * s ≤ 16777216 then (cparts (fun i => some (i * s, s)) ps.toList).map (.lit s len (List.replicate len z).flatten) else none
      | _, _ => none
    | _ => none
  | .load t a => match tshape P t, copd a with
    | some n, some a => some (.load n a)
    | _, _ => none
  | .store t a v => match tsize P t, copd a, copd v with
    | some n, some a, some v => some (.store n a v)
    | _, _, _ => none
  | .nilCheck x => (copd x).map .nilck
  | .binOp op t x y _ => cbin P op t x y
  | .unOp op _ x => (copd x).map (.un op)
  | .convert s d x => cconv P s d x
  | .makeInterface t x => match P.underlying t with
    | some (.interface _) => none
    | some _ => (copd x).map (.iface t)
    | none => none
  | .makeFunc (.func f) first cap => match copds first.toList, copds cap.toList with
    | some a, some b => some (.fn f a b)
    | _, _ => none
  | .makeMap t r => match P.underlying t with
    | some (.map kt _) => match r, kkOf P kt with
      | none, some kk => some (.mkmap kk)
      | some (.const (.int _ _)), some kk => some (.mkmap kk)
      | _, _ => none
    | _ => none
  | .makeSlice t l c => match P.underlying t with
    | some (.slice e) => match P.info? e, zcells P e, copd l, copd c with
      | some i, some z, some l, some c => if 0 < i.size && 0 < i.bytes then some (.mkslice i.size i.bytes z l c) else none
      | _, _, _, _ => none
    | _ => none
  | .slice t x lo hi mx => csub P t x lo hi mx
  | .fieldAddr t x f => match P.underlying t with
    | some (.struct fs) => match fs.toList[f]? with
      | some fd => match tsize P fd.type, copd x with
        | some s, some a => if 0 < s then some (.faddr fd.offset a) else none
        | _, _ => none
      | none => none
    | _ => none
  | .field t x f => match P.underlying t with
    | some (.struct fs) => match fs.toList[f]? with
      | some fd => match tshape P fd.type, copd x with
        | some n, some a => some (.field fd.offset n a)
        | _, _ => none
      | none => none
    | _ => none
  | .indexAddr t x i => match P.underlying t with
    | some (.slice e) => match tsize P e, copd x, copd i with
      | some s, some a, some j => some (.iaddr (.sl s) a j)
      | _, _, _ => none
    | some (.array n e) => match tsize P e, copd x, copd i with
      | some s, some a, some j => some (.iaddr (.ar n s) a j)
      | _, _, _ => none
    | _ => none
  | .index t x i => match P.underlying t with
    | some .string => match copd x, copd i with
      | some a, some j => some (.sidx a j)
      | _, _ => none
    | some (.array n e) => match tsize P e, tshape P e, copd x, copd i with
      | some s, some sh, some a, some j => some (.aidx n s sh a j)
      | _, _, _, _ => none
    | _ => none
  | .lookup t m k ok => match P.underlying t with
    | some (.map kt e) => match (P.info? e).bind (·.zero), copd m, copd k, kkOf P kt with
      | some z, some m, some k, some kk => if constOk z then some (.lookup kk z ok m k) else none
      | _, _, _, _ => none
    | _ => none
  | .mapUpdate t m k v | .insert t m k v => match P.underlying t with
    | some (.map kt _) => match copd m, copd k, copd v, kkOf P kt with
      | some m, some k, some v, some kk => some (.mapset kk m k v)
      | _, _, _, _ => none
    | _ => none
  | .range t x => match P.underlying t with
    | some .string => (copd x).map .range
    | _ => none
  | .next x true => (copd x).map .next
  | .typeAssert x _ t true => match P.underlying t with
    | some (.interface _) => none
    | some _ => match (P.info? t).bind (·.zero), copd x with
      | some z, some a => if constOk z then some (.assert t z a) else none
      | _, _ => none
    | none => none
  | .extract x i => (copd x).map (.extract · i)
  | .call { callee := .builtin b, args, argTypes } => cbuiltin P b argTypes.toList args.toList
  | _ => none

def cstm (P : Program) (o : Op) : Option Stm :=
  match o with
  | .call { callee := .value (.func f), args, .. } => (copds args.toList).map (.call f)
  | .call { callee := .value x, args, .. } => match copd x, copds args.toList with
    | some a, some as => some (.callv a as)
    | _, _ => none
  | .defer { callee := .value x, args, .. } => match copd x, copds args.toList with
    | some a, some as => some (.defer a as)
    | _, _ => none
  | .panic x => (copd x).map .panic
  | o => (cop P o).map .op

def dstOk (nt : Nat) : Option Nat → Bool
  | some d => decide (d < nt)
  | none => true

def cstep (P : Program) (nt : Nat) (ops : Array Oper) (o : Oper) : Option Step :=
  match cstm P o.op with
  | none => none
  | some m =>
    if dstOk nt o.dst then
      match o.guard with
      | none => some ⟨o.dst, m, none⟩
      | some (j, b) => match (ops[j]?).bind (·.dst) with
        | some t => some ⟨o.dst, m, some (t, b)⟩
        | none => none
    else none

def csteps (P : Program) (nt : Nat) (ops : Array Oper) : List Oper → Option (List Step)
  | [] => some []
  | o :: os => match cstep P nt ops o, csteps P nt ops os with
    | some a, some as => some (a :: as)
    | _, _ => none

/-- Of each operation those that come ahead of it in every order. -/
def ancs (ops : List Oper) : List (List Nat) :=
  ops.foldl (fun acc o => acc ++ [(o.after.toList.foldl (fun s e => if Region.binds .any e then (e.on :: acc.getD e.on []) ++ s else s) []).eraseDups]) []

/-- The temporaries that an operation reads. -/
def opdT : Opd → List Nat
  | .t i => [i]
  | .c _ => []
def opdsT (l : List Opd) : List Nat := l.flatMap opdT

def iopOpds : IOp → List Opd
  | .mov a | .box a | .load _ a | .nilck a | .isnil _ _ a | .un _ a | .conv _ a | .iface _ a | .faddr _ a | .field _ _ a | .assert _ _ a | .extract a _ | .len _ a | .range a | .next a => [a]
  | .pick a b c => [a, b, c]
  | .alloc _ | .mkmap _ | .recover => []
  | .build _ l | .lit _ _ _ l => l.map (·.2.2)
  | .bin _ a b | .eqs _ _ a b | .beq _ a b | .mkslice _ _ _ a b | .iaddr _ a b | .sidx a b | .aidx _ _ _ a b | .lookup _ _ _ a b | .minmax _ a b | .append _ _ a b | .store _ a b => [a, b]
  | .fn _ l m => l ++ m
  | .sub _ a l h m => a :: (l.toList ++ h.toList ++ m.toList)
  | .mapset _ a b c => [a, b, c]

def stmOpds : Stm → List Opd
  | .op q => iopOpds q
  | .call _ l => l
  | .callv a l | .defer a l => a :: l
  | .panic a => [a]

def stepT (x : Step) : List Nat := (match x.grd with | some (j, _) => [j] | none => []) ++ opdsT (stmOpds x.stm)

/-- What an operation has to do with. -/
def namesAt (ops : Array Oper) (o : Oper) (x : Step) : List Nat := o.looksAt ops ++ x.dst.toList ++ stepT x

def pairOk (ops : Array Oper) (l : List Step) (anc : List (List Nat)) (i j : Nat) : Bool :=
  (anc.getD j []).contains i ||
  match ops[i]?, ops[j]?, l[i]?, l[j]? with
  | some p, some q, some x, some y =>
    (match x.dst with | some d => !(namesAt ops q y).contains d | none => true) && (match y.dst with | some d => !(namesAt ops p x).contains d | none => true) &&
    !(kdStm x.stm == .E && kdStm y.stm == .E)
  | _, _, _, _ => false

/-- What a region must have for its order not to matter but where idraw looks: operations that share a temporary come in one order; so do effects. -/
def drawOk (ops : Array Oper) (l : List Step) (anc : List (List Nat)) : Bool :=
  (List.range l.length).all fun j => (List.range j).all fun i => pairOk ops l anc i j

/-- Each order comes to its end: what an operation waits for has a lower rank. -/
def rankOk (md : Region.Mode) (ops : Array Oper) (rank : Nat → Nat) : Bool :=
  (List.range ops.size).all fun i => ((ops[i]?).map fun o => o.after.all fun e => !Region.binds md e || (decide (e.on < ops.size) && decide (rank e.on < rank i))).getD true

def schedOk (ops : Array Oper) : Bool :=
  rankOk .any ops id && (!Region.departs ops || (rankOk .text ops id && (let g := Region.linearise .gc ops 0; rankOk .gc ops (fun i => g.idxOf i))))

/-- Code that is not covered: it comes to nothing. -/
def stuck : IC := .cond (.c (.chan none)) .skip .skip

def cic (P : Program) (nt : Nat) : Code → Option IC
  | .skip => some .skip
  | .label _ => some .skip
  | .region _ ops draw => match csteps P nt ops ops.toList with
    | some l => if draw then (if drawOk ops l (ancs ops.toList) && schedOk ops then some (.draw l (ancs ops.toList)) else some stuck) else some (.ops l)
    | none => some stuck
  | .seq a b => match cic P nt a, cic P nt b with
    | some a, some b => some (.seq a b)
    | _, _ => none
  | .cond c a b => match copd c, cic P nt a, cic P nt b with
    | some c, some a, some b => some (.cond c a b)
    | _, _, _ => none
  | .block id b => (cic P nt b).map (.block id)
  | .loop b => (cic P nt b).map .loop
  | .scope b => cic P nt b
  | .rangeFunc f ps asg body => match copd f, cic P nt asg, cic P nt body with
    | some f, some a, some b => if ps.toList.all (· < nt) then some (.rangeF f ps.toList a b) else none
    | _, _, _ => none
  | .exit id => some (.exit id)
  | .ret => some .ret
  | _ => some stuck

def crv (P : Program) : List ResultVar → Option (List RV)
  | [] => some []
  | .tmp t :: rs => (crv P rs).map (.tmp t :: ·)
  | .cell a t :: rs => match tshape P t, crv P rs with
    | some n, some r => some (.cell a n :: r)
    | _, _ => none

def cfn (P : Program) (f : Func) : Option IFn :=
  match f.body with
  | none => none
  | some c => match cic P f.ntmps c, crv P f.results.toList with
    | some c, some r => if f.name == "runtime.NumGoroutine" then none else some ⟨f.ntmps, c, r⟩
    | _, _ => none

end Go.Idl
