/- The ideal interpreter: regions whose order is open, code, calls. -/
import Derived.Test.YtfdpknfndjllgaaI0
namespace Go.Idl
open Classical

/-- What an operation is in a region whose order is open: pure, a read, new memory, or an effect. -/
inductive Kd where
  | P | R | A | E
  deriving DecidableEq

def kdOp : IOp → Kd
  | .load _ _ | .lookup _ _ _ _ _ | .sub _ _ _ _ _ => .R
  | .len .mp _ => .R
  | .alloc _ | .box _ | .lit _ _ _ _ | .mkmap _ | .mkslice _ _ _ _ _ | .range _ => .A
  | .append _ _ _ _ | .next _ | .store _ _ _ | .mapset _ _ _ _ | .recover => .E
  | _ => .P

def kdStm : Stm → Kd
  | .op o => kdOp o
  | _ => .E

/-- A place that is read: so many cells of a block, or a block whole. -/
inductive Loc where
  | cells (b o n : Nat)
  | blk (b : Nat)
  | sz (b size : Nat)
  | none

def locOp (o : IOp) (e : Env) : Loc :=
  match o with
  | .load n a => match ev e a with
    | .pointer (some ⟨b, o, _⟩) => match n with
      | .none => .cells b o 1
      | .some n => .cells b o n
    | _ => .none
  | .lookup _ _ _ m _ => match ev e m with
    | .map (some b) => .blk b
    | _ => .none
  | .len .mp m => match ev e m with
    | .map (some b) => .blk b
    | _ => .none
  | .sub k x _ _ _ => match k, ev e x with
    | .sl size, .slice (some a) _ _ => .sz a.block size
    | .ar _ _, .pointer (some a) => .sz a.block 0
    | _, _ => .none
  | _ => .none

def locStm (m : Stm) (e : Env) : Loc :=
  match m with
  | .op o => locOp o e
  | _ => .none

def sameAt (h h' : Heap) : Loc → Prop
  | .cells b o n => h.cells b o n = h'.cells b o n
  | .blk b => h.get b = h'.get b
  | .sz b size => okSz h b size = okSz h' b size
  | .none => True

def allAnc (i : Nat) (anc : List (List Nat)) : List Step → Nat → Bool
  | [], _ => true
  | _ :: rest, k => (anc.getD k []).contains i && allAnc i anc rest (k + 1)

/-- What is not known any more. -/
def unk : Value := .chan none
def forget (e : Env) (ds : List Nat) : Env := fun j => if ds.contains j then unk else e j

/-- Each read's place must be as it was behind each effect that may come on its other side; so must be what was made new ahead of an effect that doesn't hang on it. -/
noncomputable def idraw (call : CallF) (anc : List (List Nat)) (ds : List Nat) : List Step → Nat → List (Nat × Loc) → List (Nat × Heap × Heap) → St → Option (Option Value × St)
  | [], _, _, _, s => some (none, s)
  | x :: rest, i, rs, es, s =>
    if wantedE s.e x.grd then
      match istm call x.dst x.stm s with
      | some (none, s') =>
        match kdStm x.stm with
        | .P => idraw call anc ds rest (i + 1) rs es s'
        | .R => if (∀ p ∈ es, p.1 ∈ anc.getD i [] ∨ sameAt p.2.1 p.2.2 (locStm x.stm s.e)) then idraw call anc ds rest (i + 1) ((i, locStm x.stm s.e) :: rs) es s' else none
        | .A => idraw call anc ds rest (i + 1) ((i, .blk s.h.next) :: rs) es s'
        | .E => if (∀ p ∈ rs, p.1 ∈ anc.getD i [] ∨ sameAt s.h s'.h p.2) then idraw call anc ds rest (i + 1) rs ((i, s.h, s'.h) :: es) s' else none
      | some (some v, s') => if allAnc i anc rest (i + 1) then some (some v, { s' with e := forget s.e ds }) else none
      | none => none
    else idraw call anc ds rest (i + 1) rs es { s with e := dstUpd s.e x.dst undef }

def exOf : Option (Option Value × St) → Option (Ex × St)
  | some (none, s) => some (.normal, s)
  | some (some v, s) => some (.pan v, s)
  | none => none

def jmpEx : Jmp → Ex
  | .ret => .ret
  | .brk id => .brk id

def setPs (e : Env) : List Nat → List Value → Env
  | p :: ps, v :: vs => setPs (upd e p v) ps vs
  | _, _ => e

def loopCode (f : IC → St → Option (Ex × St)) (b : IC) : Nat → St → Option (Ex × St)
  | 0, _ => none
  | n + 1, s => match f b s with
    | some (.normal, s') => loopCode f b n s'
    | r => r

noncomputable def icode (call : CallF) (n : Nat) : IC → St → Option (Ex × St)
  | .skip, s => some (.normal, s)
  | .ops l, s => exOf (iops call l s)
  | .draw l anc, s => exOf (idraw call anc (l.filterMap (·.dst)) l 0 [] [] s)
  | .seq a b, s => match icode call n a s with
    | some (.normal, s') => icode call n b s'
    | r => r
  | .cond c a b, s => match ev s.e c with
    | .bool true => icode call n a s
    | .bool false => icode call n b s
    | _ => none
  | .block id b, s => match icode call n b s with
    | some (.brk i, s') => if i = id then some (.normal, s') else some (.brk i, s')
    | r => r
  | .loop b, s => loopCode (fun _ s => icode call n b s) b n s
  | .exit id, s => some (.brk id, s)
  | .ret, s => some (.ret, s)
  | .rangeF f ps asg body, s => match s.d with
    | none => none
    | some ds => match target (ev s.e f) [.func (.yield (s.h.next + 1)) #[] #[]] with
      | some (.fn g, vs) => match call (.fn g) vs ((s.h.new .dfr).new (.loop ⟨.ready, none, s.e, ps, asg, body⟩)) with
        | some (.ret _, h') => match h'.get (s.h.next + 1) with
          | some (.loop L) => if L.st = LSt.busy then none else
            match L.pend with
            | none => some (.normal, { s with h := h'.set (s.h.next + 1) (.loop { L with st := .gone }), d := some (Dfr.mark s.h.next :: ds) })
            | some j => some (jmpEx j, { s with h := h'.set (s.h.next + 1) (.loop { L with st := .gone }), d := some (Dfr.mark s.h.next :: ds) })
          | _ => none
        | some (.pan v, h') => some (.pan v, { s with h := h', d := some (Dfr.mark s.h.next :: ds) })
        | none => none
      | _ => none

inductive RV where
  | tmp (t : Nat)
  | cell (a : Nat) (n : Option Nat)

/-- nt: how many temporaries. -/
structure IFn where
  nt : Nat
  code : IC
  res : List RV

structure Tbl where
  fn : FuncId → Option IFn
  prim : FuncId → Option (List Value → Option Value)

def args0 (args : List Value) : Env := fun i => args.getD i undef

def resV (e : Env) (h : Heap) : RV → Option Value
  | .tmp t => some (e t)
  | .cell a n => match e a with
    | .pointer (some ⟨b, o, none⟩) => match n with
      | none => h.cell b o
      | some n => (h.cells b o n).map fun cs => .agg cs.toArray
    | _ => none

def resAll (e : Env) (h : Heap) : List RV → Option (List Value)
  | [] => some []
  | r :: rs => match resV e h r, resAll e h rs with
    | some v, some vs => some (v :: vs)
    | _, _ => none

/-- Behind a panic that was recovered. -/
def resVP (e : Env) (h : Heap) : RV → Option Value
  | .tmp t => match e t with
    | .chan _ => none
    | v => some v
  | r => resV e h r

def resAllP (e : Env) (h : Heap) : List RV → Option (List Value)
  | [] => some []
  | r :: rs => match resVP e h r, resAllP e h rs with
    | some v, some vs => some (v :: vs)
    | _, _ => none

def tup : List Value → Value
  | [v] => v
  | vs => .tuple vs.toArray

/-- In a deferred call's own activation: m is what is being panicked with and not recovered yet. -/
def iopsD : List Step → Option Value → St → Option (Option Value × St)
  | [], m, s => some (m, s)
  | x :: rest, m, s =>
    if wantedE s.e x.grd then
      match x.stm with
      | .op .recover => match m with
        | some v => iopsD rest none { s with e := dstUpd s.e x.dst v }
        | none => iopsD rest none { s with e := dstUpd s.e x.dst .nilIface }
      | .op o => match iop o s.e s.h with
        | some (v, h) => iopsD rest m { s with e := dstUpd s.e x.dst v, h := h }
        | none => none
      | _ => none
    else iopsD rest m { s with e := dstUpd s.e x.dst undef }

def hasRec : List Step → Bool
  | [] => false
  | x :: rest => (match x.stm with | .op .recover => true | _ => false) || hasRec rest

noncomputable def icodeD (call : CallF) (n : Nat) : IC → Option Value → St → Option (Ex × Option Value × St)
  | .ops l, m, s => if hasRec l then (iopsD l m s).map fun r => (.normal, r.1, r.2) else (icode call n (.ops l) s).map fun r => (r.1, m, r.2)
  | .seq a b, m, s => match icodeD call n a m s with
    | some (.normal, m', s') => icodeD call n b m' s'
    | r => r
  | .cond c a b, m, s => match ev s.e c with
    | .bool true => icodeD call n a m s
    | .bool false => icodeD call n b m s
    | _ => none
  | c, m, s => (icode call n c s).map fun r => (r.1, m, r.2)

noncomputable def idefer (call : CallF) (T : Tbl) (n : Nat) : List Dfr → Option Value → Heap → Option (Option Value × Heap)
  | [], m, h => some (m, h)
  | .mark b :: ds, m, h => match h.get b with
    | some .dfr => idefer call T n ds m (h.set b .dead)
    | _ => none
  | .fn f args :: ds, m, h => match T.fn f with
    | none => none
    | some fn => if fn.nt < args.length then none else match icodeD call n fn.code m ⟨args0 args, h, some []⟩ with
      | some (.normal, m', ⟨e', h', some []⟩) => match resAll e' h' fn.res with
        | some _ => idefer call T n ds m' h'
        | none => none
      | some (.ret, m', ⟨e', h', some []⟩) => match resAll e' h' fn.res with
        | some _ => idefer call T n ds m' h'
        | none => none
      | _ => none

noncomputable def ileave (call : CallF) (T : Tbl) (n : Nat) (fn : IFn) (m : Option Value) (s : St) : Option (Out × Heap) :=
  match s.d with
  | none => none
  | some ds => match idefer call T n ds m s.h with
    | some (none, h) => (match m with
      | none => resAll s.e h fn.res
      | some _ => resAllP s.e h fn.res).map fun vs => (.ret (tup vs), h)
    | some (some v, h) => some (.pan v, h)
    | none => none

noncomputable def icall (T : Tbl) : Nat → CallF
  | 0, _, _, _ => none
  | n + 1, .fn f, args, h =>
    match T.fn f with
    | some fn => if fn.nt < args.length then none else match icode (icall T n) n fn.code ⟨args0 args, h, some []⟩ with
      | some (.normal, s) => ileave (icall T n) T n fn none s
      | some (.ret, s) => ileave (icall T n) T n fn none s
      | some (.pan v, s) => ileave (icall T n) T n fn (some v) s
      | _ => none
    | none => match T.prim f with
      | some p => (p args).map fun v => (.ret v, h)
      | none => none
  | n + 1, .yld l, args, h =>
    match h.get l with
    | some (.loop L) =>
      if args.length = L.ps.length then
        match icode (icall T n) n L.asg ⟨setPs L.e L.ps args, h, none⟩ with
        | some (.normal, s) => match s.h.get l with
          | some (.loop L1) =>
            if L1.st = LSt.ready then
              match icode (icall T n) n L.body { s with h := s.h.set l (.loop { L1 with st := .busy }) } with
              | some (.pan _, _) => none
              | some (x, s2) => match s2.h.get l with
                | some (.loop L2) => match x with
                  | .normal => some (.ret (.bool true), s2.h.set l (.loop { L2 with st := .ready, pend := none }))
                  | .ret => some (.ret (.bool false), s2.h.set l (.loop { L2 with st := .done, pend := some .ret }))
                  | .brk id => some (.ret (.bool false), s2.h.set l (.loop { L2 with st := .done, pend := some (.brk id) }))
                  | .pan _ => none
                | _ => none
              | none => none
            else none
          | _ => none
        | _ => none
      else none
    | _ => none

end Go.Idl
