/-
  Texts joined, part 2: Lg, LgR, LgS, LgO, LgQ, LgC, LgMix, LgMixB.
-/
import Derived.Test.YtbeoilidocfofaaGreatDoorM1
import Derived.Laws.Tables
import Derived.Laws.CopyRow
import Derived.Deep.Quiet
import Derived.StillTail
import Derived.Lib.ConvBytes
import Derived.Lib.AppendStr
import Derived.Laws.BytesString
set_option linter.all false
namespace Go.Lg
structure LB where
 cells:List Value
 elem:TypeId
 rw:Bool
structure LH where
 n:Nat
 get:Nat->Option LB
 hole:Nat->Prop
 base:World
 ng:Nat
def LH.empty (w:World) (g:Nat):LH:=⟨0,fun _=>none,fun _=>False,w,g⟩
def LH.D (H:LH) (l:Nat):Prop:=l<H.n/\ ¬H.hole l
def LH.new (H:LH) (b:LB):LH:=⟨H.n+1,fun l=>if l=H.n then some b else H.get l,H.hole,H.base,H.ng⟩
def LH.set (H:LH) (l:Nat) (b:LB):LH:=⟨H.n,fun k=>if k=l then some b else H.get k,H.hole,H.base,H.ng⟩
def LH.kill (H:LH) (l:Nat):LH:=⟨H.n,fun k=>if k=l then none else H.get k,H.hole,H.base,H.ng⟩
def LH.ro (H:LH):LH:=⟨H.n,fun l=>(H.get l).map fun b=> { b with rw:=false },H.hole,H.base,H.ng⟩
def LH.le (H H':LH):Prop:=H.n<=H'.n/\ ∀l,l<H.n->H'.get l=H.get l
def tg:Value:=.chan (some 0)
def aA:Value->Bool
 |.bool _|.int _ _|.float _ _|.complex _ _ _|.string _|.nilFunc|.nilIface=>true
 |.pointer none=>true
 |.slice none n c=>n==0&&c==0
 |.map none=>true
 |.func (.func _) first captured=>first.size==0&&captured.size==0
 |_=>false
def az:Value->Bool
 |.agg cs=>cs.toList.all aA
 |v=>aA v
def ao:Value->Bool
 |.tuple vs=>vs.toList.all az
 |v=>az v
def aC:Value->Bool
 |.agg _|.tuple _|.chan _=>false
 |_=>true
def bO:Value->Bool
 |.chan _=>false
 |_=>true
abbrev Fr:=Nat->Value
def upd (fr:Fr) (d:Nat) (v:Value):Fr:=fun t=>if t=d then v else fr t
def ev (fr:Fr):Operand->Value
 |.tmp t=>fr t
 |.const v=>if ao v then v else tg
 |.global _=>tg
 |.func f=>.func (.func f) #[] #[]
def aU {α:Type} (P:Program):Sem α->Option α
 |.pure a=>some a
 |.program k=>aU P (k P)
 |.mark _ k=>aU P k
 |_=>none
def aO (P:Program) (s:Sem Value):Option Value:=
 match aU P s with
 |some v=>if ao v then some v else none
 |none=>none
abbrev Callee:=FuncId->List Value->LH->Option (Value×LH)
def sz (P:Program) (t:TypeId):Option Nat:=(P.info? t).map (·.size)
def zr (P:Program) (t:TypeId):Option Value:=(P.info? t).bind (·.zero)
def Il (P:Program) (t:TypeId):Option Nat:=(P.info? t).map (·.bytes)
def M3:TypeDesc->Bool
 |.struct _|.array _ _=>true
 |_=>false
def aF (P:Program) (t:TypeId):Option Bool:=(P.underlying t).map M3
def fR (b:LB) (o n:Nat):Option (List Value):=if o+n<=b.cells.length then some ((b.cells.drop o).take n)else none
def fA (P:Program) (t:TypeId) (l o:Nat) (H:LH):Option Value:=
 match H.get l with
 |some b=>
  match aF P t,sz P t with
  |some true,some s=>(fR b o s).map fun cs=>.agg cs.toArray
  |some false,_=>b.cells[o]?
  |_,_=>none
 |none=>none
def aW (cs:List Value) (o:Nat) (vs:List Value):List Value:=cs.take o++vs++cs.drop (o+vs.length)
def fS (P:Program) (t:TypeId) (l o:Nat) (v:Value) (H:LH):Option LH:=
 match H.get l,sz P t with
 |some b,some s=>
  if b.rw&&v.cells.toList.length==s&&v.cells.toList.all aC&&decide (o+v.cells.toList.length<=b.cells.length)then some (H.set l { b with cells:=aW b.cells o v.cells.toList })
  else none
 |_,_=>none
def bL (P:Program) (op:BinOp) (t:TypeId) (x y:Value):Option Value:=
 match x,y with
 |.pointer none,.pointer b=>match P.underlying t,op with
  |some (.pointer _),.eql=>some (.bool b.isNone)
  |some (.pointer _),.neq=>some (.bool (!b.isNone))
  |_,_=>none
 |.pointer a,.pointer none=>match P.underlying t,op with
  |some (.pointer _),.eql=>some (.bool a.isNone)
  |some (.pointer _),.neq=>some (.bool (!a.isNone))
  |_,_=>none
 |.slice none _ _,.slice b _ _=>match P.underlying t,op with
  |some (.slice _),.eql=>some (.bool b.isNone)
  |some (.slice _),.neq=>some (.bool (!b.isNone))
  |_,_=>none
 |.slice a _ _,.slice none _ _=>match P.underlying t,op with
  |some (.slice _),.eql=>some (.bool a.isNone)
  |some (.slice _),.neq=>some (.bool (!a.isNone))
  |_,_=>none
 |.func (.func _) _ _,.nilFunc=>match P.underlying t,op with
  |some (.func _ _ _),.eql=>some (.bool false)
  |some (.func _ _ _),.neq=>some (.bool true)
  |_,_=>none
 |.nilIface,_=>none
 |x,y=>if ao x&&ao y then aO P (do eqGuard op t (.tmp 0) (.tmp 0) x y;binOp op t x y)else none
def cD (fr:Fr) (dflt:Nat):Option Operand->Option Nat
 |none=>some dflt
 |some x=>match ev fr x with
  |.int _ i=>if 0<=i then some i.toNat else none
  |_=>none
def ka (P:Program) (t:TypeId) (x:Value) (fr:Fr) (lo hi:Option Operand):Option Value:=
 match P.underlying t,x with
 |some .string,.string s=>
  match cD fr 0 lo,cD fr s.size hi with
  |some a,some b=>if a<=b/\b<=s.size then some (.string (s.extract a b))else none
  |_,_=>none
 |some (.slice e),.slice a n c=>
  match cD fr 0 lo,cD fr n hi,sz P e with
  |some i,some j,some s=>if i<=j/\j<=n then
    match a with
    |some ⟨l,o,none⟩=>some (.slice (some ⟨l,o+i*s,none⟩) (j-i) (c-i))
    |none=>some (.slice none 0 0)
    |_=>none
   else none
  |_,_,_=>none
 |_,_=>none
def l9 (P:Program) (t:TypeId) (parts:List (Nat×Value)):Option Value:=
 if parts.all (fun p=>bO p.2)&&(zr P t).any ao then
  match P.underlying t with
  |some (.struct _)=>(P.built t parts).map .agg
  |_=>none
 else none
def aG (P:Program) (t:TypeId) (len:Nat) (parts:List (Nat×Value)) (H:LH):Option (Value×LH):=
 match P.underlying t with
 |some (.slice e)=>
  match sz P e,zr P e with
  |some s,some z=>
   if ao z&&decide (0<s)&&decide (len*s<=65536)&&z.cells.size==s&&parts.all (fun p=>bO p.2)then
    match Instr.fill (fun j=>some (j*s,s)) ((Array.range (len*s)).map fun j=>z.cells[j%z.cells.size]!) parts with
    |some cs=>if cs.size=len*s then some (.slice (some ⟨H.n,0,none⟩) len len,H.new ⟨cs.toList,e,true⟩)else none
    |none=>none
   else none
  |_,_=>none
 |_=>none
def gv (P:Program) (t:TypeId) (l c:Value) (H:LH):Option (Value×LH):=
 match P.underlying t,l,c with
 |some (.slice e),.int _ l,.int _ c=>
  match P.info? e with
  |some i=>
   match i.zero with
   |some z=>
    if ao z&&decide (0<i.size)&&decide (0<=l)&&decide (l<=c)&&decide (c.toNat*i.size<=1048576)&&decide (i.bytes<=1048576)&&z.cells.size==i.size then
     some (.slice (some ⟨H.n,0,none⟩) l.toNat c.toNat,H.new ⟨((Array.range (c.toNat*i.size)).map fun j=>z.cells[j%z.cells.size]!).toList,e,true⟩)
    else none
   |none=>none
  |none=>none
 |_,_,_=>none
def aH:Nat:=1048576
def qU (s:Nat) (y:Value) (H:LH):Option (Nat×List Value):=
 match y with
 |.slice none 0 0=>some (0,[])
 |.slice (some ⟨l,o,none⟩) m _=>match H.get l with
  |some b=>(fR b o (m*s)).map fun cs=>(m,cs)
  |none=>none
 |_=>none
def ax (P:Program) (e:TypeId):Option Nat:=
 match P.info? e with
 |some i=>match i.zero with
  |some z=>if z.cells.size=i.size/\0<i.size/\i.bytes<=1048576 then some i.size else none
  |none=>none
 |none=>none
def qV (P:Program) (u e:TypeId) (s:Nat) (y:Value):Option (Nat×List Value):=
 match P.underlying u,y,zr P e with
 |some .string,.string bs,some (.int .u8 z)=>if s=1/\z=0/\Il P e=some 1 then some (bs.size,Lib.strCells bs)else none
 |_,_,_=>none
def MK (P:Program) (e:TypeId):TypeId:=P.types.size
def nX (P:Program) (e:TypeId) (s l o n c:Nat) (b:LB) (m:Nat) (new:List Value) (H:LH):Option (Value×LH):=
 if b.rw=true/\b.elem=MK P e/\s=1/\o=0/\b.cells.length=c/\n=c/\0<n/\0<m/\n+m<=aH then
  some (.slice (some ⟨H.n,0,none⟩) (n+m) (n+m),(H.kill l).new ⟨b.cells++new,MK P e,true⟩)
 else none
def eG (P:Program) (t u:TypeId) (x y:Value) (H:LH):Option (Value×LH):=
 match P.underlying t with
 |some (.slice e)=>
  match ax P e with
  |some s=>
   match (if t=u then qU s y H else qV P u e s y)with
   |some (m,new)=>
    if new.all aC then
     match x with
     |.slice none 0 0=>if m=0 then some (x,H)else if m<=aH then some (.slice (some ⟨H.n,0,none⟩) m m,H.new ⟨new,e,true⟩)else none
     |.slice (some ⟨l,o,none⟩) n c=>
      match H.get l with
      |some b=>
       if b.rw=true/\b.elem=e/\o=0/\b.cells.length=c*s/\n<=c then
        if m=0 then some (x,H)
        else if n+m<=c then some (.slice (some ⟨l,0,none⟩) (n+m) c,H.set l { b with cells:=aW b.cells (n*s) new })
        else if n=c/\n+m<=aH then some (.slice (some ⟨H.n,0,none⟩) (n+m) (n+m),(H.kill l).new ⟨b.cells++new,e,true⟩)
        else none
       else nX P e s l o n c b m new H
      |none=>none
     |_=>none
    else none
   |none=>none
  |none=>none
 |_=>none
def aI (P:Program) (b:Builtin) (argTypes:List TypeId) (args:List Value) (H:LH):Option (Value×LH):=
 match b,argTypes,args with
 |.len,[t],[x]=>match P.underlying t,x with
  |some .string,.string s=>some (.int .i64 s.size,H)
  |some (.slice _),.slice _ n _=>some (.int .i64 n,H)
  |_,_=>none
 |.append,[t,u],[x,y]=>eG P t u x y H
 |.min,_,[.int k x,.int _ y]=>some (.int k (if y<x then y else x),H)
 |.max,_,[.int k x,.int _ y]=>some (.int k (if x<y then y else x),H)
 |_,_,_=>none
def bE (P:Program) (T:Callee) (f:Value) (args:List Value) (H:LH):Option (Value×LH):=
 match f with
 |.func (.func g) first captured=>T g (first.toList++args++captured.toList) H
 |_=>none
def fc:Value->Option UInt8
 |.int .u8 n=>some (UInt8.ofNat n.toNat)
 |_=>none
def kT (P:Program) (src dst:TypeId) (x:Value) (H:LH):Option Value:=
 match P.underlying src,P.underlying dst,x with
 |some (.slice e),some .string,.slice (some ⟨l,o,none⟩) n _=>
  match P.underlying e with
  |some (.int .u8)=>match H.get l with
   |some b=>match fR b o n with
    |some cs=>(cs.mapM fc).map fun bs=>.string ⟨bs.toArray⟩
    |none=>none
   |none=>none
  |_=>none
 |_,_,_=>none
def bS (P:Program) (T:Callee) (o:Oper) (fr:Fr) (H:LH):Option (Value×LH):=
 match o.op with
 |.move x|.assign x=>some (ev fr x,H)
 |.pick c a b=>match ev fr c with
  |.bool t=>some (if t then ev fr a else ev fr b,H)
  |_=>none
 |.box e x=>if bO (ev fr x)&&sz P e==some (ev fr x).cells.size then some (.pointer (some ⟨H.n,0,none⟩),H.new ⟨(ev fr x).cells.toList,e,true⟩)else none
 |.alloc e=>match zr P e with
  |some z=>if ao z&&sz P e==some z.cells.size then some (.pointer (some ⟨H.n,0,none⟩),H.new ⟨z.cells.toList,e,true⟩)else none
  |none=>none
 |.load t a=>match ev fr a with
  |.pointer (some ⟨l,off,none⟩)=>(fA P t l off H).map fun v=>(v,H)
  |_=>none
 |.store t a x=>match ev fr a with
  |.pointer (some ⟨l,off,none⟩)=>(fS P t l off (ev fr x) H).map fun H'=>(undef,H')
  |_=>none
 |.nilCheck x=>match ev fr x with
  |.pointer (some a)=>some (.pointer (some a),H)
  |.func (.func g) first captured=>some (.func (.func g) first captured,H)
  |_=>none
 |.fieldAddr s x f=>match ev fr x,P.underlying s with
  |.pointer (some ⟨l,off,none⟩),some (.struct fs)=>match fs[f]? with
   |some fd=>match sz P fd.type with
    |some s=>if s=0 then none else some (.pointer (some ⟨l,off+fd.offset,none⟩),H)
    |none=>none
   |none=>none
  |_,_=>none
 |.indexAddr t x i=>match ev fr x,ev fr i,P.underlying t with
  |.slice (some ⟨l,off,none⟩) n _,.int _ k,some (.slice e)=>match sz P e with
   |some s=>if 0<=k/\k<n then some (.pointer (some ⟨l,off+k.toNat*s,none⟩),H)else none
   |none=>none
  |_,_,_=>none
 |.slice t x lo hi none=>(ka P t (ev fr x) fr lo hi).map fun v=>(v,H)
 |.field t x f=>match P.underlying t,ev fr x with
  |some (.struct fs),.agg cs=>match fs[f]? with
   |some fd=>match aF P fd.type,sz P fd.type with
    |some true,some s=>some (.agg (cs.extract fd.offset (fd.offset+s)),H)
    |some false,_=>(cs[fd.offset]?).map fun v=>(v,H)
    |_,_=>none
   |none=>none
  |_,_=>none
 |.extract x i=>match ev fr x with
  |.tuple vs=>(vs[i]?).map fun v=>(v,H)
  |_=>none
 |.build t parts=>(l9 P t (parts.toList.map fun p=>(p.1,ev fr p.2))).map fun v=>(v,H)
 |.buildSlice t len parts=>aG P t len (parts.toList.map fun p=>(p.1,ev fr p.2)) H
 |.makeSlice t l c=>gv P t (ev fr l) (ev fr c) H
 |.makeFunc (.func g) first captured=>some (.func (.func g) (first.map (ev fr)) (captured.map (ev fr)),H)
 |.binOp op t x y _=>(bL P op t (ev fr x) (ev fr y)).map fun v=>(v,H)
 |.unOp op _ x=>if ao (ev fr x)then(aO P (Op.unary op (ev fr x))).map fun v=>(v,H)else none
 |.convert src dst x=>if ao (ev fr x)then(aO P (convert src dst (ev fr x))).map fun v=>(v,H)else(kT P src dst (ev fr x) H).map fun v=>(v,H)
 |.index t x i=>if ao (ev fr x)&&ao (ev fr i)then(aO P (Instr.index t (ev fr x) (ev fr i))).map fun v=>(v,H)else none
 |.call c=>match c.callee with
  |.value f=>bE P T (ev fr f) (c.args.toList.map (ev fr)) H
  |.builtin b=>aI P b c.argTypes.toList (c.args.toList.map (ev fr)) H
  |.invoke _ _=>none
 |_=>none
def aQ (ops:Array Oper) (fr:Fr) (o:Oper):Option Bool:=
 match o.guard with
 |none=>some true
 |some (j,want)=>match (ops[j]?).bind (·.dst)with
  |none=>some false
  |some d=>match fr d with
   |.bool b=>some (b==want)
   |v=>if ao v then some false else none
def bb (N:Nat) (fr:Fr) (d:Option Tmp) (v:Value):Option Fr:=
 match d with
 |some d=>if d<N then some (upd fr d v)else none
 |none=>some fr
def bM (P:Program) (s d:TypeId) (x:Value) (H:LH):Option (Value×LH):=
 match P.underlying s,P.underlying d,x with
 |some .string,some (.slice e),.string bs=>match P.underlying e with
  |some (.int .u8)=>if sz P e=some 1 then some (.slice (some ⟨H.n,0,none⟩) bs.size bs.size,H.new ⟨Lib.strCells bs,MK P e,decide (bs.size<=maxLen)⟩)else none
  |_=>none
 |_,_,_=>none
def fB (P:Program) (s d:TypeId) (x:Value) (H:LH):Option (Value×LH):=
 match P.underlying s,x with
 |some (.slice e),.slice (some ⟨l,0,none⟩) n c=>match H.get l with
  |some b=>match P.underlying e with
   |some (.int .u8)=>if s=d/\b.rw=true/\b.elem=e/\sz P e=some 1/\0<n then some (x,H.set l ⟨b.cells,MK P e,true⟩)else none
   |_=>none
  |none=>none
 |_,_=>none
def db (P:Program) (s d:TypeId) (x:Value) (H:LH):Option (Value×LH):=match bM P s d x H with
 |some r=>some r
 |none=>fB P s d x H
def fD (P:Program) (T:Callee) (o:Oper) (fr:Fr) (H:LH):Option (Value×LH):=
 match o.op with
 |.convert s d x=>match db P s d (ev fr x) H with
  |some r=>some r
  |none=>bS P T o fr H
 |_=>bS P T o fr H
def cL (P:Program) (T:Callee) (N:Nat) (all:Array Oper):List Oper->Fr->LH->Option (Fr×LH)
 | [],fr,H=>some (fr,H)
 |o::os,fr,H=>
  match aQ all fr o with
  |some true=>
   match fD P T o fr H with
   |some (v,H')=>match bb N fr o.dst v with
    |some fr'=>cL P T N all os fr' H'
    |none=>none
   |none=>none
  |some false=>match bb N fr o.dst undef with
   |some fr'=>cL P T N all os fr' H
   |none=>none
  |none=>none
def bW (P:Program) (T:Callee) (o:Oper) (fr:Fr) (H:LH):Option Value:=
 match o.op with
 |.store _ _ _|.box _ _|.alloc _|.buildSlice _ _ _|.makeSlice _ _ _=>none
 |.call c=>match c.callee with
  |.value f=>match bE P T (ev fr f) (c.args.toList.map (ev fr)) H.ro with
   |some (v,_)=>if ao v then some v else none
   |none=>none
  |.builtin .append=>none
  |.builtin b=>(aI P b c.argTypes.toList (c.args.toList.map (ev fr)) H).map (·.1)
  |.invoke _ _=>none
 |_=>(bS P T o fr H).map (·.1)
structure Loud where
 fn:FuncId->Bool
 ch:Nat->Nat->Nat->Option (List (Nat×Nat))
 cv:TypeId->TypeId->Bool:=fun _ _=>false
 pm:Nat->Nat->Nat->List Nat:=fun _ _ _=> []
instance:CoeFun Loud (fun _=>FuncId->Bool):=⟨Loud.fn⟩
def aN (L:Loud):Op->Bool
 |.store _ _ _=>true
 |.call c=>match c.callee with
  |.builtin .append=>true
  |.value (.func g)=>L g
  |_=>false
 |_=>false
def bH (P:Program) (T:Callee) (o:Oper) (fr:Fr) (H0 H:LH):Option (Value×LH):=
 match o.op with
 |.store _ _ _=>none
 |.call c=>match c.callee with
  |.value f=>if H.n==H0.n||(ao (ev fr f)&&(c.args.toList.map (ev fr)).all ao)then(bW P T o fr H0).map fun v=>(v,H)else none
  |.builtin .append=>none
  |.builtin b=>(aI P b c.argTypes.toList (c.args.toList.map (ev fr)) H).map fun r=>(r.1,H)
  |.invoke _ _=>none
 |.convert s d x=>match bM P s d (ev fr x) H with
  |some r=>some r
  |none=>bS P T o fr H
 |_=>bS P T o fr H
def cQ (P:Program) (L:Loud) (T:Callee) (N:Nat) (all:Array Oper) (H0:LH):List Oper->Fr->LH->Option (Fr×LH)
 | [],fr,H=>some (fr,H)
 |o::os,fr,H=>
  if aN L o.op then cL P T N all (o::os) fr H
  else match o.dst with
  |none=>none
  |some d=>if d<N then
    match aQ all fr o with
    |some true=>
     match bH P T o fr H0 H with
     |some (v,H')=>cQ P L T N all H0 os (upd fr d v) H'
     |none=>none
    |some false=>cQ P L T N all H0 os (upd fr d undef) H
    |none=>none
   else none
def cE (L:Loud):List Oper->Nat
 | []=>0
 |o::os=>if aN L o.op then 0 else cE L os+1
def yR (L:Loud) (ops:Array Oper):Bool:=
 let n:=cE L ops.toList
 ((List.range ops.size).all fun i=>match ops[i]? with
  |some o=>o.after.toList.all fun e=>!Region.binds .any e||decide (e.on<i)
  |none=>true)&&
 ((List.range n).all fun i=>match ops[i]? with
  |some o=>(Oper.looksAt ops o).all fun t=>(List.range ops.size).all fun k=>(ops[k]?).bind (·.dst) !=some t||(decide (k<i)&&Region.waitsFor .any ops i k)
  |none=>true)&&
 ((List.range n).all fun i=>(List.range n).all fun k=>i==k||(ops[i]?).bind (·.dst) !=(ops[k]?).bind (·.dst))&&
 (decide (ops.size<=n)||(Region.sinkB .any ops n&&Region.chainB .any ops n))
class Cvt where
 cv:TypeId->TypeId->Bool
def Lb [Cvt]:Op->Bool
 |.convert s d _=>Cvt.cv s d
 |_=>false
def bo [Cvt]:Op->Bool
 |.convert s d _=>Cvt.cv s d
 |.store _ _ _|.box _ _|.alloc _|.buildSlice _ _ _|.makeSlice _ _ _=>true
 |.call c=>match c.callee with
  |.builtin .append=>true
  |.builtin _=>false
  |_=>true
 |_=>false
def Io [Cvt]:Op->Bool
 |.load _ _=>true
 |.convert s d _=>!Cvt.cv s d
 |_=>false
def ew (acc:List Nat):List Edge->Nat
 | []=>0
 |e::es=>if Region.binds .any e&&decide (e.on<acc.length)then(2^e.on|||acc.getD e.on 0)|||ew acc es else ew acc es
def cO:List Oper->List Nat->List Nat
 | [],acc=>acc
 |o::os,acc=>cO os (acc++ [ew acc o.after.toList])
def fE (ms:List Nat) (i k:Nat):Bool:=(ms.getD i 0).testBit k
def lv [Cvt]:Op->Bool
 |.convert s d _=>Cvt.cv s d
 |.box _ _|.alloc _|.buildSlice _ _ _=>true
 |_=>false
def kb [Cvt] (ops:Array Oper) (prs:List (Nat×Nat)):Bool:=
 let ms:=cO ops.toList []
 ((List.range ops.size).all fun i=>match ops[i]? with
  |some o=>o.after.toList.all fun e=>!Region.binds .any e||decide (e.on<i)
  |none=>true)&&
 ((List.range ops.size).all fun i=>match ops[i]? with
  |some o=>(Oper.looksAt ops o).all fun t=>(List.range ops.size).all fun k=>(ops[k]?).bind (·.dst) !=some t||(decide (i<k)&&fE ms k i)||(decide (k<i)&&fE ms i k&&match ops[k]? with
   |some o'=>!lv o'.op||(List.range k).all fun j=>match ops[j]? with
    |some o2=>!bo o2.op||fE ms i j
    |none=>true
   |none=>true)
  |none=>true)&&
 ((List.range ops.size).all fun i=>(List.range ops.size).all fun k=>i==k||((ops[i]?).bind (·.dst)).isNone||(ops[i]?).bind (·.dst) !=(ops[k]?).bind (·.dst))&&
 ((List.range ops.size).all fun i=>match ops[i]? with
  |some o=>(!Io o.op||o.dst.isSome)&&(!bo o.op||(List.range ops.size).all fun k=>match ops[k]? with
   |some o'=>i==k||fE ms i k||fE ms k i||(bo o'.op&&decide (k<i)&&lv o.op)||(bo o'.op&&decide (i<k)&&lv o'.op)||(!bo o'.op&&(!Io o'.op||prs.contains (k,i)))
   |none=>true)
  |none=>true)
def T0:Callee:=fun _ _ _=>none
def cY [Cvt] (P:Program) (T:Callee) (o:Oper) (fr:Fr) (H:LH):Option (Value×LH):=
 if Lb o.op then(match o.op with
  |.convert s d x=>bM P s d (ev fr x) H
  |_=>none)else bS P T o fr H
def fe [Cvt] (P:Program) (T:Callee) (N:Nat) (all:Array Oper):List Oper->Fr->LH->Option (Fr×LH)
 | [],fr,H=>some (fr,H)
 |o::os,fr,H=>
  match aQ all fr o with
  |some true=>
   match cY P T o fr H with
   |some (v,H')=>match bb N fr o.dst v with
    |some fr'=>fe P T N all os fr' H'
    |none=>none
   |none=>none
  |some false=>match bb N fr o.dst undef with
   |some fr'=>fe P T N all os fr' H
   |none=>none
  |none=>none
open Classical in
noncomputable def aY [Cvt] (P:Program) (T:Callee) (N:Nat) (all:Array Oper) (prs:List (Nat×Nat)):Nat->(Nat->Fr×LH)->List Oper->Fr->LH->Option (Fr×LH)
 |_,_,[],fr,H=>some (fr,H)
 |k,old,o::os,fr,H=>
  match aQ all fr o with
  |some true=>match cY P T o fr H with
   |some (v,H')=>match bb N fr o.dst v with
    |some fr'=>
     if(∀j,(k,j)∈prs->j<k->bS P T0 o fr (old j).2=some (v,(old j).2))/\
       (∀i,(i,k)∈prs->i<k-> ∀oi d,all[i]?=some oi->oi.dst=some d->aQ all (old i).1 oi=some true->bS P T0 oi (old i).1 H'=some (fr' d,H'))then
      aY P T N all prs (k+1) (fun j=>if j=k then(fr,H)else old j) os fr' H'
     else none
    |none=>none
   |none=>none
  |some false=>match bb N fr o.dst undef with
   |some fr'=>
    if∀i,(i,k)∈prs->i<k-> ∀oi d,all[i]?=some oi->oi.dst=some d->aQ all (old i).1 oi=some true->bS P T0 oi (old i).1 H=some (fr' d,H)then
     aY P T N all prs (k+1) (fun j=>if j=k then(fr,H)else old j) os fr' H
    else none
   |none=>none
  |none=>none
def dB (P:Program) (fr:Fr) (H:LH):ResultVar->Option Value
 |.tmp t=>some (fr t)
 |.cell a t=>match fr a with
  |.pointer (some ⟨l,off,none⟩)=>fA P t l off H
  |_=>none
def aX (P:Program) (fn:Func) (fr:Fr) (H:LH):Option Value:=
 match fn.results.toList.mapM (dB P fr H)with
 |some [v]=>some v
 |some vs=>some (.tuple vs.toArray)
 |none=>none
def eC:List Nat->Nat->Nat
 | [],_=>0
 |a::p,i=>if a=i then 0 else eC p i+1
def qW:List Oper->Nat->Oper
 | [],_=>⟨none,.move (.tmp 0),0,"",#[],none⟩
 |o::_,0=>o
 |_::l,n+1=>qW l n
def Ip (p:List Nat) (es:Array Edge):Array Edge:=es.map fun e=>⟨eC p e.on,e.ground⟩
def M4 (p:List Nat):Option (Nat×Bool)->Option (Nat×Bool)
 |none=>none
 |some (g,b)=>some (eC p g,b)
def lx (p:List Nat):Oper->Oper
 |⟨d,op,ty,pos,after,g⟩=>⟨d,op,ty,pos,Ip p after,M4 p g⟩
def pmap (p:List Nat) (l:List Oper):List Nat->List Oper
 | []=> []
 |i::is=>lx p (qW l i)::pmap p l is
def dD (p:List Nat) (l:List Oper):List Oper:=match p with
 | []=>l
 |a::p=>pmap (a::p) l (a::p)
def qX (p:List Nat) (ops:Array Oper):Bool:=p.isEmpty||
 (p.length==ops.size&&((List.range ops.size).all fun i=>decide (eC p i<ops.size)&&p.getD (eC p i) ops.size==i&&decide (p.getD i ops.size<ops.size)&&eC p (p.getD i ops.size)==i)&&
 ops.toList.all fun o=>(o.after.toList.all fun e=>decide (e.on<ops.size))&&match o.guard with
  |some (g,_)=>decide (g<ops.size)
  |none=>true)
def drawn (L:Loud) (N id:Nat) (ops:Array Oper):Array Oper:=⟨dD (L.pm N id ops.size) ops.toList⟩
noncomputable def dO (P:Program) (L:Loud) (T:Callee) (N id:Nat) (ops:Array Oper) (fr:Fr) (H:LH):Option (Fr×LH):=
 match L.ch N id ops.size with
 |none=>cQ P L T N ops H ops.toList fr H
 |some prs=>@aY ⟨L.cv⟩ P T N (drawn L N id ops) prs 0 (fun _=>(fr,H)) (drawn L N id ops).toList fr H
noncomputable def run (P:Program) (L:Loud) (T:Callee) (fn:Func):Nat->List Item->Fr->LH->Option (Value×LH)
 |0,_,_,_=>none
 |n+1,[],fr,H=>(aX P fn fr H).map fun v=>(v,H)
 |n+1,.code .skip::k,fr,H=>run P L T fn n k fr H
 |n+1,.code (.label _)::k,fr,H=>run P L T fn n k fr H
 |n+1,.code (.seq a b)::k,fr,H=>run P L T fn n (.code a::.code b::k) fr H
 |n+1,.code (.cond c x y)::k,fr,H=>match ev fr c with
  |.bool t=>if t then run P L T fn n (.code x::k) fr H else run P L T fn n (.code y::k) fr H
  |_=>none
 |n+1,.code (.block id c)::k,fr,H=>run P L T fn n (.code c::.inBlock id::k) fr H
 |n+1,.code (.loop c)::k,fr,H=>run P L T fn n (.code c::.inLoop c::k) fr H
 |n+1,.code (.exit id)::k,fr,H=>match exitTo id k with
  |some k'=>run P L T fn n k' fr H
  |none=>none
 |n+1,.code .ret::_,fr,H=>(aX P fn fr H).map fun v=>(v,H)
 |n+1,.code (.region _ ops false)::k,fr,H=>match cL P T fn.ntmps ops ops.toList fr H with
  |some (fr',H')=>run P L T fn n k fr' H'
  |none=>none
 |n+1,.code (.region id ops true)::k,fr,H=>match dO P L T fn.ntmps id ops fr H with
  |some (fr',H')=>run P L T fn n k fr' H'
  |none=>none
 |n+1,.inBlock _::k,fr,H=>run P L T fn n k fr H
 |n+1,.inLoop c::k,fr,H=>run P L T fn n (.code c::.inLoop c::k) fr H
 |_+1,_,_,_=>none
def l_ (L:Loud) (N id:Nat) (ops:Array Oper):Bool:=
 match L.ch N id ops.size with
 |none=>yR L ops
 |some prs=>qX (L.pm N id ops.size) ops&&@kb ⟨L.cv⟩ (drawn L N id ops) prs
def codeOk (L:Loud) (N:Nat):Code->Bool
 |.region id ops true=>l_ L N id ops
 |.seq a b=>codeOk L N a&&codeOk L N b
 |.cond _ a b=>codeOk L N a&&codeOk L N b
 |.block _ c=>codeOk L N c
 |.loop c=>codeOk L N c
 |.scope c=>codeOk L N c
 |_=>true
structure Env where
 ext:FuncId->Option (List Value->LH->Option (Value×LH))
 loud:Loud
instance:CoeFun Env (fun _=>FuncId->Option (List Value->LH->Option (Value×LH))):=⟨Env.ext⟩
open Classical in
noncomputable def trunc (H:LH) (r:Value×LH):Value×LH:=if ao r.1=true/\H.le r.2 then(r.1,H)else r
def enter (args:List Value):Fr:=fun t=>args.getD t undef
noncomputable def cz (P:Program) (ext:Env):Nat->Callee
 |0,_,_,_=>none
 |n+1,f,args,H=>
  match ext f with
  |some s=>s args H
  |none=>
   match P.funcs[f]? with
   |some fn=>match fn.body with
    |some c=>if args.length<=fn.ntmps/\fn.name≠ "runtime.NumGoroutine" /\codeOk ext.loud fn.ntmps c=true then(run P ext.loud (cz P ext n) fn n [.code c] (enter args) H).map (trunc H)else none
    |none=>none
   |none=>none
end Go.Lg
namespace Go.Lg
open Go.Tg Go.RowKit
structure Im where
 blk:Nat
 off:Nat
 slack:Nat
abbrev Ren:=Nat->Im
inductive VR (n:Nat->Prop) (ι:Ren):Value->Value->Prop
 |any (v):VR n ι (.chan (some 0)) v
 |flat (v):ao v=true->VR n ι v v
 |ptr (l o):n l->VR n ι (.pointer (some ⟨l,o,none⟩)) (.pointer (some ⟨(ι l).blk,(ι l).off+o,none⟩))
 |slice (l o k c):n l->k<=c->VR n ι (.slice (some ⟨l,o,none⟩) k c) (.slice (some ⟨(ι l).blk,(ι l).off+o,none⟩) k (c+(ι l).slack))
 |slice0 (l o a):n l->VR n ι (.slice (some ⟨l,o,none⟩) 0 0) (.slice (some a) 0 0)
 |agg (xs ys:Array Value):xs.size=ys.size->(∀(i:Nat) (v w:Value),xs[i]?=some v->ys[i]?=some w->VR n ι v w)->VR n ι (.agg xs) (.agg ys)
 |tuple (xs ys:Array Value):xs.size=ys.size->(∀(i:Nat) (v w:Value),xs[i]?=some v->ys[i]?=some w->VR n ι v w)->VR n ι (.tuple xs) (.tuple ys)
 |func (g:FuncId) (a b c d:Array Value):a.size=b.size->c.size=d.size->(∀(i:Nat) (v w:Value),a[i]?=some v->b[i]?=some w->VR n ι v w)->(∀(i:Nat) (v w:Value),c[i]?=some v->d[i]?=some w->VR n ι v w)->VR n ι (.func (.func g) a c) (.func (.func g) b d)
 |yld (l):n l->VR n ι (.func (.yield l) #[] #[]) (.func (.yield (ι l).blk) #[] #[])
theorem ja {n:Nat->Prop} {ι:Ren} {v w:Value} (h:VR n ι v w) (hv:aA v=true):w=v:=by
 cases h with
 |any=>simp [aA]at hv
 |flat=>rfl
 |ptr=>simp [aA]at hv
 |slice=>simp [aA]at hv
 |slice0=>simp [aA]at hv
 |agg=>simp [aA]at hv
 |tuple=>simp [aA]at hv
 |func fn a b c d h1 h2 h3 h4=>
  simp [aA]at hv;obtain⟨e1,e2⟩:=hv;have e3:b=#[]:=Array.eq_empty_of_size_eq_zero (by rw [<-h1,e1];rfl);have e4:d=#[]:=Array.eq_empty_of_size_eq_zero (by rw [<-h2,e2];rfl);rw [e1,e2,e3,e4]
 |yld=>simp [aA]at hv
theorem yS {n:Nat->Prop} {ι:Ren} {xs ys:Array Value} (hs:xs.size=ys.size) (h: ∀(i:Nat) (v w:Value),xs[i]?=some v->ys[i]?=some w->w=v):ys=xs:=by
 apply Array.ext hs.symm;intro i h1 h2;exact h i _ _ (Array.getElem?_eq_getElem h2) (Array.getElem?_eq_getElem h1)
theorem fF {n:Nat->Prop} {ι:Ren} {v w:Value} (h:VR n ι v w) (hv:az v=true):w=v:=by
 cases h with
 |agg xs ys hs h=>
  rw [yS (n:=n) (ι:=ι) hs fun i v w hx hy=>ja (h i v w hx hy) ?_];simp only [az,List.all_eq_true]at hv;exact hv v (by simpa using Array.mem_of_getElem? hx)
 |flat=>rfl
 |any=>simp [az,aA]at hv
 |ptr l o hl=>exact ja (n:=n) (ι:=ι) (.ptr l o hl) hv
 |slice l o k c hl hk=>exact ja (n:=n) (ι:=ι) (.slice l o k c hl hk) hv
 |slice0 l o a hl=>exact ja (n:=n) (ι:=ι) (.slice0 l o a hl) hv
 |tuple=>simp [az,aA]at hv
 |func fn a b c d h1 h2 h3 h4=>exact ja (n:=n) (ι:=ι) (.func fn a b c d h1 h2 h3 h4) hv
 |yld=>simp [az,aA]at hv
theorem aE {n:Nat->Prop} {ι:Ren} {v w:Value} (h:VR n ι v w) (hv:ao v=true):w=v:=by
 cases h with
 |tuple xs ys hs h=>
  rw [yS (n:=n) (ι:=ι) hs fun i v w hx hy=>fF (h i v w hx hy) ?_];simp only [ao,List.all_eq_true]at hv;exact hv v (by simpa using Array.mem_of_getElem? hx)
 |flat=>rfl
 |any=>simp [ao,az,aA]at hv
 |ptr l o hl=>exact fF (n:=n) (ι:=ι) (.ptr l o hl) hv
 |slice l o k c hl hk=>exact fF (n:=n) (ι:=ι) (.slice l o k c hl hk) hv
 |slice0 l o a hl=>exact fF (n:=n) (ι:=ι) (.slice0 l o a hl) hv
 |agg xs ys hs h=>exact fF (n:=n) (ι:=ι) (.agg xs ys hs h) hv
 |func fn a b c d h1 h2 h3 h4=>exact fF (n:=n) (ι:=ι) (.func fn a b c d h1 h2 h3 h4) hv
 |yld=>simp [ao,az,aA]at hv
theorem VR.mono {n n':Nat->Prop} {ι ι':Ren} {v w:Value} (h:VR n ι v w) (hn: ∀l,n l->n' l) (hi: ∀l,n l->ι' l=ι l):VR n' ι' v w:=by
 induction h with
 |any v=>exact .any v
 |flat v h=>exact .flat v h
 |ptr l o hl=>rw [<-hi l hl];exact .ptr l o (hn l hl)
 |slice l o k c hl hk=>rw [<-hi l hl];exact .slice l o k c (hn l hl) hk
 |slice0 l o a hl=>exact .slice0 l o a (hn l hl)
 |agg xs ys hs _ ih=>exact .agg xs ys hs ih
 |tuple xs ys hs _ ih=>exact .tuple xs ys hs ih
 |func fn a b c d h1 h2 _ _ ih1 ih2=>exact .func fn a b c d h1 h2 ih1 ih2
 |yld l hl=>rw [<-hi l hl];exact .yld l (hn l hl)
theorem VR.back {n n':Nat->Prop} {ι ι':Ren} {v w x:Value} (h:VR n' ι' v w) (h0:VR n ι v x) (hi: ∀l,n l->ι' l=ι l):VR n ι v w:=by
 induction h0 generalizing w with
 |any v=>exact .any w
 |flat v hv=>rw [aE h hv];exact .flat v hv
 |ptr l o hl=>
  cases h with
  |flat _ hv=>simp [ao,az,aA]at hv
  |ptr _ _ _=>rw [hi l hl];exact .ptr l o hl
 |slice l o k c hl hk=>
  cases h with
  |flat _ hv=>simp [ao,az,aA]at hv
  |slice _ _ _ _ _ _=>rw [hi l hl];exact .slice l o k c hl hk
  |slice0 _ _ a _=>exact .slice0 l o a hl
 |slice0 l o a hl=>
  cases h with
  |flat _ hv=>simp [ao,az,aA]at hv
  |slice _ _ _ _ _ _=>rw [hi l hl];exact .slice l o 0 0 hl (Nat.le_refl _)
  |slice0 _ _ a _=>exact .slice0 l o a hl
 |agg xs ys hs _ ih=>
  cases h with
  |flat _ hv=>exact .flat _ hv
  |agg _ zs hz hh=>
   refine .agg _ _ hz (fun i v w hx hy=>?_);have:i<ys.size:=by rw [<-hs];exact(Array.getElem?_eq_some_iff.1 hx).1
   exact ih i v _ hx (Array.getElem?_eq_getElem this) (hh i v w hx hy)
 |tuple xs ys hs _ ih=>
  cases h with
  |flat _ hv=>exact .flat _ hv
  |tuple _ zs hz hh=>
   refine .tuple _ _ hz (fun i v w hx hy=>?_);have:i<ys.size:=by rw [<-hs];exact(Array.getElem?_eq_some_iff.1 hx).1
   exact ih i v _ hx (Array.getElem?_eq_getElem this) (hh i v w hx hy)
 |func fn a b c d h1 h2 _ _ ih1 ih2=>
  cases h with
  |flat _ hv=>exact .flat _ hv
  |func _ _ b' _ d' g1 g2 g3 g4=>
   refine .func _ _ _ _ _ g1 g2 (fun i v w hx hy=>?_) (fun i v w hx hy=>?_)
   ·have:i<b.size:=by rw [<-h1];exact(Array.getElem?_eq_some_iff.1 hx).1
    exact ih1 i v _ hx (Array.getElem?_eq_getElem this) (g3 i v w hx hy)
   ·have:i<d.size:=by rw [<-h2];exact(Array.getElem?_eq_some_iff.1 hx).1
    exact ih2 i v _ hx (Array.getElem?_eq_getElem this) (g4 i v w hx hy)
 |yld l hl=>
  cases h with
  |flat _ hv=>simp [ao,az,aA]at hv
  |yld _ _=>rw [hi l hl];exact .yld l hl
def RW (H:LH) (ι:Ren) (k:Nat):Prop:= ∃l b,H.get l=some b/\b.rw=true/\(ι l).blk=k
def kc (P:Program) (e t:TypeId) (fr:Nat×Nat) (n:Nat):Prop:=(t=e/\fr=(0,0))\/(e=MK P t/\sz P t=some 1/\(fr=(n,n+1)\/fr=(0,0)))
theorem yT {P:Program} {t:TypeId} :sz P (MK P t)=none:=by
 have h:P.toTables.info? P.types.size=none:=by
  unfold Tables.info?;rw [if_neg (Nat.lt_irrefl _),show Made.depth=99+1 from rfl];unfold Made.infoAt;rw [if_neg (Nat.lt_irrefl _),Nat.sub_self,show Made.decode 0=none by decide+kernel];rfl
 unfold sz MK;rw [h];rfl
theorem kc.plain {P:Program} {e t:TypeId} {fr:Nat×Nat} {n s:Nat} (h:kc P e t fr n) (hs:sz P e=some s):t=e/\fr=(0,0):=by
 rcases h with h|⟨h,_⟩
 ·exact h
 ·rw [h,yT]at hs;cases hs
structure Rel (P:Program) (H:LH) (ι:Ren) (w:World):Prop where
 dom: ∀l,H.n<=l->H.get l=none
 hol: ∀l,H.hole l->l<H.n/\H.get l=none
 blk: ∀l b,H.get l=some b-> ∃arr t fr,w.heap[(ι l).blk]?=some (.cells arr t fr)/\(ι l).off+b.cells.length<=arr.size/\
  (∀i v,b.cells[i]?=some v-> ∃v',arr[(ι l).off+i]?=some v'/\VR H.D ι v v')/\
  (b.rw=true->(ι l).off=0/\kc P b.elem t fr arr.size/\ ∃s,sz P t=some s/\arr.size=b.cells.length+(ι l).slack*s/\ ∀n,s≠0->b.cells.length=n*s->n+(ι l).slack<=maxLen)
 sep: ∀l l' b b',H.get l=some b->H.get l'=some b'->b.rw=true->l≠l'->(ι l).blk≠(ι l').blk
 pin: ∀g,g<H.ng->w.heap[g]?=H.base.heap[g]?/\g<w.heap.size/\ ¬RW H ι g
theorem Rel.live {P:Program} {H:LH} {ι:Ren} {w:World} (h:Rel P H ι w) {l:Nat} {b:LB} (hb:H.get l=some b):H.D l:=by
 refine⟨?_,fun hh=>?_⟩
 ·rcases Nat.lt_or_ge l H.n with h1|h1
  ·exact h1
  ·rw [h.dom l h1]at hb;cases hb
 ·rw [(h.hol l hh).2]at hb;cases hb
theorem ed {P:Program} {H H':LH} {ι ι':Ren} {w w':World} (h:Rel P H ι w) (hc:Change (RW H ι) w w') (hrw: ∀k,RW H' ι' k->RW H ι k\/w.heap.size<=k) (hb:H'.base=H.base) (hg:H'.ng=H.ng): ∀g,g<H'.ng->w'.heap[g]?=H'.base.heap[g]?/\g<w'.heap.size/\ ¬RW H' ι' g:=by
 intro g hg';rw [hg]at hg';obtain⟨h1,h2,h3⟩:=h.pin g hg';refine⟨by rw [hb,hc.block g h2 h3];exact h1,Nat.lt_of_lt_of_le h2 hc.size,fun h4=>?_⟩;rcases hrw g h4 with h5|h5
 ·exact h3 h5
 ·omega
def lE (H:LH) (ι:Ren) (k:Nat):Prop:= ∃l b,H.get l=some b/\(ι l).blk=k
structure Out (P:Program) (H:LH) (ι:Ren) (w:World) (H':LH) (ι':Ren) (w':World):Prop where
 rel:Rel P H' ι' w'
 n:H.n<=H'.n
 sub: ∀l,H.D l->H'.D l
 same: ∀l,H.D l->ι' l=ι l
 chg:Change (RW H ι) w w'
 rw: ∀k,RW H' ι' k->RW H ι k\/w.heap.size<=k
 img: ∀k,lE H' ι' k->lE H ι k\/w.heap.size<=k
 ng:H'.ng=H.ng
theorem Out.refl {P:Program} {H:LH} {ι:Ren} {w:World} (h:Rel P H ι w):Out P H ι w H ι w:=⟨h,Nat.le_refl _,fun _ h=>h,fun _ _=>rfl,Change.refl _ _,fun _ h=>.inl h,fun _ h=>.inl h,rfl⟩
theorem Out.trans {P:Program} {H H1 H2:LH} {ι ι1 ι2:Ren} {w w1 w2:World} (h:Out P H ι w H1 ι1 w1) (k:Out P H1 ι1 w1 H2 ι2 w2):Out P H ι w H2 ι2 w2:=
 ⟨k.rel,Nat.le_trans h.n k.n,fun l hl=>k.sub l (h.sub l hl),fun l hl=>(k.same l (h.sub l hl)).trans (h.same l hl),h.chg.trans k.chg h.rw,
  fun x hx=>by
   rcases k.rw x hx with h1|h1
   ·exact h.rw x h1
   ·exact .inr (Nat.le_trans h.chg.size h1),
  fun x hx=>by
   rcases k.img x hx with h1|h1
   ·exact h.img x h1
   ·exact .inr (Nat.le_trans h.chg.size h1),k.ng.trans h.ng⟩
def bV (n:Nat->Prop) (ι:Ren) (N:Nat) (fr:Fr) (tmps:Array Value):Prop:=tmps.size=N/\ ∀t,VR n ι (fr t) (tmps.getD t undef)
theorem bV.mono {n n':Nat->Prop} {ι ι':Ren} {N:Nat} {fr:Fr} {tmps:Array Value} (h:bV n ι N fr tmps) (hn: ∀l,n l->n' l) (hi: ∀l,n l->ι' l=ι l):bV n' ι' N fr tmps:=⟨h.1,fun t=>(h.2 t).mono hn hi⟩
theorem bV.ev {n:Nat->Prop} {ι:Ren} {N:Nat} {fr:Fr} {a:Act} (h:bV n ι N fr a.tmps) (x:Operand):VR n ι (ev fr x) (a.eval x):=by
 cases x with
 |tmp t=>exact h.2 t
 |const v=>
  unfold Lg.ev;simp only;split
  ·exact .flat v ‹_›
  ·exact .any _
 |global g=>exact .any _
 |func f=>exact .flat _ rfl
theorem bV.put {n:Nat->Prop} {ι:Ren} {N:Nat} {fr fr':Fr} {a:Act} {d:Option Tmp} {v v':Value} (h:bV n ι N fr a.tmps) (hp:bb N fr d v=some fr') (hv:VR n ι v v'):bV n ι N fr' (a.put d v').tmps:=by
 cases d with
 |none=>simp only [bb,Option.some.injEq]at hp;subst hp;exact h
 |some d=>
  simp only [bb]at hp;split at hp
  ·rename_i hd;simp only [Option.some.injEq]at hp;subst hp;refine⟨by simp [Act.put,h.1],fun t=>?_⟩;have ht:=h.2 t;simp only [upd,Act.put,Array.getD_eq_getD_getElem?,Array.getElem?_setIfInBounds]at ht⊢;by_cases e:t=d
   ·subst e;simp [h.1,hd];exact hv
   ·rw [if_neg e,if_neg (fun h=>e h.symm)];exact ht
  ·cases hp
theorem put_defers (a:Act) (d:Option Tmp) (v:Value):(a.put d v).defers=a.defers:=by cases d<;>rfl
theorem bV.undef (n:Nat->Prop) (ι:Ren) {N:Nat} {fr fr':Fr} {a:Act} {d:Option Tmp} (h:bV n ι N fr a.tmps) (hp:bb N fr d undef=some fr'):bV n ι N fr' (a.put d Go.undef).tmps:=h.put hp (.flat _ rfl)
theorem cT {n:Nat->Prop} {ι:Ren} {N:Nat} {fr:Fr} {a:Act} {ops:Array Oper} (h:bV n ι N fr a.tmps) {o:Oper} {b:Bool} (hw:aQ ops fr o=some b):Region.wanted o (yielded ops a.tmps)=b:=by
 unfold aQ at hw;unfold Region.wanted;cases hg:o.guard with
 |none=>simp only [hg,Option.some.injEq]at hw⊢;exact hw
 |some g=>
  obtain⟨j,want⟩:=g;simp only [hg]at hw⊢;cases hd:(ops[j]?).bind (·.dst)with
  |none=>
   simp only [hd,Option.some.injEq]at hw;subst hw;unfold yielded;rw [hd];rfl
  |some d=>
   simp only [hd]at hw;have ht:=h.2 d
   have key: ∀v,fr d=v->ao v=true->yielded ops a.tmps j=(match v with|.bool b=>some b|_=>none):=by
    intro v hv hf;rw [hv]at ht;have:=aE ht hf;simp only [Array.getD_eq_getD_getElem?]at this;unfold yielded;rw [hd];simp only [Option.bind_some];cases hx:a.tmps[d]? with
    |none=>rw [hx]at this;simp at this;subst this;simp [Go.undef]
    |some z=>rw [hx]at this;simp at this;subst this;cases z<;>rfl
   cases hf:fr d with
   |bool c=>
    simp only [hf,Option.some.injEq]at hw;rw [key _ hf rfl,<-hw];cases c<;>cases want<;>rfl
   |_=>
    simp only [hf]at hw;split at hw
    ·simp only [Option.some.injEq]at hw;rw [key _ hf ‹_›,<-hw];rfl
    ·cases hw
theorem fg {α:Type} {P:Program} {s:Sem α} {x:α} (h:aU P s=some x) (w:World):s.run P w=.ok x w:=by
 induction s with
 |pure a=>simp only [aU,Option.some.injEq]at h;subst h;rfl
 |program k ih=>exact ih P h
 |mark m k ih=>exact ih h
 |_=>simp [aU]at h
def gA (P:Program) (H:LH) (ι:Ren) (o:Oper) (a:Act) (w:World) (v:Value) (H':LH):Prop:=
 ∀(K:Act->World->Prop) (Q:Exit->Act->World->Prop),(∀ι' v' w',Out P H ι w H' ι' w'->VR H'.D ι' v v'->K (a.put o.dst v') w')->o.wp P a w K Q
section
variable {P:Program} {H H':LH} {ι:Ren} {o:Oper} {a:Act} {w:World} {v v':Value} {N:Nat} {fr:Fr}
theorem cZ {w':World} {ι':Ren} (hrun:(execOp a.eval o).run P w=.ok (.value v') w') (hr:Out P H ι w H' ι' w') (hv:VR H'.D ι' v v'):gA P H ι o a w v H':=by
 intro K Q hK;unfold Oper.wp;rw [hrun];exact hK _ _ _ hr hv
theorem ma (hrun:(execOp a.eval o).run P w=.ok (.value v') w) (hr:Rel P H ι w) (hv:VR H.D ι v v'):gA P H ι o a w v H:=cZ hrun (Out.refl hr) hv
theorem wv {w':World} {ι':Ren} (hrun:(execOp a.eval o).run P w=.ok .skip w') (hr:Out P H ι w H' ι' w'):gA P H ι o a w undef H':=by
 intro K Q hK;unfold Oper.wp;rw [hrun];exact hK _ _ _ hr (.flat _ rfl)
theorem iC {n:Nat->Prop} {l off:Nat} (h:VR n ι (.pointer (some ⟨l,off,none⟩)) v'):n l/\v'=.pointer (some ⟨(ι l).blk,(ι l).off+off,none⟩):=by
 cases h with
 |flat _ hv=>simp [ao,az,aA]at hv
 |ptr _ _ hl=>exact⟨hl,rfl⟩
theorem yU {n:Nat->Prop} {cs:Array Value} (h:VR n ι (.agg cs) v'): ∃ds,v'=.agg ds/\cs.size=ds.size/\ ∀(i:Nat) (x y:Value),cs[i]?=some x->ds[i]?=some y->VR n ι x y:=by
 cases h with
 |flat _ hv=>
  refine⟨cs,rfl,rfl,fun i x y hx hy=>?_⟩;rw [hx]at hy;injection hy with hy;subst hy;have hx2:x∈cs.toList:=by simpa using Array.mem_of_getElem? hx
  simp only [ao,az,List.all_eq_true]at hv;have:=hv x hx2;refine .flat _ ?_;cases x<;>first|exact this|(simp [aA]at this)
 |agg _ ys hs h=>exact⟨ys,rfl,hs,h⟩
theorem ly {x:Value} (h:az x=true):ao x=true:=by
 cases x<;>first|exact h|(simp [az,aA]at h)
theorem yV {n:Nat->Prop} {cs:Array Value} (h:VR n ι (.tuple cs) v'): ∃ds,v'=.tuple ds/\cs.size=ds.size/\ ∀(i:Nat) (x y:Value),cs[i]?=some x->ds[i]?=some y->VR n ι x y:=by
 cases h with
 |flat _ hv=>
  refine⟨cs,rfl,rfl,fun i x y hx hy=>?_⟩;rw [hx]at hy;injection hy with hy;subst hy;have hx2:x∈cs.toList:=by simpa using Array.mem_of_getElem? hx
  simp only [ao,List.all_eq_true]at hv;exact .flat _ (ly (hv x hx2))
 |tuple _ ys hs h=>exact⟨ys,rfl,hs,h⟩
theorem gB {n:Nat->Prop} (h:VR n ι v v') (hk:bO v=true):v.cells.size=v'.cells.size/\ ∀(i:Nat) (x y:Value),v.cells[i]?=some x->v'.cells[i]?=some y->VR n ι x y:=by
 have one: ∀ {u u':Value},VR n ι u u'->(∀cs,u≠.agg cs)->(∀cs,u'≠.agg cs)->u.cells.size=u'.cells.size/\ ∀(i:Nat) (x y:Value),u.cells[i]?=some x->u'.cells[i]?=some y->VR n ι x y:=by
  intro u u' hh h1 h2;have e1:u.cells=#[u]:=by cases u<;>first|rfl|exact absurd rfl (h1 _)
  have e2:u'.cells=#[u']:=by cases u'<;>first|rfl|exact absurd rfl (h2 _)
  rw [e1,e2];refine⟨rfl,fun i x y hx hy=>?_⟩
  match i,hx,hy with
  |0,hx,hy=>
   simp at hx hy;subst hx hy;exact hh
 cases h with
 |any=>simp [bO]at hk
 |flat _ hv=>
  cases v with
  |agg cs=>
   obtain⟨ds,e,hs,hh⟩:=yU (n:=n) (ι:=ι) (.flat (.agg cs) hv);injection e with e;subst e;exact⟨rfl,hh⟩
  |_=>exact one (.flat _ hv) (by simp) (by simp)
 |agg xs ys hs hh=>exact⟨hs,hh⟩
 |ptr l o hl=>exact one (.ptr l o hl) (by simp) (by simp)
 |slice l o k c hl hkc=>exact one (.slice l o k c hl hkc) (by simp) (by simp)
 |slice0 l o ad hl=>exact one (.slice0 l o ad hl) (by simp) (by simp)
 |tuple xs ys hs hh=>exact one (.tuple xs ys hs hh) (by simp) (by simp)
 |func fn a b c d h1 h2 h3 h4=>exact one (.func fn a b c d h1 h2 h3 h4) (by simp) (by simp)
 |yld l hl=>exact one (.yld l hl) (by simp) (by simp)
theorem mf {n:Nat->Prop} {x y:Value} (h:VR n ι x y) (hc:aC x=true):y.oneCell'=true:=by
 cases h with
 |any=>simp [aC]at hc
 |flat=>cases x<;>first|rfl|(simp [aC]at hc)
 |ptr=>rfl
 |slice=>rfl
 |slice0=>rfl
 |agg=>simp [aC]at hc
 |tuple=>simp [aC]at hc
 |func=>rfl
 |yld=>rfl
theorem Rel.cell (h:Rel P H ι w) {l:Nat} {b:LB} (hb:H.get l=some b) {i:Nat} {x:Value} (hx:b.cells[i]?=some x):
  ∃y,w.cell? ⟨(ι l).blk,(ι l).off+i,none⟩=some y/\VR H.D ι x y:=by
 obtain⟨arr,t,f,hw,hsz,hc,_⟩:=h.blk l b hb;obtain⟨y,hy,hv⟩:=hc i x hx;exact⟨y,by simp [World.cell?,hw,hy],hv⟩
theorem eO (b o i:Nat):(⟨b,o,none⟩:Addr).add i=⟨b,o+i,none⟩:=by
 unfold Addr.add;split<;>simp_all
theorem gV {t:TypeId} {c:Bool} (h:aF P t=some c) (w:World):(isAgg t).run P w=.ok c w:=by
 unfold aF at h;cases hu:P.underlying t with
 |none=>simp [hu]at h
 |some d=>
  simp only [hu,Option.map_some,Option.some.injEq]at h;unfold isAgg;rw [Sem.run_bind,run_underlying hu w];cases d<;>(simp only [Result.andThen_ok,M3]at*;subst h;rfl)
theorem bC {t:TypeId} {s:Nat} (h:sz P t=some s) (w:World):(sizeOf t).run P w=.ok s w:=by
 unfold sz at h;cases hi:P.info? t with
 |none=>simp [hi]at h
 |some i=>simp [hi]at h;simp [sizeOf,typeInfo,hi,h]
theorem eP {t:TypeId} {z:Value} (h:zr P t=some z) (w:World):(zeroValue t).run P w=.ok z w:=by
 unfold zr at h;cases hi:P.info? t with
 |none=>simp [hi]at h
 |some i=>
  simp only [hi,Option.bind_some]at h;simp [zeroValue,typeInfo,hi,h]
theorem mg (h:Rel P H ι w) {t:TypeId} {l off:Nat} (hl:fA P t l off H=some v):
  ∃v',(∀w':World,w'.heap[(ι l).blk]?=w.heap[(ι l).blk]?->(loadVar t ⟨(ι l).blk,(ι l).off+off,none⟩).run P w'=.ok v' w')/\VR H.D ι v v':=by
 unfold fA at hl;split at hl
 ·rename_i b hb;split at hl
  ·rename_i s ha hs;simp only [fR,Option.map_eq_some_iff]at hl;obtain⟨cs,hcs,rfl⟩:=hl;split at hcs
   ·rename_i hle;simp only [Option.some.injEq]at hcs;have hlen:cs.length=s:=by rw [<-hcs];simp;omega
    have hget: ∀j x,cs[j]?=some x->b.cells[off+j]?=some x:=by
     intro j x hx;rw [<-hcs,List.getElem?_take]at hx;split at hx
     ·rw [List.getElem?_drop]at hx;exact hx
     ·cases hx
    have hall: ∀j,j<s-> ∃y,w.cell? ⟨(ι l).blk,(ι l).off+off+j,none⟩=some y/\ ∀x,cs[j]?=some x->VR H.D ι x y:=by
     intro j hj;have hx:cs[j]?=some (cs[j]'(by omega)):=List.getElem?_eq_getElem (by omega);obtain⟨y,hy,hv⟩:=h.cell hb (hget j _ hx);exact⟨y,by rw [Nat.add_assoc];exact hy,fun x hx'=>by rw [hx]at hx';injection hx' with hx';rw [<-hx'];exact hv⟩
    obtain⟨f,hf⟩: ∃f:Nat->Value,∀j,j<s->w.cell? ⟨(ι l).blk,(ι l).off+off+j,none⟩=some (f j)/\ ∀x,cs[j]?=some x->VR H.D ι x (f j):=by
     classical
     refine⟨fun j=>if hj:j<s then Classical.choose (hall j hj)else undef,fun j hj=>?_⟩;simp only [dif_pos hj];exact Classical.choose_spec (hall j hj)
    have hrun:=fun(w':World) (hw':w'.heap[(ι l).blk]?=w.heap[(ι l).blk]?)=>run_loadCells (P:=P) w' ⟨(ι l).blk,(ι l).off+off,none⟩ s f (fun j hj=>by rw [eO,World.cell?_of_block (w:=w) hw'];exact(hf j hj).1);refine⟨.agg ((List.range s).map f).toArray,?_,?_⟩
    ·intro w' hw';unfold loadVar;rw [Sem.run_bind,gV ha];simp only [Result.andThen_ok,if_true,Sem.run_bind,bC hs];rw [hrun w' hw'];rfl
    ·refine .agg _ _ (by simp [hlen]) (fun i x y hx hy=>?_);simp only [List.getElem?_toArray]at hx;have hi:i<s:=by rw [<-hlen];exact(List.getElem?_eq_some_iff.1 hx).1
     simp [hi]at hy;subst hy;exact(hf i hi).2 x hx
   ·cases hcs
  ·rename_i ha;obtain⟨y,hy,hv⟩:=h.cell hb hl;refine⟨y,fun w' hw'=>?_,hv⟩;unfold loadVar;rw [Sem.run_bind,gV ha];have hy':=(World.cell?_of_block (w:=w) (w':=w') (a:=⟨(ι l).blk,(ι l).off+off,none⟩) hw').trans hy;simp [load,Sem.run,hy']
  ·cases hl
 ·cases hl
def Ren.add (ι:Ren) (n:Nat) (x:Im):Ren:=fun l=>if l=n then x else ι l
theorem Iq (h:Rel P H ι w) {b:LB} {arr:Array Value} {slack s l0:Nat} (hrw:b.rw=true) (hs:sz P b.elem=some s) (hsz:arr.size=b.cells.length+slack*s)
  (hm: ∀n,s≠0->b.cells.length=n*s->n+slack<=maxLen) (hc: ∀(i:Nat) x,b.cells[i]?=some x-> ∃y,arr[i]?=some y/\VR H.D ι x y)
  (hget: ∀k,H'.get k=if k=l0 then some b else H.get k) (hD: ∀k,H'.D k↔H.D k\/k=l0) (hfr: ¬H.D l0) (hdom: ∀l,H'.n<=l->H'.get l=none) (hhol: ∀l,H'.hole l->l<H'.n/\H'.get l=none) (hn:H.n<=H'.n) (hbase:H'.base=H.base) (hng:H'.ng=H.ng):
  Out P H ι w H' (ι.add l0 ⟨w.heap.size,0,slack⟩) (w.alloc (.cells arr b.elem)):=by
 have hne0: ∀l,H.D l->l≠l0:=fun l hl e=>hfr (e▸hl);have hsame: ∀l,H.D l->(ι.add l0 ⟨w.heap.size,0,slack⟩) l=ι l:=fun l hl=>by unfold Ren.add;rw [if_neg (hne0 l hl)]
 have hsub: ∀l,H.D l->H'.D l:=fun l hl=>(hD l).2 (.inl hl)
 have hold: ∀l b',H.get l=some b'->(ι l).blk<w.heap.size:=fun l b' hb=>by
  obtain⟨arr',t,f,hw,_⟩:=h.blk l b' hb;exact lt_of_block hw
 have hrwk: ∀k,RW H' (ι.add l0 ⟨w.heap.size,0,slack⟩) k->RW H ι k\/w.heap.size<=k:=by
  rintro k ⟨l,b',hb',hrw',rfl⟩;rw [hget]at hb';split at hb'
  ·rename_i e;subst e;right;simp [Ren.add]
  ·left;rw [hsame l (h.live hb')];exact⟨l,b',hb',hrw',rfl⟩
 have himg: ∀k,lE H' (ι.add l0 ⟨w.heap.size,0,slack⟩) k->lE H ι k\/w.heap.size<=k:=by
  rintro k ⟨l,b',hb',rfl⟩;rw [hget]at hb';split at hb'
  ·rename_i e;subst e;right;simp [Ren.add]
  ·left;rw [hsame l (h.live hb')];exact⟨l,b',hb',rfl⟩
 refine⟨⟨hdom,hhol,?_,?_,ed h ((Change.refl _ w).alloc _) hrwk hbase hng⟩,hn,hsub,hsame,(Change.refl _ w).alloc _,hrwk,himg,hng⟩
 ·intro l b' hb';rw [hget]at hb';split at hb'
  ·rename_i e;subst e;injection hb' with hb';subst hb';have e:(ι.add l ⟨w.heap.size,0,slack⟩) l=⟨w.heap.size,0,slack⟩:=by simp [Ren.add]
   rw [e];refine⟨arr,b.elem,(0,0),heap_alloc_new w _,by simp;omega,fun i x hx=>?_,fun _=>⟨rfl,.inl ⟨rfl,rfl⟩,s,hs,hsz,hm⟩⟩;obtain⟨y,hy,hv⟩:=hc i x hx;exact⟨y,by simpa using hy,hv.mono hsub hsame⟩
  ·rw [hsame l (h.live hb')];obtain⟨arr',t,f,hw,h1,h2,h3⟩:=h.blk l b' hb';refine⟨arr',t,f,by rw [Below.heap_alloc _ _ _ (hold l b' hb')];exact hw,h1,fun i x hx=>?_,h3⟩;obtain⟨y,hy,hv⟩:=h2 i x hx;exact⟨y,hy,hv.mono hsub hsame⟩
 ·intro l l' b1 b2 h1 h2 hrw1 hne;rw [hget]at h1 h2;split at h1<;>split at h2
  ·omega
  ·rename_i e1 e2;rw [hsame l' (h.live h2),e1];have:=hold l' b2 h2;simp only [Ren.add,if_true];omega
  ·rename_i e1 e2;rw [hsame l (h.live h1),e2];have:=hold l b1 h1;simp only [Ren.add,if_true];omega
  ·rw [hsame l (h.live h1),hsame l' (h.live h2)];exact h.sep l l' b1 b2 h1 h2 hrw1 hne
theorem Rel.top (h:Rel P H ι w): ¬H.hole H.n:=fun hh=>Nat.lt_irrefl _ (h.hol _ hh).1
theorem fh (h:Rel P H ι w) {b:LB} (k:Nat):(H.new b).D k↔H.D k\/k=H.n:=by
 have:=h.top;show k<H.n+1/\ ¬H.hole k↔_;unfold LH.D;constructor
 ·rintro⟨h1,h2⟩;rcases Nat.lt_or_ge k H.n with h3|h3
  ·exact .inl ⟨h3,h2⟩
  ·exact .inr (by omega)
 ·rintro(⟨h1,h2⟩|rfl)
  ·exact⟨by omega,h2⟩
  ·exact⟨by omega,this⟩
theorem lF (h:Rel P H ι w) {b:LB} :(∀l,(H.new b).n<=l->(H.new b).get l=none)/\(∀l,(H.new b).hole l->l<(H.new b).n/\(H.new b).get l=none)/\ ¬H.D H.n:=by
 refine⟨fun l hl=>?_,fun l hl=>?_,fun hd=>Nat.lt_irrefl _ hd.1⟩
 ·show(if l=H.n then some b else H.get l)=none;have:H.n+1<=l:=hl;rw [if_neg (by omega)];exact h.dom l (by omega)
 ·have h1:H.hole l:=hl;obtain⟨h2,h3⟩:=h.hol l h1;refine⟨Nat.lt_succ_of_lt h2,?_⟩;show(if l=H.n then some b else H.get l)=none;rw [if_neg (by omega),h3]
theorem jc (h:Rel P H ι w) {b:LB} {arr:Array Value} {slack s:Nat} (hrw:b.rw=true) (hs:sz P b.elem=some s) (hsz:arr.size=b.cells.length+slack*s)
  (hm: ∀n,s≠0->b.cells.length=n*s->n+slack<=maxLen) (hc: ∀(i:Nat) x,b.cells[i]?=some x-> ∃y,arr[i]?=some y/\VR H.D ι x y):
  Out P H ι w (H.new b) (ι.add H.n ⟨w.heap.size,0,slack⟩) (w.alloc (.cells arr b.elem)):=
 let ⟨h1,h2,h3⟩:=lF h (b:=b)
 Iq h hrw hs hsz hm hc (fun _=>rfl) (fh h) h3 h1 h2 (Nat.le_succ _) rfl rfl
theorem kc.free {e t:TypeId} {f:Nat×Nat} {n k:Nat} (h:kc P e t f n) (hk:k<n): ¬(f.1<=k/\k<f.2):=by
 rcases h with⟨_,rfl⟩|⟨_,_,rfl|rfl⟩
 ·simp
 ·simp only;omega
 ·simp
theorem qZ (h:Rel P H ι w) {l:Nat} {b b':LB} (hb:H.get l=some b) (hrw:b.rw=true) (hrw':b'.rw=true) (hlen:b'.cells.length=b.cells.length)
  {arr arr':Array Value} {t:TypeId} {f f':Nat×Nat} (hE:kc P b'.elem t f' arr'.size) (hw:w.heap[(ι l).blk]?=some (.cells arr t f)) (hsz:arr'.size=arr.size) (hc: ∀(i:Nat) x,b'.cells[i]?=some x-> ∃y,arr'[i]?=some y/\VR H.D ι x y)
  {w':World} (hw':w'.heap[(ι l).blk]?=some (.cells arr' t f')) (hch:Change (fun k=>k=(ι l).blk) w w'):Out P H ι w (H.set l b') ι w':=by
 have hold: ∀l b',H.get l=some b'->(ι l).blk<w.heap.size:=fun l b' hb=>by
  obtain⟨arr',t,f,hw,_⟩:=h.blk l b' hb;exact lt_of_block hw
 have hrwk: ∀k,RW (H.set l b') ι k->RW H ι k\/w.heap.size<=k:=by
  rintro k ⟨m,c,hk,hc1,rfl⟩;change (if m=l then some b' else H.get m)=some c at hk;left;split at hk
  ·rename_i e;subst e;exact⟨m,b,hb,hrw,rfl⟩
  ·exact⟨m,c,hk,hc1,rfl⟩
 have hch2:Change (RW H ι) w w':=hch.mono (fun k _ hk=>⟨l,b,hb,hrw,hk.symm⟩)
 have himg: ∀k,lE (H.set l b') ι k->lE H ι k\/w.heap.size<=k:=by
  rintro k ⟨m,c,hk,rfl⟩;change (if m=l then some b' else H.get m)=some c at hk;left;split at hk
  ·rename_i e;subst e;exact⟨m,b,hb,rfl⟩
  ·exact⟨m,c,hk,rfl⟩
 refine⟨⟨?_,?_,?_,?_,ed h hch2 hrwk rfl rfl⟩,Nat.le_refl _,fun _ h=>h,fun _ _=>rfl,hch2,hrwk,himg,rfl⟩
 ·intro k hk;show(if k=l then some b' else H.get k)=none;have:=(h.live hb).1;have hk':H.n<=k:=hk;rw [if_neg (by omega)];exact h.dom k hk
 ·intro k hk;have hk':H.hole k:=hk;refine⟨(h.hol k hk').1,?_⟩;show(if k=l then some b' else H.get k)=none;have hne:k≠l:=fun e=>(h.live hb).2 (e▸hk');rw [if_neg hne];exact(h.hol k hk').2
 ·intro k c hk;change (if k=l then some b' else H.get k)=some c at hk;split at hk
  ·rename_i e;subst e;injection hk with hk;subst hk;obtain⟨arr0,t0,f0,hw0,h1,h2,h3⟩:=h.blk k b hb;obtain⟨g1,g2,s,g4,g5,g6⟩:=h3 hrw;rw [hw]at hw0;injection hw0 with hw0;injection hw0 with e1 e2 e3;subst e1 e2 e3;refine⟨arr',t,f',hw',by rw [hlen,hsz];exact h1,fun i x hx=>?_,fun _=>⟨g1,hE,s,g4,by rw [hsz,hlen];exact g5,by rw [hlen];exact g6⟩⟩;obtain⟨y,hy,hv⟩:=hc i x hx;exact⟨y,by rw [g1,Nat.zero_add];exact hy,hv⟩
  ·rename_i hne;obtain⟨arr0,t0,f0,hw0,h1,h2,h3⟩:=h.blk k c hk;exact⟨arr0,t0,f0,by rw [hch.block _ (hold k c hk) (h.sep l k b c hb hk hrw (fun e=>hne e.symm)).symm];exact hw0,h1,h2,h3⟩
 ·intro k k' c c' h1 h2 h3 hne;change (if k=l then some b' else H.get k)=some c at h1;change (if k'=l then some b' else H.get k')=some c' at h2;split at h1<;>split at h2
  ·omega
  ·rename_i e1 e2;subst e1;exact h.sep k k' b c' hb h2 hrw hne
  ·rename_i e1 e2;subst e2;exact h.sep k k' c b h1 hb h3 hne
  ·exact h.sep k k' c c' h1 h2 h3 hne
theorem vg (h:Rel P H ι w) {l:Nat} {b b':LB} (hb:H.get l=some b) (hrw:b.rw=true) (he:b'.elem=b.elem) (hrw':b'.rw=true) (hlen:b'.cells.length=b.cells.length)
  {arr arr':Array Value} {t:TypeId} {f:Nat×Nat} (hw:w.heap[(ι l).blk]?=some (.cells arr t f)) (hsz:arr'.size=arr.size) (hc: ∀(i:Nat) x,b'.cells[i]?=some x-> ∃y,arr'[i]?=some y/\VR H.D ι x y)
  {w':World} (hw':w'.heap[(ι l).blk]?=some (.cells arr' t f)) (hch:Change (fun k=>k=(ι l).blk) w w'):Out P H ι w (H.set l b') ι w':=by
 obtain⟨arr0,t0,f0,hw0,h1,h2,h3⟩:=h.blk l b hb;obtain⟨g1,g2,_⟩:=h3 hrw;rw [hw]at hw0;injection hw0 with hw0;injection hw0 with e1 e2 e3;subst e1 e2 e3;exact qZ h hb hrw hrw' hlen (by rw [he,hsz];exact g2) hw hsz hc hw' hch
theorem dE {P:Program} (g o:Nat) (t:TypeId) (f:Nat×Nat): ∀(vs:List Value) (i:Nat) (cur:Array Value) (w:World),w.heap[g]?=some (.cells cur t f)->(∀k,k<cur.size-> ¬(f.1<=k/\k<f.2))->o+i+vs.length<=cur.size->(∀v∈vs,v.oneCell'=true)->
  (storeCells ⟨g,o,none⟩ vs i).run P w=.ok () (w.setRow g (cur.toList.take (o+i)++vs++cur.toList.drop (o+i+vs.length)).toArray)
 | [],i,cur,w,hg,_,_,_=>by
  simp only [storeCells,List.append_nil,List.length_nil,Nat.add_zero,List.take_append_drop,Array.toArray_toList];rw [setRow_self w g cur t f hg];rfl
 |v::rest,i,cur,w,hg,hf,hl,h1=>by
  have hi:o+i<cur.size:=by simp at hl;omega
  have hadd:(⟨g,o,none⟩:Addr).add i=⟨g,o+i,none⟩:=by unfold Addr.add;split<;>simp_all
  have hcell:w.cell? ⟨g,o+i,none⟩=some cur[o+i]:=by simp [World.cell?,hg,hi]
  have hfro:w.frozen? ⟨g,o+i,none⟩=false:=by
   have:=hf _ hi;obtain⟨a,b⟩:=f;simp only at this;simp [World.frozen?,hg];omega
  have hst:(store ((⟨g,o,none⟩:Addr).add i) v).run P w=.ok () (w.setRow g (cur.setIfInBounds (o+i) v)):=by
   rw [hadd,run_store P w _ v _ (h1 v (by simp)),hcell];simp [hfro,setCell_eq_setRow w g (o+i) cur t f v hg]
  have ih:=dE (P:=P) g o t f rest (i+1) (cur.setIfInBounds (o+i) v) (w.setRow g (cur.setIfInBounds (o+i) v)) (setRow_heap w g cur _ t _ hg) (by simpa using hf) (by simp at hl⊢;omega) (fun x hx=>h1 x (by simp [hx]));simp only [storeCells,Sem.run_bind,hst,Result.andThen_ok,ih,setRow_setRow];congr 3;have e:=list_seg_step cur.toList (o+i) v rest (by simp at hl⊢;omega);simpa [Array.toList_setIfInBounds,Nat.add_assoc]using e
theorem ix {cs vs:List Value} {o:Nat} (h:o+vs.length<=cs.length):(aW cs o vs).length=cs.length:=by
 simp [aW];omega
theorem mh {cs vs:List Value} {o:Nat} (h:o+vs.length<=cs.length) (i:Nat):(aW cs o vs)[i]?=if i<o then cs[i]? else if i<o+vs.length then vs[i-o]? else cs[i]?:=by
 unfold aW;rw [List.append_assoc,List.getElem?_append,List.length_take,Nat.min_eq_left (by omega)];split
 ·rw [List.getElem?_take,if_pos ‹_›]
 ·rw [List.getElem?_append];split
  ·rw [if_pos (by omega)]
  ·rw [if_neg (by omega),List.getElem?_drop];congr 1;omega
theorem nM {w:World} {g:Nat} (cs:Array Value):Change (fun k=>k=g) w (w.setRow g cs):=by
 refine⟨rfl,rfl,rfl,by simp [World.setRow],fun k hk hne=>?_⟩;simp only [World.setRow,Array.getElem?_modify];rw [if_neg (by omega)]
theorem vh (h:Rel P H ι w) {l o:Nat} {b:LB} {vs us:List Value} {arr:Array Value} (hb:H.get l=some b) (hrw:b.rw=true) (hle:o+vs.length<=b.cells.length) (hlen:us.length=vs.length)
  (hv: ∀(i:Nat) x y,vs[i]?=some x->us[i]?=some y->VR H.D ι x y) {t0:TypeId} {f0:Nat×Nat} (hw:w.heap[(ι l).blk]?=some (.cells arr t0 f0)) (hin:o+us.length<=arr.size):
  Out P H ι w (H.set l { b with cells:=aW b.cells o vs }) ι (w.setRow (ι l).blk (aW arr.toList o us).toArray):=by
 obtain⟨arr1,t,f,hw1,h1,h2,h3⟩:=h.blk l b hb;obtain⟨g1,g2,s,g4,g5,g6⟩:=h3 hrw;rw [hw]at hw1;injection hw1 with hw1;injection hw1 with e1 e2 e3;subst e1;have hin':o+us.length<=arr.toList.length:=by simpa using hin
 have hsz:(aW arr.toList o us).toArray.size=arr.size:=by simp [ix hin']
 refine vg (b':= { b with cells:=aW b.cells o vs }) h hb hrw rfl hrw (ix hle) hw hsz (fun i x hx=>?_) ?_ (nM _)
 ·have hx':=hx;simp only at hx';rw [mh hle]at hx';have ha:=mh (cs:=arr.toList) (vs:=us) (o:=o) hin' i;rw [List.getElem?_toArray,ha];by_cases c1:i<o
  ·rw [if_pos c1]at hx'⊢;obtain⟨y,hy,hv'⟩:=h2 i x hx';rw [g1,Nat.zero_add]at hy;exact⟨y,by simpa using hy,hv'⟩
  ·rw [if_neg c1]at hx'⊢;by_cases c2:i<o+vs.length
   ·rw [if_pos c2]at hx';rw [if_pos (by omega)];have:i-o<us.length:=by omega
    exact⟨us[i-o],List.getElem?_eq_getElem this,hv _ _ _ hx' (List.getElem?_eq_getElem this)⟩
   ·rw [if_neg c2]at hx';rw [if_neg (by omega)];obtain⟨y,hy,hv'⟩:=h2 i x hx';rw [g1,Nat.zero_add]at hy;exact⟨y,by simpa using hy,hv'⟩
 ·simp only [World.setRow,Array.getElem?_modify,hw];simp
theorem nY (h:Rel P H ι w) {l o:Nat} {b:LB} {vs us:List Value} (hb:H.get l=some b) (hrw:b.rw=true) (hle:o+vs.length<=b.cells.length) (hlen:us.length=vs.length)
  (hv: ∀(i:Nat) x y,vs[i]?=some x->us[i]?=some y->VR H.D ι x y) (hone: ∀u∈us,u.oneCell'=true):
  ∃w',(storeCells ⟨(ι l).blk,(ι l).off+o,none⟩ us).run P w=.ok () w'/\Out P H ι w (H.set l { b with cells:=aW b.cells o vs }) ι w':=by
 obtain⟨arr,t,f,hw,h1,h2,h3⟩:=h.blk l b hb;obtain⟨g1,g2,s,g4,g5,g6⟩:=h3 hrw;rw [g1]at h1⊢
 have hfr: ∀k,k<arr.size-> ¬(f.1<=k/\k<f.2):=fun k hk=>by
  exact g2.free hk
 have hrun:=dE (P:=P) (ι l).blk (0+o) t f us 0 arr w hw hfr (by omega) hone;refine⟨_,hrun,?_⟩;have:=vh h hb hrw hle hlen hv hw (by omega);have e:(arr.toList.take (0+o+0)++us++arr.toList.drop (0+o+0+us.length))=aW arr.toList o us:=by simp [aW]
 rw [e];exact this
theorem q_ (h:Rel P H ι w) {t:TypeId} {l off:Nat} (hv:VR H.D ι v v') (hl:fS P t l off v H=some H'):
  ∃w',(storeVar t ⟨(ι l).blk,(ι l).off+off,none⟩ v').run P w=.ok () w'/\Out P H ι w H' ι w':=by
 unfold fS at hl;split at hl
 ·rename_i b s hb hs;split at hl
  ·rename_i hc;simp only [Bool.and_eq_true,beq_iff_eq,decide_eq_true_eq,List.all_eq_true]at hc;obtain⟨⟨⟨c1,c2⟩,c3⟩,c4⟩:=hc;simp only [Option.some.injEq]at hl;subst hl
   have hk:bO v=true:=by
    cases v<;>first|rfl|skip
    rename_i r;have:=c3 (.chan r) (by simp [Value.cells]);simp [aC]at this
   obtain⟨k1,k2⟩:=gB hv hk
   obtain⟨w',hr,ho⟩:=nY (o:=off) (vs:=v.cells.toList) (us:=v'.cells.toList) h hb c1 c4 (by simp [k1]) (fun i x y hx hy=>k2 i x y (by simpa using hx) (by simpa using hy))
    (fun u hu=>by
     obtain⟨i,hi⟩:=List.getElem?_of_mem hu;have hlt:i<v.cells.size:=by rw [k1];simpa using(List.getElem?_eq_some_iff.1 hi).1
     have hx:v.cells[i]?=some v.cells[i]:=Array.getElem?_eq_getElem hlt;exact mf (k2 i _ u hx (by simpa using hi)) (c3 _ (by simp)))
   refine⟨w',?_,ho⟩;unfold storeVar;have hz:v'.cells.size=s:=by rw [<-k1,<-c2];simp
   simp only [Sem.run_bind,bC hs,Result.andThen_ok,hz,ne_eq,not_true_eq_false,if_false];exact hr
  ·cases hl
 ·cases hl
end
def mi (P:Program) (f:FuncId) (args:List Value) (H:LH) (v:Value) (H':LH):Prop:=
 ∀(ι:Ren) (w:World) (args':Array Value),Rel P H ι w->args.length=args'.size->(∀(i:Nat) (x y:Value),args[i]?=some x->args'[i]?=some y->VR H.D ι x y)->
  Calls P f args' w (fun e w'=> ∃ι' v',e=.returned v'/\Out P H ι w H' ι' w'/\VR H'.D ι' v v')
def cU (P:Program) (f:FuncId):Prop:= ∃fn,P.funcs[f]?=some fn/\fn.body.isSome=true/\fn.name≠ "runtime.NumGoroutine"
def yW (P:Program) (f:FuncId) (args:List Value) (v:Value):Prop:=(∀x∈args,ao x=true)/\ao v=true/\ ∀w,(callFunc f args.toArray).run P w=.ok (.value v) w
def Gw (P:Program) (f:FuncId) (args:List Value) (H:LH) (v:Value) (H':LH):Prop:=(cU P f/\mi P f args H v H')\/(H'=H/\yW P f args v)
theorem Gw.call {P:Program} {f:FuncId} {args:List Value} {H H':LH} {v:Value} (h:Gw P f args H v H') (he:cU P f):mi P f args H v H':=by
 rcases h with⟨_,h⟩|⟨_,_,_,h⟩
 ·exact h
 ·obtain⟨fn,hf,hb,hn⟩:=he;have h1:(fn.name== "runtime.NumGoroutine")=false:=by simpa using hn
  have h2:fn.body.isNone=false:=by cases hq:fn.body<;>simp_all
  have h3:=h default;unfold callFunc at h3;have hp:(program).run P default=.ok P default:=rfl;simp only [Sem.run_bind,hp,Result.andThen_ok,hf,h1,h2,Bool.false_eq_true,if_false,Sem.run_pure]at h3;injection h3 with h3;cases h3
def lz (P:Program) (T:Callee):Prop:= ∀f args H v H',T f args H=some (v,H')->Gw P f args H v H'
section
variable {P:Program} {T:Callee} {H H':LH} {ι:Ren} {o:Oper} {a:Act} {w:World} {v v':Value} {N:Nat} {fr:Fr}
theorem o_ {n:Nat->Prop} {b:Bool} (h:VR n ι (.bool b) v'):v'=.bool b:=aE h rfl
theorem yX {n:Nat->Prop} {k:IntKind} {i:Int} (h:VR n ι (.int k i) v'):v'=.int k i:=aE h rfl
theorem nZ {n:Nat->Prop} {b:Option Addr} (h:VR n ι (.pointer b) v'): ∃b',v'=.pointer b'/\b'.isNone=b.isNone:=by
 cases h with
 |flat _ hv=>exact⟨b,rfl,rfl⟩
 |ptr _ _ hl=>exact⟨_,rfl,rfl⟩
theorem ee {n:Nat->Prop} {b:Option Addr} {k c:Nat} (h:VR n ι (.slice b k c) v'): ∃b' c',v'=.slice b' k c'/\b'.isNone=b.isNone:=by
 cases h with
 |flat _ hv=>exact⟨b,_,rfl,rfl⟩
 |slice _ _ _ _ hl _=>exact⟨_,_,rfl,rfl⟩
 |slice0 _ _ _ hl=>exact⟨_,_,rfl,rfl⟩
def cq (P:Program) (n:Nat->Prop) (ι:Ren) (o:Oper) (a:Act) (v:Value):Prop:= ∃v',VR n ι v v'/\ ∀w:World,(execOp a.eval o).run P w=.ok (.value v') w
def fT (P:Program) (n:Nat->Prop) (ι:Ren) (o:Oper) (a:Act) (w:World) (v:Value):Prop:= ∃v',VR n ι v v'/\ ∀w':World,Change (fun _=>False) w w'->(execOp a.eval o).run P w'=.ok (.value v') w'
theorem cF {n:Nat->Prop} (hrun: ∀w:World,(execOp a.eval o).run P w=.ok (.value v') w) (hv:VR n ι v v'):cq P n ι o a v:=⟨v',hv,hrun⟩
theorem cq.read {n:Nat->Prop} (h:cq P n ι o a v):fT P n ι o a w v:=let ⟨v',hv,hr⟩:=h;⟨v',hv,fun w' _=>hr w'⟩
theorem fT.opok (h:fT P H.D ι o a w v) (hrel:Rel P H ι w):gA P H ι o a w v H:=let ⟨v',hv,hr⟩:=h;ma (hr w (Change.refl _ w)) hrel hv
theorem cq.opok (h:cq P H.D ι o a v) (hrel:Rel P H ι w):gA P H ι o a w v H:=h.read.opok hrel
theorem tn (h:Rel P H ι w) {l:Nat} {b:LB} (hb:H.get l=some b):(ι l).blk<w.heap.size:=by
 obtain⟨arr',t,f,hw,_⟩:=h.blk l b hb;exact lt_of_block hw
theorem vi (hfr:bV H.D ι N fr a.tmps) {x:Operand} (ho:o.op=.move x\/o.op=.assign x):cq P H.D ι o a (ev fr x):=by
 refine cF (v':=a.eval x) (fun w=>?_) (hfr.ev x);rcases ho with ho|ho<;>(unfold execOp;simp only [ho];rfl)
theorem Ds (hfr:bV H.D ι N fr a.tmps) {c x y:Operand} {t:Bool} (ho:o.op=.pick c x y) (hc:ev fr c=.bool t):cq P H.D ι o a (if t then ev fr x else ev fr y):=by
 have h1:=hfr.ev c;rw [hc]at h1;have h2:=o_ h1;refine cF (v':=if t then a.eval x else a.eval y) (fun w=>?_) ?_
 ·unfold execOp;simp only [ho,h2,asBool,Sem.run_bind,Sem.run_pure,Result.andThen_ok]
 ·cases t
  ·exact hfr.ev y
  ·exact hfr.ev x
theorem Dt (hrel:Rel P H ι w) (hfr:bV H.D ι N fr a.tmps) {t:TypeId} {x:Operand} {l off:Nat} (ho:o.op=.load t x) (hx:ev fr x=.pointer (some ⟨l,off,none⟩)) (hl:fA P t l off H=some v):
  fT P H.D ι o a w v:=by
 have h1:=hfr.ev x;rw [hx]at h1;obtain⟨_,h2⟩:=iC h1;obtain⟨v',hr,hv⟩:=mg hrel hl
 have hlt:(ι l).blk<w.heap.size:=by
  unfold fA at hl;split at hl
  ·exact tn hrel ‹_›
  ·cases hl
 refine⟨v',hv,fun w' hw'=>?_⟩;unfold execOp;simp only [ho,h2,Instr.loadAt,Instr.sureAddr,Sem.run_bind,Sem.run_pure,Result.andThen_ok,hr w' (hw'.block _ hlt (fun h=>h))]
theorem yY (hrel:Rel P H ι w) (hfr:bV H.D ι N fr a.tmps) {t:TypeId} {x y:Operand} {l off:Nat} (ho:o.op=.store t x y) (hx:ev fr x=.pointer (some ⟨l,off,none⟩)) (hl:fS P t l off (ev fr y) H=some H'):
  gA P H ι o a w undef H':=by
 have h1:=hfr.ev x;rw [hx]at h1;obtain⟨_,h2⟩:=iC h1;obtain⟨w',hr,hout⟩:=q_ hrel (hfr.ev y) hl;refine wv (w':=w') ?_ hout;unfold execOp;simp only [ho,h2,Instr.storeAt,Instr.sureAddr,Sem.run_bind,Sem.run_pure,Result.andThen_ok,hr]
theorem Ir (hrel:Rel P H ι w) (hfr:bV H.D ι N fr a.tmps) {e:TypeId} {x:Operand} (ho:o.op=.box e x) (hk:bO (ev fr x)=true) (hs:sz P e=some (ev fr x).cells.size):
  gA P H ι o a w (.pointer (some ⟨H.n,0,none⟩)) (H.new ⟨(ev fr x).cells.toList,e,true⟩):=by
 obtain⟨k1,k2⟩:=gB (hfr.ev x) hk
 have hout:=jc (slack:=0) (arr:=(a.eval x).cells) (b:=⟨(ev fr x).cells.toList,e,true⟩) hrel rfl hs (by simp [k1])
  (fun n h0 h1=>by
   have h1':(ev fr x).cells.size=n*(ev fr x).cells.size:=by simpa using h1
   have:n=1:=by
    rcases Nat.eq_zero_or_pos n with h|h
    ·subst h;omega
    ·rcases Nat.lt_or_ge 1 n with h2|h2
     ·have:=Nat.mul_le_mul_right (ev fr x).cells.size h2;omega
     ·omega
   subst this;simp [maxLen])
  (fun i y hy=>by
   have hy':(ev fr x).cells[i]?=some y:=by simpa using hy
   have hlt:i<(a.eval x).cells.size:=by rw [<-k1];exact(Array.getElem?_eq_some_iff.1 hy').1
   exact⟨_,Array.getElem?_eq_getElem hlt,k2 i _ _ hy' (Array.getElem?_eq_getElem hlt)⟩)
 refine cZ (v':=.pointer (some ⟨w.heap.size,0,none⟩)) ?_ hout ?_
 ·unfold execOp;simp only [ho,Instr.box,newVar,newRow,newObj,Sem.run_bind,Sem.run_pure,Result.andThen_ok];rfl
 ·have:=VR.ptr (n:=(H.new ⟨(ev fr x).cells.toList,e,true⟩).D) (ι:=ι.add H.n ⟨w.heap.size,0,0⟩) H.n 0 ((fh hrel H.n).2 (.inr rfl));simpa [Ren.add]using this
theorem dq {z:Value} (hz:ao z=true) (n:Nat->Prop) (ι:Ren) (hk:bO z=true) {i:Nat} {x:Value} (hx:z.cells[i]?=some x):VR n ι x x:=
 (gB (n:=n) (ι:=ι) (.flat z hz) hk).2 i x x hx hx
theorem dr {z:Value} (hz:ao z=true):bO z=true:=by
 cases z<;>first|rfl|(simp [ao,az,aA]at hz)
theorem yZ (hrel:Rel P H ι w) {e:TypeId} {z:Value} (ho:o.op=.alloc e) (hz:zr P e=some z) (hf:ao z=true) (hs:sz P e=some z.cells.size):
  gA P H ι o a w (.pointer (some ⟨H.n,0,none⟩)) (H.new ⟨z.cells.toList,e,true⟩):=by
 have hout:=jc (slack:=0) (arr:=z.cells) (b:=⟨z.cells.toList,e,true⟩) hrel rfl hs (by simp)
  (fun n h0 h1=>by
   have h1':z.cells.size=n*z.cells.size:=by simpa using h1
   have:n=1:=by
    rcases Nat.eq_zero_or_pos n with h|h
    ·subst h;omega
    ·rcases Nat.lt_or_ge 1 n with h2|h2
     ·have:=Nat.mul_le_mul_right z.cells.size h2;omega
     ·omega
   subst this;simp [maxLen])
  (fun i y hy=>by
   have hy':z.cells[i]?=some y:=by simpa using hy
   exact⟨y,hy',dq hf _ _ (dr hf) hy'⟩)
 refine cZ (v':=.pointer (some ⟨w.heap.size,0,none⟩)) ?_ hout ?_
 ·unfold execOp;simp only [ho,Instr.alloc,Sem.run_bind,eP hz,newVar,newRow,newObj,Sem.run_pure,Result.andThen_ok];rfl
 ·have:=VR.ptr (n:=(H.new ⟨z.cells.toList,e,true⟩).D) (ι:=ι.add H.n ⟨w.heap.size,0,0⟩) H.n 0 ((fh hrel H.n).2 (.inr rfl));simpa [Ren.add]using this
theorem q' (hfr:bV H.D ι N fr a.tmps) {x:Operand} {ad:Addr} (ho:o.op=.nilCheck x) (hx:ev fr x=.pointer (some ad)):cq P H.D ι o a (.pointer (some ad)):=by
 have h1:=hfr.ev x;rw [hx]at h1;refine cF (v':=a.eval x) (fun w=>?_) h1;unfold execOp;simp only [ho];generalize a.eval x=y at*;cases h1 with
 |flat _ hv=>simp [ao,az,aA]at hv
 |ptr l off hl=>rfl
theorem pd (hfr:bV H.D ι N fr a.tmps) {x:Operand} {g:FuncId} {c d:Array Value} (ho:o.op=.nilCheck x) (hx:ev fr x=.func (.func g) c d):cq P H.D ι o a (.func (.func g) c d):=by
 have h1:=hfr.ev x;rw [hx]at h1;refine cF (v':=a.eval x) (fun w=>?_) h1;unfold execOp;simp only [ho];generalize a.eval x=y at*;cases h1 with
 |flat _ hv=>rfl
 |func fn _ b _ d h1 h2 h3 h4=>rfl
theorem pf (hfr:bV H.D ι N fr a.tmps) {s:TypeId} {x:Operand} {f l off m:Nat} {fs:Array Field} {fd:Field} (ho:o.op=.fieldAddr s x f) (hx:ev fr x=.pointer (some ⟨l,off,none⟩))
  (hu:P.underlying s=some (.struct fs)) (hf:fs[f]?=some fd) (hs:sz P fd.type=some m) (hm:m≠0):cq P H.D ι o a (.pointer (some ⟨l,off+fd.offset,none⟩)):=by
 have h1:=hfr.ev x;rw [hx]at h1;obtain⟨hl,h2⟩:=iC h1;refine cF (v':=.pointer (some ⟨(ι l).blk,(ι l).off+(off+fd.offset),none⟩)) (fun w=>?_) (.ptr l _ hl);unfold execOp;simp only [ho,h2,Instr.fieldAt,Instr.sureAddr,Sem.run_bind,run_underlying hu,Sem.run_pure,Result.andThen_ok,hf,fieldPlace,bC hs,if_neg hm,eO,Nat.add_assoc]
theorem pg (hfr:bV H.D ι N fr a.tmps) {t e:TypeId} {x i:Operand} {l off n c m:Nat} {kd:IntKind} {k:Int} (ho:o.op=.indexAddr t x i) (hx:ev fr x=.slice (some ⟨l,off,none⟩) n c)
  (hi:ev fr i=.int kd k) (hu:P.underlying t=some (.slice e)) (hs:sz P e=some m) (hk:0<=k/\k<n):cq P H.D ι o a (.pointer (some ⟨l,off+k.toNat*m,none⟩)):=by
 have h1:=hfr.ev x;rw [hx]at h1;have h2:=hfr.ev i;rw [hi]at h2;have h3:=yX h2;generalize hy:a.eval x=y at*;cases h1 with
 |flat _ hv=>simp [ao,az,aA]at hv
 |slice0=>omega
 |slice _ _ _ _ hl hc=>
  refine cF (v':=.pointer (some ⟨(ι l).blk,(ι l).off+(off+k.toNat*m),none⟩)) (fun w=>?_) (.ptr l _ hl);unfold execOp;simp only [ho,hy,h3,Instr.indexAt,asIntOf,Sem.run_bind,run_underlying hu,Sem.run_pure,Result.andThen_ok,bC hs,if_pos hk,eO,Nat.add_assoc]
theorem tp (hfr:bV H.D ι N fr a.tmps) {x:Operand} {i:Nat} {vs:Array Value} (ho:o.op=.extract x i) (hx:ev fr x=.tuple vs) (hv:vs[i]?=some v):cq P H.D ι o a v:=by
 have h1:=hfr.ev x;rw [hx]at h1;obtain⟨ds,h2,h3,h4⟩:=yV h1;have hlt:i<ds.size:=by rw [<-h3];exact(Array.getElem?_eq_some_iff.1 hv).1
 have h5:=Array.getElem?_eq_getElem hlt;refine cF (v':=ds[i]) (fun w=>?_) (h4 i _ _ hv h5);unfold execOp;simp only [ho,h2,Instr.extract,Sem.run_bind,h5,Sem.run_pure,Result.andThen_ok]
theorem ra (hfr:bV H.D ι N fr a.tmps) {t:TypeId} {x:Operand} {f:Nat} {cs:Array Value} {fs:Array Field} {fd:Field} (ho:o.op=.field t x f) (hx:ev fr x=.agg cs)
  (hu:P.underlying t=some (.struct fs)) (hf:fs[f]?=some fd)
  (hr:(∃s,aF P fd.type=some true/\sz P fd.type=some s/\v=.agg (cs.extract fd.offset (fd.offset+s)))\/(aF P fd.type=some false/\cs[fd.offset]?=some v)):cq P H.D ι o a v:=by
 have h1:=hfr.ev x;rw [hx]at h1;obtain⟨ds,h2,h3,h4⟩:=yU h1;rcases hr with⟨s,ha,hs,rfl⟩|⟨ha,hv⟩
 ·refine cF (v':=.agg (ds.extract fd.offset (fd.offset+s))) (fun w=>?_) (.agg _ _ (by simp [h3]) (fun i p q hp hq=>?_))
  ·unfold execOp;simp only [ho,h2,Instr.field,asAgg,Sem.run_bind,run_underlying hu,hf,Sem.run_pure,Result.andThen_ok,part,gV ha,if_true,bC hs]
  ·rw [Array.getElem?_extract]at hp hq;split at hp
   ·rename_i c1;split at hq
    ·exact h4 _ _ _ hp hq
    ·cases hq
   ·cases hp
 ·have hlt:fd.offset<ds.size:=by rw [<-h3];exact(Array.getElem?_eq_some_iff.1 hv).1
  have h5:=Array.getElem?_eq_getElem hlt;refine cF (v':=ds[fd.offset]) (fun w=>?_) (h4 _ _ _ hv h5);unfold execOp;simp only [ho,h2,Instr.field,asAgg,Sem.run_bind,run_underlying hu,hf,Sem.run_pure,Result.andThen_ok,part,gV ha,if_false,Bool.false_eq_true,h5]
theorem vk (hfr:bV H.D ι N fr a.tmps) (d:Array Operand): ∀(i:Nat) (p q:Value),(d.map (ev fr))[i]?=some p->(d.map a.eval)[i]?=some q->VR H.D ι p q:=by
 intro i p q hp hq;rw [Array.getElem?_map]at hp hq;cases hd:d[i]? with
 |none=>simp [hd]at hp
 |some y=>
  simp only [hd,Option.map_some,Option.some.injEq]at hp hq;rw [<-hp,<-hq];exact hfr.ev y
theorem re (hfr:bV H.D ι N fr a.tmps) {g:FuncId} {c d:Array Operand} (ho:o.op=.makeFunc (.func g) c d):cq P H.D ι o a (.func (.func g) (c.map (ev fr)) (d.map (ev fr))):=by
 refine cF (v':=.func (.func g) (c.map a.eval) (d.map a.eval)) (fun w=>?_) (.func _ _ _ _ _ (by simp) (by simp) (vk hfr c) (vk hfr d));unfold execOp;simp only [ho,Instr.makeFunc];simp [Sem.run_bind,Sem.run_pure,Result.andThen_ok]
theorem ke (hfr:bV H.D ι N fr a.tmps) {x:Operand} (hx:ao (ev fr x)=true):a.eval x=ev fr x:=aE (hfr.ev x) hx
theorem dX {s:Sem Value} (h:aO P s=some v):aU P s=some v/\ao v=true:=by
 unfold aO at h;split at h
 ·split at h
  ·injection h with h;subst h;exact⟨‹_›,‹_›⟩
  ·cases h
 ·cases h
theorem Du (hfr:bV H.D ι N fr a.tmps) {op:UnOp} {t:TypeId} {x:Operand} (ho:o.op=.unOp op t x) (hx:ao (ev fr x)=true) (hv:aO P (Op.unary op (ev fr x))=some v):cq P H.D ι o a v:=by
 obtain⟨hv,hf⟩:=dX hv;refine cF (v':=v) (fun w=>?_) (.flat _ hf);unfold execOp;simp only [ho,ke hfr hx,Sem.run_bind,fg hv,Sem.run_pure,Result.andThen_ok]
theorem tq (hfr:bV H.D ι N fr a.tmps) {s d:TypeId} {x:Operand} (ho:o.op=.convert s d x) (hx:ao (ev fr x)=true) (hv:aO P (convert s d (ev fr x))=some v):cq P H.D ι o a v:=by
 obtain⟨hv,hf⟩:=dX hv;refine cF (v':=v) (fun w=>?_) (.flat _ hf);unfold execOp;simp only [ho,ke hfr hx,Sem.run_bind,fg hv,Sem.run_pure,Result.andThen_ok]
theorem mj: ∀(cs:List Value) (bs:List UInt8),cs.mapM fc=some bs-> ∃ns:List Int,cs=ns.map (Value.int .u8)/\bs=ns.map fun n=>UInt8.ofNat n.toNat
 | [],bs,h=>by
  simp only [List.mapM_nil,Option.pure_def,Option.some.injEq]at h;exact⟨[],rfl,h.symm⟩
 |u::us,bs,h=>by
  simp only [List.mapM_cons,Option.bind_eq_bind,Option.pure_def]at h;cases hu:fc u with
  |none=>simp [hu]at h
  |some x=>
   simp only [hu,Option.bind_some]at h;cases hus:us.mapM fc with
   |none=>simp [hus]at h
   |some xs=>
    simp only [hus,Option.bind_some,Option.some.injEq]at h;subst h;obtain⟨ns,rfl,rfl⟩:=mj us xs hus;unfold fc at hu;split at hu
    ·rename_i n;injection hu with hu;subst hu;exact⟨n::ns,rfl,rfl⟩
    ·cases hu
theorem n9: ∀(ns:List Int) (s:ByteArray),ns.foldl (fun r n=>r.push (UInt8.ofNat n.toNat)) s=⟨s.data++(ns.map fun n=>UInt8.ofNat n.toNat).toArray⟩
 | [],s=>by cases s;simp
 |n::ns,s=>by
  rw [List.foldl_cons,n9 ns];cases s;simp [ByteArray.push]
theorem Dv (hrel:Rel P H ι w) (hfr:bV H.D ι N fr a.tmps) {s d:TypeId} {x:Operand} (ho:o.op=.convert s d x) (hv:kT P s d (ev fr x) H=some v):fT P H.D ι o a w v:=by
 have hx:=hfr.ev x;unfold kT at hv;split at hv
 ·rename_i e l off n c hs hd e1;rw [e1]at hx;split at hv
  ·rename_i he;split at hv
   ·rename_i b hb;split at hv
    ·rename_i cs hcs;obtain⟨bs,hbs,rfl⟩:=Option.map_eq_some_iff.1 hv;obtain⟨ns,rfl,rfl⟩:=mj cs bs hbs;simp only [fR]at hcs;split at hcs
     ·rename_i hle;simp only [Option.some.injEq]at hcs
      have hlen:ns.length=n:=by
       have:=congrArg List.length hcs;simp at this;omega
      have conv: ∀(ad:Addr) (cp:Nat),(∀w':World,Change (fun _=>False) w w'->(loadCells ad n).run P w'=.ok (ns.map (Value.int .u8)).toArray w')->a.eval x=.slice (some ad) n cp->fT P H.D ι o a w (.string ⟨(ns.map fun n=>UInt8.ofNat n.toNat).toArray⟩):=by
       intro ad cp hl hy;refine⟨_,.flat _ rfl,fun w' hw'=>?_⟩;have hr:=run_bytesToString (P:=P) w' ad n cp ns (hl w' hw');rw [n9]at hr;unfold execOp;simp only [ho,hy,convert,Sem.run_bind,run_underlying hs,run_underlying hd,run_underlying he,Result.andThen_ok,hr,Sem.run_pure];simp
      generalize hy:a.eval x=y at hx;cases hx with
      |flat _ hf=>simp [ao,az,aA]at hf
      |slice0 _ _ ad hl=>
       have h0:ns= []:=List.eq_nil_of_length_eq_zero hlen;subst h0;exact conv ad 0 (fun w' _=>rfl) hy
      |slice _ _ _ _ hl hc=>
       refine conv _ _ (fun w' hw'=>?_) hy
       have:=run_loadCells_list (P:=P) w' ⟨(ι l).blk,(ι l).off+off,none⟩ (ns.map (Value.int .u8)) (fun j u hj=>by
        have hj2:b.cells[off+j]?=some u:=by
         rw [<-hcs,List.getElem?_take]at hj;split at hj
         ·rw [List.getElem?_drop]at hj;exact hj
         ·cases hj
        obtain⟨y,hy,hv⟩:=(hrel.cell hb hj2)
        have hu:y=u:=by
         rw [List.getElem?_map]at hj;cases hn:ns[j]? with
         |none=>simp [hn]at hj
         |some k=>
          simp only [hn,Option.map_some,Option.some.injEq]at hj;rw [<-hj]at hv⊢;exact aE hv rfl
        rw [eO,World.cell?_of_block (w:=w) (hw'.block _ (tn hrel hb) (fun h=>h)),Nat.add_assoc,hy,hu])
       rw [List.length_map,hlen]at this;exact this
     ·cases hcs
    ·cases hv
   ·cases hv
  ·cases hv
 ·cases hv
theorem y9 (hfr:bV H.D ι N fr a.tmps) {t:TypeId} {x i:Operand} (ho:o.op=.index t x i) (hx:ao (ev fr x)=true) (hi:ao (ev fr i)=true) (hv:aO P (Instr.index t (ev fr x) (ev fr i))=some v):cq P H.D ι o a v:=by
 obtain⟨hv,hf⟩:=dX hv;refine cF (v':=v) (fun w=>?_) (.flat _ hf);unfold execOp;simp only [ho,ke hfr hx,ke hfr hi,Sem.run_bind,fg hv,Sem.run_pure,Result.andThen_ok]
theorem ph {op:BinOp} {t:TypeId} {x y:Value} (X Y:Operand) (hx:x≠.nilIface):eqGuard op t X Y x y=eqGuard op t (.tmp 0) (.tmp 0) x y:=by
 unfold eqGuard;cases x<;>first|exact absurd rfl hx|(cases y<;>rfl)
theorem rf {op:BinOp} {t:TypeId} {x y:Value} (X Y:Operand) (hx:x≠.nilIface) (hx2: ∀cs,x≠.agg cs) (w:World):(eqGuard op t X Y x y).run P w=.ok () w:=by
 unfold eqGuard;cases x<;>first|exact absurd rfl hx|exact absurd rfl (hx2 _)|(cases op<;>rfl)
theorem n_ (w:World) {op:BinOp} {t yt:TypeId} {x y:Operand} (ho:o.op=.binOp op t x y yt) {r:Value} (h:(do eqGuard op t x y (a.eval x) (a.eval y);binOp op t (a.eval x) (a.eval y):Sem Value).run P w=.ok r w):(execOp a.eval o).run P w=.ok (.value r) w:=by
 unfold execOp;simp only [ho,Sem.run_bind,Sem.run_pure,Result.andThen_ok]at h⊢;rw [h];rfl
theorem fy {n:Nat->Prop} {op:BinOp} {t yt:TypeId} {x y:Operand} {q:Bool} (ho:o.op=.binOp op t x y yt) {X Y:Value} (hx:a.eval x=X) (hy:a.eval y=Y) (h1:X≠.nilIface) (h2: ∀cs,X≠.agg cs)
  (hop:op=.eql\/op=.neq) (hq: ∀w:World,(Op.equal t X Y).run P w=.ok q w) (b1:binOp .eql t X Y=(do pure (.bool (<-Op.equal t X Y)))) (b2:binOp .neq t X Y=(do pure (.bool (!(<-Op.equal t X Y))))):
  cq P n ι o a (.bool (if op=.eql then q else !q)):=by
 refine cF (v':=.bool (if op=.eql then q else !q)) (fun w=>n_ w ho ?_) (.flat _ rfl);rw [hx,hy,Sem.run_bind,rf _ _ h1 h2 w];rcases hop with rfl|rfl
 ·simp only [Result.andThen_ok,b1,Sem.run_bind,hq w,Sem.run_pure,if_true]
 ·simp only [Result.andThen_ok,b2,Sem.run_bind,hq w,Sem.run_pure];rfl
theorem kU {t e:TypeId} {b:Option Addr} (h:P.underlying t=some (.pointer e)) (w:World):(Op.equal t (.pointer none) (.pointer b)).run P w=.ok b.isNone w:=by
 show(Op.equalIn (9999+1) t _ _).run P w=_;rw [Op.equalIn,Sem.run_bind,run_underlying h];cases b<;>rfl
theorem kV {t e:TypeId} {b:Option Addr} (h:P.underlying t=some (.pointer e)) (w:World):(Op.equal t (.pointer b) (.pointer none)).run P w=.ok b.isNone w:=by
 show(Op.equalIn (9999+1) t _ _).run P w=_;rw [Op.equalIn,Sem.run_bind,run_underlying h];cases b<;>rfl
theorem ml {t e:TypeId} {b:Option Addr} {k c k' c':Nat} (h:P.underlying t=some (.slice e)) (w:World):(Op.equal t (.slice none k c) (.slice b k' c')).run P w=.ok b.isNone w:=by
 show(Op.equalIn (9999+1) t _ _).run P w=_;rw [Op.equalIn,Sem.run_bind,run_underlying h];cases b<;>rfl
theorem mm {t e:TypeId} {b:Option Addr} {k c k' c':Nat} (h:P.underlying t=some (.slice e)) (w:World):(Op.equal t (.slice b k c) (.slice none k' c')).run P w=.ok b.isNone w:=by
 show(Op.equalIn (9999+1) t _ _).run P w=_;rw [Op.equalIn,Sem.run_bind,run_underlying h];cases b<;>rfl
theorem mn {t:TypeId} {a1 a2 a3:_} {g:FuncId} {f c:Array Value} (h:P.underlying t=some (.func a1 a2 a3)) (w:World):(Op.equal t (.func (.func g) f c) .nilFunc).run P w=.ok false w:=by
 show(Op.equalIn (9999+1) t _ _).run P w=_;rw [Op.equalIn,Sem.run_bind,run_underlying h];rfl
theorem M5 {n:Nat->Prop} {g:FuncId} {f c:Array Value} {v':Value} (h:VR n ι (.func (.func g) f c) v'): ∃f' c',v'=.func (.func g) f' c':=by
 cases h with
 |flat _ _=>exact⟨_,_,rfl⟩
 |func _ _ b _ d _ _ _ _=>exact⟨_,_,rfl⟩
theorem y_ (hfr:bV H.D ι N fr a.tmps) {op:BinOp} {t yt:TypeId} {x y:Operand} (ho:o.op=.binOp op t x y yt) (hv:bL P op t (ev fr x) (ev fr y)=some v):cq P H.D ι o a v:=by
 have hx:=hfr.ev x;have hy:=hfr.ev y;unfold bL at hv;split at hv
 ·rename_i b e1 e2;rw [e1]at hx;rw [e2]at hy;have hx':=aE hx rfl;obtain⟨b',hy',hn⟩:=nZ hy;split at hv
  ·rename_i e hu;injection hv with hv;subst hv;have:=fy (q:=b'.isNone) (n:=H.D) (ι:=ι) ho hx' hy' (by simp) (by simp) (.inl rfl) (fun w=>kU hu w) (by cases b'<;>rfl) (by cases b'<;>rfl);rw [hn]at this;exact this
  ·rename_i e hu;injection hv with hv;subst hv;have:=fy (q:=b'.isNone) (n:=H.D) (ι:=ι) ho hx' hy' (by simp) (by simp) (.inr rfl) (fun w=>kU hu w) (by cases b'<;>rfl) (by cases b'<;>rfl);rw [hn]at this;exact this
  ·cases hv
 ·rename_i e1 e2;rw [e1]at hx;rw [e2]at hy;have hy':=aE hy rfl;obtain⟨b',hx',hn⟩:=nZ hx;split at hv
  ·rename_i e hu;injection hv with hv;subst hv;have:=fy (q:=b'.isNone) (n:=H.D) (ι:=ι) ho hx' hy' (by simp) (by simp) (.inl rfl) (fun w=>kV hu w) (by cases b'<;>rfl) (by cases b'<;>rfl);rw [hn]at this;exact this
  ·rename_i e hu;injection hv with hv;subst hv;have:=fy (q:=b'.isNone) (n:=H.D) (ι:=ι) ho hx' hy' (by simp) (by simp) (.inr rfl) (fun w=>kV hu w) (by cases b'<;>rfl) (by cases b'<;>rfl);rw [hn]at this;exact this
  ·cases hv
 ·rename_i b k c e1 e2;rw [e1]at hx;rw [e2]at hy;obtain⟨x',cx,hx',hnx⟩:=ee hx;obtain⟨b',cy,hy',hn⟩:=ee hy;have:x'=none:=by cases x' with|none=>rfl|some=>simp at hnx
  subst this;split at hv
  ·rename_i e hu;injection hv with hv;subst hv;have:=fy (q:=b'.isNone) (n:=H.D) (ι:=ι) ho hx' hy' (by simp) (by simp) (.inl rfl) (fun w=>ml hu w) (by cases b'<;>rfl) (by cases b'<;>rfl);rw [hn]at this;exact this
  ·rename_i e hu;injection hv with hv;subst hv;have:=fy (q:=b'.isNone) (n:=H.D) (ι:=ι) ho hx' hy' (by simp) (by simp) (.inr rfl) (fun w=>ml hu w) (by cases b'<;>rfl) (by cases b'<;>rfl);rw [hn]at this;exact this
  ·cases hv
 ·rename_i e1 e2;rw [e1]at hx;rw [e2]at hy;obtain⟨b',cx,hx',hn⟩:=ee hx;obtain⟨y',cy,hy',hny⟩:=ee hy;have:y'=none:=by cases y' with|none=>rfl|some=>simp at hny
  subst this;split at hv
  ·rename_i e hu;injection hv with hv;subst hv;have:=fy (q:=b'.isNone) (n:=H.D) (ι:=ι) ho hx' hy' (by simp) (by simp) (.inl rfl) (fun w=>mm hu w) (by cases b'<;>rfl) (by cases b'<;>rfl);rw [hn]at this;exact this
  ·rename_i e hu;injection hv with hv;subst hv;have:=fy (q:=b'.isNone) (n:=H.D) (ι:=ι) ho hx' hy' (by simp) (by simp) (.inr rfl) (fun w=>mm hu w) (by cases b'<;>rfl) (by cases b'<;>rfl);rw [hn]at this;exact this
  ·cases hv
 ·rename_i g f c e1 e2;rw [e1]at hx;rw [e2]at hy;have hy':=aE hy rfl;obtain⟨f',c',hx'⟩:=M5 hx;split at hv
  ·rename_i hu;injection hv with hv;subst hv;exact fy (q:=false) (n:=H.D) (ι:=ι) ho hx' hy' (by simp) (by simp) (.inl rfl) (fun w=>mn hu w) rfl rfl
  ·rename_i hu;injection hv with hv;subst hv;exact fy (q:=false) (n:=H.D) (ι:=ι) ho hx' hy' (by simp) (by simp) (.inr rfl) (fun w=>mn hu w) rfl rfl
  ·cases hv
 ·cases hv
 ·rename_i h0 h1 h2 h3 h4 h5;split at hv
  ·rename_i hf;rw [Bool.and_eq_true]at hf;obtain⟨hv1,hv2⟩:=dX hv;have ex:=aE hx hf.1;have ey:=aE hy hf.2;refine cF (v':=v) (fun w=>n_ w ho ?_) (.flat _ hv2);rw [ex,ey,ph x y (fun e=>by first|exact h0 e|exact h1 e|exact h2 e|exact h3 e|exact h4 e|exact h5 e)];exact fg hv1 w
  ·cases hv
end
section
variable {P:Program} {T:Callee} {H H':LH} {ι:Ren} {o:Oper} {a:Act} {w:World} {v v':Value} {N:Nat} {fr:Fr}
theorem od (hfr:bV H.D ι N fr a.tmps) {d k y:Nat} {x:Option Operand} {code:BoundsCode} (hb:cD fr d x=some k) (hk:k<=y):
  (match x.map a.eval with|some v=>Instr.sliceBound v y code|none=>pure d:Sem Nat).run P w=.ok k w:=by
 unfold cD at hb;cases x with
 |none=>simp only [Option.some.injEq]at hb;subst hb;rfl
 |some x=>
  simp only [Option.map_some]at hb⊢;split at hb
  ·rename_i kd i e;split at hb
   ·injection hb with hb;have h1:=hfr.ev x;rw [e]at h1;rw [yX h1];simp only [Instr.sliceBound,asIntOf,Sem.run_bind,Sem.run_pure,Result.andThen_ok];rw [if_pos (by omega),hb];rfl
   ·cases hb
  ·cases hb
theorem mo (hfr:bV H.D ι N fr a.tmps) {i j n c:Nat} {lo hi:Option Operand} {sl:Bool} (h1:cD fr 0 lo=some i) (h2:cD fr n hi=some j) (hij:i<=j) (hjc:j<=c):
  (Instr.sliceBounds sl n c (lo.map a.eval) (hi.map a.eval) none).run P w=.ok (i,j,c) w:=by
 unfold Instr.sliceBounds;have r2:=fun code=>od (P:=P) (w:=w) (code:=code) hfr h2 hjc;have r1:=fun code=>od (P:=P) (w:=w) (code:=code) hfr h1 hij;cases hi with
 |none=>
  have e2:n=j:=by simpa [cD]using h2
  cases lo with
  |none=>
   have e1:0=i:=by simpa [cD]using h1
   subst e1 e2;simp [Sem.run_bind]
  |some x=>
   simp only [Option.map_some]at r1;subst e2;simp [Sem.run_bind,r1]
 |some y=>
  simp only [Option.map_some]at r2;cases lo with
  |none=>
   have e1:0=i:=by simpa [cD]using h1
   subst e1;simp [Sem.run_bind,r2]
  |some x=>
   simp only [Option.map_some]at r1;simp [Sem.run_bind,r2,r1]
theorem za (hfr:bV H.D ι N fr a.tmps) {t:TypeId} {x:Operand} {lo hi:Option Operand} (ho:o.op=.slice t x lo hi none) (hv:ka P t (ev fr x) fr lo hi=some v):cq P H.D ι o a v:=by
 have hx:=hfr.ev x;unfold ka at hv;split at hv
 ·rename_i s hu e;rw [e]at hx;have hx':=aE hx rfl;split at hv
  ·rename_i i j hi1 hj1;split at hv
   ·rename_i hij;injection hv with hv;subst hv;refine cF (v':=.string (s.extract i j)) (fun w=>?_) (.flat _ rfl);unfold execOp;simp only [ho,hx',Instr.sliceAt,Instr.slice,Sem.run_bind,run_underlying hu,Result.andThen_ok,Sem.run_pure,Option.map_none,Option.isSome_none,Bool.false_eq_true,if_false,mo hfr hi1 hj1 hij.1 hij.2]
   ·cases hv
  ·cases hv
 ·rename_i e ad n c hu ex;rw [ex]at hx;split at hv
  ·rename_i i j s hi1 hj1 hs;split at hv
   ·rename_i hij;generalize hy:a.eval x=y at hx
    have hrun: ∀(w:World) (ad':Option Addr) (c':Nat),y=.slice ad' n c'->n<=c'->(execOp a.eval o).run P w=.ok (.value (.slice (if c'=i then ad' else ad'.map (·.add (i*s))) (j-i) (c'-i))) w:=by
     intro w ad' c' e hc;unfold execOp;simp only [ho,hy,e,Instr.sliceAt,Instr.slice,Sem.run_bind,run_underlying hu,Result.andThen_ok,Sem.run_pure,Option.map_none,mo hfr hi1 hj1 hij.1 (Nat.le_trans hij.2 hc),bC hs]
    split at hv
    ·rename_i l off;injection hv with hv;subst hv;cases hx with
     |flat _ hf=>simp [ao,az,aA]at hf
     |slice _ _ _ _ hl hc=>
      refine cF (fun w=>hrun w _ _ rfl (by omega)) ?_;by_cases he:c+(ι l).slack=i
      ·have e1:j-i=0:=by omega
       have e2:c-i=0:=by omega
       have e3:c+(ι l).slack-i=0:=by omega
       rw [if_pos he,e1,e2,e3];exact .slice0 l _ _ hl
      ·rw [if_neg he,Option.map_some,eO,Nat.add_assoc,show c+(ι l).slack-i=(c-i)+(ι l).slack by omega];exact .slice l _ _ _ hl (by omega)
     |slice0 _ _ ad hl=>
      refine cF (fun w=>hrun w _ _ rfl (Nat.le_refl _)) ?_;have e1:i=0:=by omega
      have e2:j=0:=by omega
      subst e1 e2;rw [if_pos rfl];exact .slice0 l _ _ hl
    ·injection hv with hv;subst hv
     have hf:n=0/\c=0/\y=.slice none 0 0:=by
      cases hx with
      |flat _ hf=>
       simp only [ao,az,aA,Bool.and_eq_true,beq_iff_eq]at hf;exact⟨hf.1,hf.2,by rw [hf.1,hf.2]⟩
     obtain⟨rfl,rfl,rfl⟩:=hf;refine cF (fun w=>hrun w none 0 rfl (Nat.le_refl _)) ?_;have e1:i=0:=by omega
     have e2:j=0:=by omega
     subst e1 e2;exact .flat _ rfl
    ·cases hv
   ·cases hv
  ·cases hv
 ·cases hv
def tu (n:Nat->Prop) (ι:Ren) (xs ys:Array Value):Prop:=xs.size=ys.size/\ ∀(i:Nat) (x y:Value),xs[i]?=some x->ys[i]?=some y->VR n ι x y
theorem tu.set {n:Nat->Prop} {xs ys:Array Value} (h:tu n ι xs ys) {k:Nat} {x y:Value} (hv:VR n ι x y):tu n ι (xs.setIfInBounds k x) (ys.setIfInBounds k y):=by
 refine⟨by simp [h.1],fun i p q hp hq=>?_⟩;rw [Array.getElem?_setIfInBounds]at hp hq;split at hp
 ·rename_i e;rw [if_pos e]at hq;split at hp
  ·split at hq
   ·injection hp with hp;injection hq with hq;rw [<-hp,<-hq];exact hv
   ·cases hq
  ·cases hp
 ·rename_i e;rw [if_neg e]at hq;exact h.2 i p q hp hq
theorem rh {n:Nat->Prop} (off:Nat): ∀(us vs:List Value) (k:Nat) (xs ys:Array Value),us.length=vs.length->(∀(i:Nat) (x y:Value),us[i]?=some x->vs[i]?=some y->VR n ι x y)->tu n ι xs ys->
  tu n ι ((us.zipIdx k).foldl (fun cs (p:Value×Nat)=>cs.setIfInBounds (off+p.2) p.1) xs) ((vs.zipIdx k).foldl (fun cs (p:Value×Nat)=>cs.setIfInBounds (off+p.2) p.1) ys)
 | [],[],_,_,_,_,_,h=>h
 | [],_::_,_,_,_,hl,_,_=>by simp at hl
 |_::_,[],_,_,_,hl,_,_=>by simp at hl
 |u::us,v::vs,k,xs,ys,hl,hv,h=>by
  simp only [List.zipIdx_cons,List.foldl_cons];exact rh off us vs (k+1) _ _ (by simpa using hl) (fun i x y hx hy=>hv (i+1) x y (by simpa using hx) (by simpa using hy)) (h.set (hv 0 u v rfl rfl))
theorem jd {n:Nat->Prop} {place:Nat->Option (Nat×Nat)} : ∀(ps qs:List (Nat×Value)) (xs ys cs:Array Value),ps.length=qs.length->(∀(i:Nat) (p q:Nat×Value),ps[i]?=some p->qs[i]?=some q->p.1=q.1/\VR n ι p.2 q.2/\bO p.2=true)->
  tu n ι xs ys->Instr.fill place xs ps=some cs-> ∃ds,Instr.fill place ys qs=some ds/\tu n ι cs ds
 | [],[],xs,ys,cs,_,_,h,hf=>by
  simp only [Instr.fill,Option.some.injEq]at hf⊢;subst hf;exact⟨ys,rfl,h⟩
 | [],_::_,_,_,_,hl,_,_,_=>by simp at hl
 |_::_,[],_,_,_,hl,_,_,_=>by simp at hl
 |(i,u)::ps,(j,x)::qs,xs,ys,cs,hl,hv,h,hf=>by
  obtain⟨e,hvr,hk⟩:=hv 0 _ _ rfl rfl;simp only at e hvr hk;subst e;obtain⟨k1,k2⟩:=gB hvr hk;simp only [Instr.fill]at hf⊢;cases hp:place i with
  |none=>simp [hp]at hf
  |some pl=>
   obtain⟨off,size⟩:=pl;simp only [hp]at hf⊢;rw [<-k1,<-h.1];split at hf
   ·cases hf
   ·rename_i hc;rw [if_neg hc];refine jd ps qs _ _ cs (by simpa using hl) (fun i p q hp hq=>hv (i+1) p q (by simpa using hp) (by simpa using hq)) ?_ hf;have:=rh (n:=n) (ι:=ι) off u.cells.toList x.cells.toList 0 xs ys (by simp [k1]) (fun i p q hp hq=>k2 i p q (by simpa using hp) (by simpa using hq)) h;rw [<-Array.foldl_toList,<-Array.foldl_toList,Array.toList_zipIdx,Array.toList_zipIdx];exact this
theorem kf (hfr:bV H.D ι N fr a.tmps) {parts:Array (Nat×Operand)} (hk:(parts.toList.map fun p=>(p.1,ev fr p.2)).all (fun p=>bO p.2)=true):
  ∀(i:Nat) (p q:Nat×Value),(parts.toList.map fun p=>(p.1,ev fr p.2))[i]?=some p->(parts.map fun(i,x)=>(i,a.eval x)).toList[i]?=some q->p.1=q.1/\VR H.D ι p.2 q.2/\bO p.2=true:=by
 intro i p q hp hq;have hk':=(List.all_eq_true.1 hk) p (List.mem_of_getElem? hp);rw [Array.toList_map]at hq;rw [List.getElem?_map]at hp hq;cases hx:parts.toList[i]? with
 |none=>simp [hx]at hp
 |some y=>
  simp only [hx,Option.map_some,Option.some.injEq]at hp hq;rw [<-hp]at hk'⊢;rw [<-hq];exact⟨rfl,hfr.ev y.2,hk'⟩
theorem zb (hfr:bV H.D ι N fr a.tmps) {t:TypeId} {parts:Array (Nat×Operand)} (ho:o.op=.build t parts) (hv:l9 P t (parts.toList.map fun p=>(p.1,ev fr p.2))=some v):cq P H.D ι o a v:=by
 unfold l9 at hv;split at hv
 ·rename_i hc;rw [Bool.and_eq_true]at hc;obtain⟨hk,hz⟩:=hc;split at hv
  ·rename_i fs hu;obtain⟨cs,hcs,rfl⟩:=Option.map_eq_some_iff.1 hv;unfold Program.built at hcs;unfold zr at hz;cases hi:P.info? t with
   |none=>simp [hi]at hcs
   |some it=>
    simp only [hi,hu,Option.bind_some]at hcs hz;split at hcs
    ·rename_i z places hz1 hpl;rw [hz1]at hz;simp only [Option.any_some]at hz
     obtain⟨ds,hds,hr⟩:=jd (ι:=ι) (n:=H.D) _ (parts.map fun(i,x)=>(i,a.eval x)).toList z.cells z.cells cs (by simp) (kf hfr hk)
      ⟨rfl,fun i x y hx hy=>by rw [hx]at hy;injection hy with hy;rw [<-hy];exact dq hz _ _ (dr hz) hx⟩ hcs
     refine cF (v':=.agg ds) (fun w=>?_) (.agg _ _ hr.1 hr.2)
     have hb:P.built t (parts.map fun(i,x)=>(i,a.eval x)).toList=some ds:=by
      unfold Program.built;simp only [hi,hu,hz1,hpl];exact hds
     unfold execOp;simp only [ho,Sem.run_bind,run_build w t _ ds hb,Sem.run_pure,Result.andThen_ok]
    ·cases hcs
  ·cases hv
 ·cases hv
theorem nN (hrel:Rel P H ι w) (hfr:bV H.D ι N fr a.tmps) {t:TypeId} {len:Nat} {parts:Array (Nat×Operand)} (ho:o.op=.buildSlice t len parts) (hv:aG P t len (parts.toList.map fun p=>(p.1,ev fr p.2)) H=some (v,H')):gA P H ι o a w v H':=by
 unfold aG at hv;split at hv
 ·rename_i e hu;split at hv
  ·rename_i s z hs hz;split at hv
   ·rename_i hc;simp only [Bool.and_eq_true,decide_eq_true_eq,beq_iff_eq]at hc;obtain⟨⟨⟨⟨hf,hs0⟩,hlen⟩,hzs⟩,hk⟩:=hc;split at hv
    ·rename_i cs hcs;split at hv
     ·rename_i hsize;simp only [Option.some.injEq,Prod.mk.injEq]at hv;obtain⟨rfl,rfl⟩:=hv
      have hz0: ∀(i:Nat) (x y:Value),((Array.range (len*s)).map fun j=>z.cells[j%z.cells.size]!)[i]?=some x->((Array.range (len*s)).map fun j=>z.cells[j%z.cells.size]!)[i]?=some y->VR H.D ι x y:=by
       intro i x y hx hy;rw [hx]at hy;injection hy with hy;rw [<-hy];rw [Array.getElem?_map]at hx;cases hr:(Array.range (len*s))[i]? with
       |none=>simp [hr]at hx
       |some j=>
        simp only [hr,Option.map_some,Option.some.injEq]at hx;have hm:j%z.cells.size<z.cells.size:=Nat.mod_lt _ (by omega);rw [getElem!_pos z.cells _ hm]at hx;exact dq hf _ _ (dr hf) (i:=j%z.cells.size) (by rw [Array.getElem?_eq_getElem hm,hx])
      obtain⟨ds,hds,hr⟩:=jd (ι:=ι) (n:=H.D) _ (parts.map fun(i,x)=>(i,a.eval x)).toList _ _ cs (by simp) (kf hfr hk) ⟨rfl,hz0⟩ hcs
      have hout:=jc (slack:=0) (arr:=ds) (b:=⟨cs.toList,e,true⟩) hrel rfl hs (by simp [hr.1])
       (fun n h0 h1=>by
        have h1':len*s=n*s:=by rw [<-hsize];simpa using h1
        have:len=n:=Nat.eq_of_mul_eq_mul_right hs0 h1';have hle:len*1<=len*s:=Nat.mul_le_mul_left _ hs0;simp only [maxLen];omega)
       (fun i x hx=>by
        have hx':cs[i]?=some x:=by simpa using hx
        have hlt:i<ds.size:=by rw [<-hr.1];exact(Array.getElem?_eq_some_iff.1 hx').1
        exact⟨_,Array.getElem?_eq_getElem hlt,hr.2 i _ _ hx' (Array.getElem?_eq_getElem hlt)⟩)
      refine cZ (v':=.slice (some ⟨w.heap.size,0,none⟩) len len) ?_ hout ?_
      ·unfold execOp;simp only [ho,Instr.buildSlice,Sem.run_bind,run_underlying hu,Result.andThen_ok,bC hs];rw [if_neg (by omega)];by_cases h0:len*s=0
       ·have:((Array.range (len*s)).map fun j=>z.cells[j%z.cells.size]!)=((Array.range (len*s)).map fun j=>(#[]:Array Value)[j%(#[]:Array Value).size]!):=by rw [h0];simp
        rw [this]at hds;simp only [h0,if_true,Sem.run_bind,Sem.run_pure,Result.andThen_ok]at hds⊢;rw [hds];simp only [newRow,newObj,Sem.run_bind,Result.andThen_ok,Sem.run_pure];rfl
       ·simp only [if_neg h0,Sem.run_bind,eP hz,Sem.run_pure,Result.andThen_ok];rw [hds];simp only [newRow,newObj,Sem.run_bind,Result.andThen_ok,Sem.run_pure];rfl
      ·have:=VR.slice (n:=(H.new ⟨cs.toList,e,true⟩).D) (ι:=ι.add H.n ⟨w.heap.size,0,0⟩) H.n 0 len len ((fh hrel H.n).2 (.inr rfl)) (Nat.le_refl _);simpa [Ren.add]using this
     ·cases hv
    ·cases hv
   ·cases hv
  ·cases hv
 ·cases hv
theorem Dw (hrel:Rel P H ι w) (hfr:bV H.D ι N fr a.tmps) {t:TypeId} {x y:Operand} (ho:o.op=.makeSlice t x y) (hv:gv P t (ev fr x) (ev fr y) H=some (v,H')):gA P H ι o a w v H':=by
 unfold gv at hv;split at hv
 ·rename_i e k1 l k2 c hu hx hy;split at hv
  ·rename_i it hi;split at hv
   ·rename_i z hz;split at hv
    ·rename_i hc;simp only [Bool.and_eq_true,decide_eq_true_eq,beq_iff_eq]at hc;obtain⟨⟨⟨⟨⟨⟨hf,hs0⟩,hl0⟩,hlc⟩,hcs⟩,hby⟩,hzs⟩:=hc;simp only [Option.some.injEq,Prod.mk.injEq]at hv;obtain⟨rfl,rfl⟩:=hv;have hs:sz P e=some it.size:=by unfold sz;rw [hi];rfl
     have hzr:zr P e=some z:=by unfold zr;rw [hi];exact hz
     have ex:a.eval x=.int k1 l:=by
      have:=ke hfr (x:=x) (by rw [hx];rfl);rw [this,hx]
     have ey:a.eval y=.int k2 c:=by
      have:=ke hfr (x:=y) (by rw [hy];rfl);rw [this,hy]
     have hcm:c.toNat<=1048576:=Nat.le_trans (Nat.le_mul_of_pos_right _ hs0) hcs
     have hout:=jc (slack:=0) (arr:=(Array.range (c.toNat*it.size)).map fun j=>z.cells[j%z.cells.size]!) (b:=⟨((Array.range (c.toNat*it.size)).map fun j=>z.cells[j%z.cells.size]!).toList,e,true⟩) hrel rfl hs (by simp)
      (fun n h0 h1=>by
       have h1':c.toNat*it.size=n*it.size:=by simpa using h1
       have:c.toNat=n:=Nat.eq_of_mul_eq_mul_right hs0 h1';simp only [maxLen];omega)
      (fun i x hx=>by
       have hx':((Array.range (c.toNat*it.size)).map fun j=>z.cells[j%z.cells.size]!)[i]?=some x:=by rw [<-Array.getElem?_toList];exact hx
       refine⟨x,hx',?_⟩;rw [Array.getElem?_map]at hx';cases hr:(Array.range (c.toNat*it.size))[i]? with
       |none=>simp [hr]at hx'
       |some j=>
        simp only [hr,Option.map_some,Option.some.injEq]at hx';have hm:j%z.cells.size<z.cells.size:=Nat.mod_lt _ (by omega);rw [getElem!_pos z.cells _ hm]at hx';exact dq hf _ _ (dr hf) (i:=j%z.cells.size) (by rw [Array.getElem?_eq_getElem hm,hx']))
     refine cZ (v':=.slice (some ⟨w.heap.size,0,none⟩) l.toNat c.toNat) ?_ hout ?_
     ·unfold execOp;have w1:IntKind.i64.wrap l=l:=IntWalk.i64_in _ ⟨by omega,by omega⟩;have w2:IntKind.i64.wrap c=c:=IntWalk.i64_in _ ⟨by omega,by omega⟩;have hbc:c.toNat*it.bytes<=1048576*1048576:=Nat.mul_le_mul hcm hby
      have hbc':(it.bytes:Int)*c<=2^48:=by
       have e1:(it.bytes:Int)*c=((c.toNat*it.bytes:Nat):Int):=by rw [Int.natCast_mul,Int.toNat_of_nonneg (by omega),Int.mul_comm]
       rw [e1];have:((c.toNat*it.bytes:Nat):Int)<=((1048576*1048576:Nat):Int):=Int.ofNat_le.2 hbc;omega
      have hroom: ¬(c.toNat*it.bytes>roomBytes):=by unfold roomBytes;omega
      have h1: ¬(c<0):=by omega
      have h2: ¬(l<0):=by omega
      have h3: ¬(c<l):=by omega
      have h4: ¬(281474976710656<(it.bytes:Int)*c):=by omega
      by_cases h0:c.toNat*it.size=0
      ·simp [ho,ex,ey,Instr.makeSlice,Sem.run_bind,run_underlying hu,asInt,asIntOf,typeInfo,hi,w1,w2,h1,h2,h3,h4,askRoom,hroom,bC hs,h0,newRow,newObj,show Array.range 0=#[] from rfl];rfl
      ·simp [ho,ex,ey,Instr.makeSlice,Sem.run_bind,run_underlying hu,asInt,asIntOf,typeInfo,hi,w1,w2,h1,h2,h3,h4,askRoom,hroom,bC hs,h0,eP hzr,newRow,newObj];rfl
     ·have:=VR.slice (n:=(H.new ⟨((Array.range (c.toNat*it.size)).map fun j=>z.cells[j%z.cells.size]!).toList,e,true⟩).D) (ι:=ι.add H.n ⟨w.heap.size,0,0⟩) H.n 0 l.toNat c.toNat ((fh hrel H.n).2 (.inr rfl)) (by omega);simpa [Ren.add]using this
    ·cases hv
   ·cases hv
  ·cases hv
 ·cases hv
theorem eg (h:Rel P H ι w) (l:Nat):Rel P (H.kill l) ι w:=by
 have hrwk: ∀k,RW (H.kill l) ι k->RW H ι k\/w.heap.size<=k:=by
  rintro k ⟨m,b,hk,hb,rfl⟩;change (if m=l then none else H.get m)=some b at hk;split at hk
  ·cases hk
  ·exact .inl ⟨m,b,hk,hb,rfl⟩
 refine⟨fun k hk=>?_,fun k hk=>⟨(h.hol k hk).1,?_⟩,fun k b hb=>?_,fun k k' b b' h1 h2=>?_,ed h (Change.refl _ _) hrwk rfl rfl⟩
 ·show(if k=l then none else H.get k)=none;split
  ·rfl
  ·exact h.dom k hk
 ·show(if k=l then none else H.get k)=none;split
  ·rfl
  ·exact(h.hol k hk).2
 ·change (if k=l then none else H.get k)=some b at hb;split at hb
  ·cases hb
  ·exact h.blk k b hb
 ·change (if k=l then none else H.get k)=some b at h1;change (if k'=l then none else H.get k')=some b' at h2;split at h1
  ·cases h1
  ·split at h2
   ·cases h2
   ·exact h.sep k k' b b' h1 h2
theorem oe (h:Rel P H ι w) {b:LB} {arr:Array Value} {g slack s:Nat} {tt:TypeId} {ff:Nat×Nat} {w':World} {row:Option Nat} (hrw:b.rw=true) (hs:sz P tt=some s) (hE:kc P b.elem tt ff arr.size) (hg:w'.heap[g]?=some (.cells arr tt ff))
  (hsz:arr.size=b.cells.length+slack*s) (hm: ∀n,s≠0->b.cells.length=n*s->n+slack<=maxLen) (hc: ∀(i:Nat) x,b.cells[i]?=some x-> ∃y,arr[i]?=some y/\VR H.D ι x y)
  (hgr:w.grownBy w' row) (hrow: ∀l b',H.get l=some b'->row≠some (ι l).blk) (hpin: ∀g,g<H.ng->row≠some g) (hgn:row=some g\/g=w.heap.size):
  Rel P (H.new b) (ι.add H.n ⟨g,0,slack⟩) w':=by
 obtain⟨d1,d2,d3⟩:=lF h (b:=b);have hsub: ∀l,H.D l->(H.new b).D l:=fun l hl=>(fh h l).2 (.inl hl);have hsame: ∀l,H.D l->(ι.add H.n ⟨g,0,slack⟩) l=ι l:=fun l hl=>by unfold Ren.add;rw [if_neg (fun e=>d3 (by rw [<-e];exact hl))]
 have hold: ∀l b',H.get l=some b'->(ι l).blk<w.heap.size:=fun l b' hb=>by
  obtain⟨arr',t,f,hw,_⟩:=h.blk l b' hb;exact lt_of_block hw
 have hne: ∀l b',H.get l=some b'->(ι l).blk≠g:=fun l b' hb e=>by
  rcases hgn with h1|h1
  ·exact hrow l b' hb (by rw [h1,e])
  ·have:=hold l b' hb;omega
 have hpins: ∀g',g'<H.ng->w'.heap[g']?=H.base.heap[g']?/\g'<w'.heap.size/\ ¬RW (H.new b) (ι.add H.n ⟨g,0,slack⟩) g':=by
  intro g' hg';obtain⟨e1,e2,e3⟩:=h.pin g' hg';refine⟨by rw [hgr.block g' e2 (fun e=>hpin g' hg' e.symm)];exact e1,Nat.lt_of_lt_of_le e2 hgr.size,?_⟩;rintro⟨l,b',hb',hrw',e⟩;change (if l=H.n then some b else H.get l)=some b' at hb';split at hb'
  ·rename_i e0;subst e0;simp only [Ren.add,if_true]at e;rcases hgn with h1|h1
   ·exact hpin g' hg' (by rw [h1,e])
   ·omega
  ·rw [hsame l (h.live hb')]at e;exact e3 ⟨l,b',hb',hrw',e⟩
 refine⟨d1,d2,fun l b' hb'=>?_,fun l l' b1 b2 h1 h2 hrw1 hne1=>?_,hpins⟩
 ·change (if l=H.n then some b else H.get l)=some b' at hb';split at hb'
  ·rename_i e;subst e;injection hb' with hb';subst hb';have e:(ι.add H.n ⟨g,0,slack⟩) H.n=⟨g,0,slack⟩:=by simp [Ren.add]
   rw [e];refine⟨arr,tt,ff,hg,by simp;omega,fun i x hx=>?_,fun _=>⟨rfl,hE,s,hs,hsz,hm⟩⟩;obtain⟨y,hy,hv⟩:=hc i x hx;exact⟨y,by simpa using hy,hv.mono hsub hsame⟩
  ·rw [hsame l (h.live hb')];obtain⟨arr',t,f,hw,h1,h2,h3⟩:=h.blk l b' hb';refine⟨arr',t,f,by rw [hgr.block _ (hold l b' hb') (fun e=>hrow l b' hb' e.symm)];exact hw,h1,fun i x hx=>?_,h3⟩;obtain⟨y,hy,hv⟩:=h2 i x hx;exact⟨y,hy,hv.mono hsub hsame⟩
 ·change (if l=H.n then some b else H.get l)=some b1 at h1;change (if l'=H.n then some b else H.get l')=some b2 at h2;split at h1<;>split at h2
  ·omega
  ·rename_i e1 e2;rw [hsame l' (h.live h2),e1];have:=hne l' b2 h2;simp only [Ren.add,if_true];exact fun e=>this e.symm
  ·rename_i e1 e2;rw [hsame l (h.live h1),e2];have:=hne l b1 h1;simp only [Ren.add,if_true];exact this
  ·rw [hsame l (h.live h1),hsame l' (h.live h2)];exact h.sep l l' b1 b2 h1 h2 hrw1 hne1
theorem zc (h:Rel P H ι w) {b:LB} {arr:Array Value} {g slack s:Nat} {w':World} {row:Option Nat} (hrw:b.rw=true) (hs:sz P b.elem=some s) (hg:w'.heap[g]?=some (.cells arr b.elem (0,0)))
  (hsz:arr.size=b.cells.length+slack*s) (hm: ∀n,s≠0->b.cells.length=n*s->n+slack<=maxLen) (hc: ∀(i:Nat) x,b.cells[i]?=some x-> ∃y,arr[i]?=some y/\VR H.D ι x y)
  (hgr:w.grownBy w' row) (hrow: ∀l b',H.get l=some b'->row≠some (ι l).blk) (hpin: ∀g,g<H.ng->row≠some g) (hgn:row=some g\/g=w.heap.size):
  Rel P (H.new b) (ι.add H.n ⟨g,0,slack⟩) w':=oe h hrw hs (.inl ⟨rfl,rfl⟩) hg hsz hm hc hgr hrow hpin hgn
theorem wx {e:TypeId} {s:Nat} (h:ax P e=some s): ∃i z,P.info? e=some i/\i.zero=some z/\i.size=s/\z.cells.size=s/\0<s/\i.bytes<=1048576/\sz P e=some s:=by
 unfold ax at h;cases hi:P.info? e with
 |none=>simp [hi]at h
 |some i=>
  simp only [hi]at h;cases hz:i.zero with
  |none=>simp [hz]at h
  |some z=>
   simp only [hz]at h;split at h
   ·rename_i hc;injection h with h;subst h;exact⟨i,z,rfl,hz,rfl,hc.1,hc.2.1,hc.2.2,by simp [sz,hi]⟩
   ·cases h
theorem tv (hrel:Rel P H ι w) {y y':Value} {s m:Nat} {new:List Value} (hs0:0<s) (hy:VR H.D ι y y') (h:qU s y H=some (m,new)):
  (m=0/\new= []/\ ∃b c,y'=.slice b 0 c)\/(0<m/\new.length=m*s/\ ∃(ad:Addr) (c:Nat) (us:List Value),y'=.slice (some ad) m c/\us.length=m*s/\(∀(j:Nat) (u:Value),us[j]?=some u->w.cell? (ad.add j)=some u)/\
   ∀(j:Nat) (x u:Value),new[j]?=some x->us[j]?=some u->VR H.D ι x u):=by
 unfold qU at h;split at h
 ·simp only [Option.some.injEq,Prod.mk.injEq]at h;obtain⟨rfl,rfl⟩:=h;exact .inl ⟨rfl,rfl,none,0,aE hy rfl⟩
 ·rename_i l off k c;split at h
  ·rename_i b hb;simp only [fR,Option.map_eq_some_iff,Prod.mk.injEq]at h;obtain⟨cs,hcs,rfl,rfl⟩:=h;split at hcs
   ·rename_i hle;simp only [Option.some.injEq]at hcs;have hlen:cs.length=k*s:=by rw [<-hcs];simp;omega
    rcases Nat.eq_zero_or_pos k with h0|h0
    ·subst h0;left;refine⟨rfl,List.eq_nil_of_length_eq_zero (by simpa using hlen),?_⟩;obtain⟨b',c',e,_⟩:=ee hy;exact⟨b',c',e⟩
    ·right;refine⟨h0,hlen,?_⟩;cases hy with
     |flat _ hf=>simp [ao,az,aA]at hf
     |slice0=>omega
     |slice _ _ _ _ hl hc=>
      have hget: ∀(j:Nat) x,cs[j]?=some x->b.cells[off+j]?=some x:=by
       intro j x hx;rw [<-hcs,List.getElem?_take]at hx;split at hx
       ·rw [List.getElem?_drop]at hx;exact hx
       ·cases hx
      have hall: ∀j,j<k*s-> ∃y,w.cell? ⟨(ι l).blk,(ι l).off+off+j,none⟩=some y/\ ∀x,cs[j]?=some x->VR H.D ι x y:=by
       intro j hj;have hx:cs[j]?=some (cs[j]'(by omega)):=List.getElem?_eq_getElem (by omega);obtain⟨y,hy,hv⟩:=hrel.cell hb (hget j _ hx);exact⟨y,by rw [Nat.add_assoc];exact hy,fun x hx'=>by rw [hx]at hx';injection hx' with hx';rw [<-hx'];exact hv⟩
      obtain⟨f,hf⟩: ∃f:Nat->Value,∀j,j<k*s->w.cell? ⟨(ι l).blk,(ι l).off+off+j,none⟩=some (f j)/\ ∀x,cs[j]?=some x->VR H.D ι x (f j):=by
       classical
       refine⟨fun j=>if hj:j<k*s then Classical.choose (hall j hj)else undef,fun j hj=>?_⟩;simp only [dif_pos hj];exact Classical.choose_spec (hall j hj)
      refine⟨_,_,(List.range (k*s)).map f,rfl,by simp,fun j u hu=>?_,fun j x u hx hu=>?_⟩
      ·rw [List.getElem?_map]at hu;rcases Nat.lt_or_ge j (k*s)with hj|hj
       ·rw [List.getElem?_range hj]at hu;simp only [Option.map_some,Option.some.injEq]at hu;rw [eO,<-hu];exact(hf j hj).1
       ·rw [List.getElem?_eq_none (by simpa using hj)]at hu;simp at hu
      ·rw [List.getElem?_map]at hu;rcases Nat.lt_or_ge j (k*s)with hj|hj
       ·rw [List.getElem?_range hj]at hu;simp only [Option.map_some,Option.some.injEq]at hu;rw [<-hu];exact(hf j hj).2 x hx
       ·rw [List.getElem?_eq_none (by simpa using hj)]at hu;simp at hu
   ·cases hcs
  ·cases h
 ·cases h
theorem wy (hrel:Rel P H ι w) {t u e:TypeId} {y y':Value} {s m:Nat} {new:List Value} (hs0:0<s) (ht:P.underlying t=some (.slice e)) (hy:VR H.D ι y y') (h:(if t=u then qU s y H else qV P u e s y)=some (m,new)):
  (m=0/\new= []/\Src P s u y' 0 [] w)\/(0<m/\new.length=m*s/\ ∃(us:List Value),j7 P t u e s y' m us w/\us.length=m*s/\
   ∀(j:Nat) (x u:Value),new[j]?=some x->us[j]?=some u->VR H.D ι x u):=by
 split at h
 ·rename_i htu;subst htu;rcases tv hrel hs0 hy h with⟨h1,h2,b,c,rfl⟩|⟨h1,h2,ad,c,us,rfl,h3,h4,h5⟩
  ·refine .inl ⟨h1,h2,?_⟩;cases b with
   |none=>exact Src.ofNil w ht c
   |some ad=>exact Src.ofSlice w ht ad 0 c [] (by simp) (fun j u hj=>by simp at hj) (fun u hu=>by cases hu)
  ·exact .inr ⟨h1,h2,us,.inl ⟨rfl,ad,c,rfl,h3,h4⟩,h3,h5⟩
 ·unfold qV at h;split at h
  ·rename_i bs z hu hz;split at h
   ·rename_i hc;obtain⟨rfl,rfl,hb⟩:=hc;simp only [Option.some.injEq,Prod.mk.injEq]at h;obtain⟨rfl,rfl⟩:=h;have ey:=aE hy rfl;subst ey;rcases Nat.eq_zero_or_pos bs.size with h0|h0
    ·refine .inl ⟨h0,List.eq_nil_of_length_eq_zero (by rw [Lib.strCells_length,h0]),?_⟩;have:=Src.ofString w hu bs;have e2:byteCells bs= []:=List.eq_nil_of_length_eq_zero (by rw [byteCells_length,h0]);rw [h0,e2]at this;exact this
    ·refine .inr ⟨h0,by rw [Lib.strCells_length,Nat.mul_one],Lib.strCells bs,.inr ⟨hu,rfl,?_,bs,rfl,rfl,rfl⟩,by rw [Lib.strCells_length,Nat.mul_one],fun j x u hx hu'=>?_⟩
     ·unfold zr at hz;unfold Il at hb;cases hi:P.info? e with
      |none=>rw [hi]at hz;cases hz
      |some i=>rw [hi]at hz hb;exact⟨i,rfl,by simpa using hz,by simpa using hb⟩
     ·rw [hx]at hu';injection hu' with hu';subst hu';have hm:=List.mem_of_getElem? hx;simp only [Lib.strCells,List.mem_map]at hm;obtain⟨q,_,rfl⟩:=hm;exact .flat _ rfl
   ·cases h
  ·cases h
theorem mq {H0:LH} (hrel:Rel P H0 ι w) {e:TypeId} {s k cap g:Nat} {olds news xs us:List Value} {w':World} {row:Option Nat} (hs:sz P e=some s) (hs0:0<s)
  (hol:olds.length+news.length=k*s) (hxl:xs.length=olds.length) (hul:us.length=news.length)
  (hxs: ∀(j:Nat) (x u:Value),olds[j]?=some x->xs[j]?=some u->VR H0.D ι x u) (hus: ∀(j:Nat) (x u:Value),news[j]?=some x->us[j]?=some u->VR H0.D ι x u)
  (hown:w'.ownsRow 0 e s (.slice (some ⟨g,0,none⟩) k cap) k (xs++us)) (hgr:w.grownBy w' row) (hrow: ∀l b',H0.get l=some b'->row≠some (ι l).blk) (hpin: ∀g,g<H0.ng->row≠some g) (hgn:row=some g\/g=w.heap.size):
  Rel P (H0.new ⟨olds++news,e,true⟩) (ι.add H0.n ⟨g,0,cap-k⟩) w'/\VR (H0.new ⟨olds++news,e,true⟩).D (ι.add H0.n ⟨g,0,cap-k⟩) (.slice (some ⟨H0.n,0,none⟩) k k) (.slice (some ⟨g,0,none⟩) k cap):=by
 rcases hown.2 with⟨hx0,_⟩|⟨g',cap',cur,hx0,_,hh,hnc,hcm,hcs,htake⟩
 ·cases hx0
 ·simp only [Value.slice.injEq,Option.some.injEq,Addr.mk.injEq]at hx0;obtain⟨⟨rfl,_⟩,_,rfl⟩:=hx0;refine⟨zc (b:=⟨olds++news,e,true⟩) (arr:=cur) (g:=g) (slack:=cap-k) (s:=s) hrel rfl hs hh ?_ ?_ ?_ hgr hrow hpin hgn,?_⟩
  ·rw [hcs];show cap*s=(olds++news).length+(cap-k)*s;rw [List.length_append,hol,<-Nat.add_mul];congr 1;omega
  ·intro n _ hn;have hn':k*s=n*s:=by rw [<-hol,<-List.length_append];exact hn
   have:=Nat.eq_of_mul_eq_mul_right hs0 hn';omega
  ·intro j x hx;have hx':(olds++news)[j]?=some x:=hx;have hlt:j<k*s:=by rw [<-hol,<-List.length_append];exact(List.getElem?_eq_some_iff.1 hx').1
   have hlt2:j<(xs++us).length:=by rw [List.length_append,hxl,hul,hol];exact hlt
   have h1:(cur.toList.take (k*s))[j]?=some (xs++us)[j]:=by rw [htake];exact List.getElem?_eq_getElem hlt2
   rw [List.getElem?_take,if_pos hlt]at h1;refine⟨(xs++us)[j],by simpa using h1,?_⟩;have h2:(xs++us)[j]?=some (xs++us)[j]:=List.getElem?_eq_getElem hlt2;rw [List.getElem?_append]at hx' h2;rw [hxl]at h2;split at hx'
   ·rw [if_pos ‹_›]at h2;exact hxs j _ _ hx' h2
   ·rw [if_neg ‹_›]at h2;exact hus _ _ _ hx' h2
  ·have:=VR.slice (n:=(H0.new ⟨olds++news,e,true⟩).D) (ι:=ι.add H0.n ⟨g,0,cap-k⟩) H0.n 0 k k ((fh hrel H0.n).2 (.inr rfl)) (Nat.le_refl _);have hcc:k+(cap-k)=cap:=by omega
   simpa [Ren.add,hcc]using this
theorem fV {H0:LH} (hrel0:Rel P H0 ι w) (hsub: ∀l b,H0.get l=some b->H.get l=some b) (hn:H0.n=H.n) (hh:H0.hole=H.hole) (hng:H0.ng=H.ng) {b0:LB} {g:Nat} {im:Im} {w':World} {row:Option Nat} (hrel:Rel P (H0.new b0) (ι.add H0.n im) w') (him:im.blk=g)
  (hgr:w.grownBy w' row) (hrow: ∀k,row=some k->RW H ι k) (hgn:row=some g\/g=w.heap.size):Out P H ι w (H0.new b0) (ι.add H0.n im) w':=by
 have hD: ∀l,H.D l->H0.D l:=fun l hl=>by unfold LH.D at hl⊢;rw [hn,hh];exact hl
 refine⟨hrel,by show H.n<=H0.n+1;omega,fun l hl=>(fh hrel0 l).2 (.inl (hD l hl)),fun l hl=>by unfold Ren.add;rw [if_neg (fun e=>by have:=(hD l hl).1;omega)],⟨hgr.os,hgr.tape,hgr.output,hgr.size,fun k hk hne=>hgr.block k hk (fun e=>hne (hrow k e.symm))⟩,?_,?_,hng⟩
 ·rintro k ⟨l,b',hb',hrw',rfl⟩;change (if l=H0.n then some b0 else H0.get l)=some b' at hb';split at hb'
  ·rename_i e2;subst e2;simp only [Ren.add,if_true,him];rcases hgn with hg|hg
   ·exact .inl (hrow g hg)
   ·exact .inr (by omega)
  ·rename_i hne;left;refine⟨l,b',hsub l b' hb',hrw',?_⟩;unfold Ren.add;rw [if_neg hne]
 ·rintro k ⟨l,b',hb',rfl⟩;change (if l=H0.n then some b0 else H0.get l)=some b' at hb';split at hb'
  ·rename_i e2;subst e2;simp only [Ren.add,if_true,him];rcases hgn with hg|hg
   ·obtain⟨l1,b1,g1,_,g3⟩:=hrow g hg;exact .inl ⟨l1,b1,g1,g3⟩
   ·exact .inr (by omega)
  ·rename_i hne;left;refine⟨l,b',hsub l b' hb',?_⟩;unfold Ren.add;rw [if_neg hne]
theorem kg {t u ty e:TypeId} {i:TypeInfo} {z:Value} (hu:P.underlying t=some (.slice e)) (hi:P.info? e=some i) (hz:i.zero=some z) (b:Addr)
  (y:Value) (m:Nat) (us:List Value) (hl:us.length=m*i.size) (hs:j7 P t u e i.size y m us w) (hone: ∀u∈us,u.oneCell'=true) (h0:0<m) (hm:m<=1048576) (hb:i.bytes<=1048576):
  (Builtin.append_ #[t,u] ty #[.slice (some b) 0 0,y]).run P w=(Builtin.append_ #[t,u] ty #[.slice none 0 0,y]).run P w:=by
 have hmb:=Nat.mul_le_mul hm hb;have hf:Builtin.nextslicecap (0+m) 0*i.bytes<=281474976710656:=growslice_fits (by omega) (by rw [Nat.zero_add];omega)
 have hsrc:Src P i.size u y m us w:=by
  rcases hs with⟨rfl,ad,c,rfl,h1,h2⟩|⟨h1,h2,_,bs,rfl,rfl,rfl⟩
  ·exact Src.ofSlice w hu ad m c us h1 h2 hone
  ·rw [h2];exact Src.ofString w h1 bs
 rw [run_append_grow_src (P:=P) w t u ty e i z hu hi hz (some b) 0 0 [] (run_firstCells_some w.drew i.size 0 b 0 0 [] (by simp) (fun j v hj=>by simp at hj)) y m us hsrc (by omega) (by omega) hf,
  run_append_grow_src (P:=P) w t u ty e i z hu hi hz none 0 0 [] (run_firstCells_none w.drew i.size 0 0 0) y m us hsrc (by omega) (by omega) hf]
theorem nO {t u ty e t0:TypeId} {i:TypeInfo} {z:Value} {f:Nat×Nat} (hu:P.underlying t=some (.slice e)) (hi:P.info? e=some i) (hz:i.zero=some z) (hs1:i.size=1) (hzs:z.cells.size=1)
  {g n slack m:Nat} {arr:Array Value} {y:Value} {us:List Value} (hw:w.heap[g]?=some (.cells arr t0 f)) (hf: ∀k,k<arr.size-> ¬(f.1<=k/\k<f.2)) (hsz:arr.size=n+slack) (hcm:n+slack<=maxLen)
  (hs:j7 P t u e 1 y m us w) (hl:us.length=m) (hone: ∀u∈us,u.oneCell'=true) (hm:n+m<=1048576) (hb:i.bytes<=1048576):
  ∃g' cap w' arr' t' f',(Builtin.append_ #[t,u] ty #[.slice (some ⟨g,0,none⟩) n (n+slack),y]).run P w=.ok (.slice (some ⟨g',0,none⟩) (n+m) cap) w'/\w'.heap[g']?=some (.cells arr' t' f')/\
   ((t'=t0/\f'=f/\arr'.size=arr.size)\/(t'=e/\f'=(0,0)))/\arr'.size=cap/\n+m<=cap/\cap<=maxLen/\arr'.toList.take (n+m)=arr.toList.take n++us/\w.grownBy w' (some g)/\(some g=some g'\/g'=w.heap.size):=by
 have hsrc:Src P i.size u y m us w:=by
  rw [hs1];rcases hs with⟨rfl,ad,c,rfl,h1,h2⟩|⟨h1,h2,_,bs,rfl,rfl,rfl⟩
  ·exact Src.ofSlice w hu ad m c us h1 h2 hone
  ·exact Src.ofString w h1 bs
 by_cases hroom:m<=slack
 ·have hst:=dE (P:=P) g n t0 f us 0 arr w hw hf (by omega) hone;simp only [Nat.add_zero]at hst
  have hr:(Builtin.append_ #[t,u] ty #[.slice (some ⟨g,0,none⟩) n (n+slack),y]).run P w=.ok (.slice (some ⟨g,0,none⟩) (n+m) (n+slack)) (w.setRow g (arr.toList.take n++us++arr.toList.drop (n+us.length)).toArray):=by
   have hroom':n+m<=n+slack:=by omega
   have hc1:=hsrc.cells;rw [hs1]at hc1;rcases hsrc.kind with⟨e',hk⟩|hk<;>simp [Builtin.append_,run_underlying hu,run_underlying hk,sizeOf,typeInfo,hi,hsrc.len,hroom',hc1,Addr.add_lit,hs1,hst,hroom]
  refine⟨g,_,_,_,t0,f,hr,setRow_heap w g arr _ t0 _ hw,.inl ⟨rfl,rfl,?_⟩,?_,by omega,hcm,?_,⟨rfl,rfl,rfl,by simp,fun k _ hk=>setRow_other w g k _ (fun e=>hk (by rw [e]))⟩,.inl rfl⟩
  ·simp only [List.size_toArray,List.length_append,List.length_take,List.length_drop,Array.length_toList];omega
  ·simp only [List.size_toArray,List.length_append,List.length_take,List.length_drop,Array.length_toList];omega
  ·have hlen:(arr.toList.take n++us).length=n+m:=by rw [List.length_append,List.length_take,Array.length_toList,hl];omega
   show((arr.toList.take n++us)++arr.toList.drop (n+us.length)).take (n+m)=_;rw [<-hlen];exact List.take_left
 ·have hcell: ∀(j:Nat) (v:Value),(arr.toList.take n)[j]?=some v->w.drew.cell? ((⟨g,0,none⟩:Addr).add j)=some v:=fun j v hj=>by
   rw [List.getElem?_take]at hj;split at hj
   ·rw [eO];show w.cell? _=_;rw [Array.getElem?_toList]at hj;simp [World.cell?,hw,hj]
   ·cases hj
  have holds:=run_firstCells_some (P:=P) w.drew i.size n ⟨g,0,none⟩ n (n+slack) (arr.toList.take n) (by rw [List.length_take,Array.length_toList,hs1];omega) hcell
  have hbm:(n+m)*i.bytes<=140737488355328:=by
   have:=Nat.mul_le_mul hm hb;omega
  have hr:=run_append_grow_src (P:=P) w t u ty e i z hu hi hz (some ⟨g,0,none⟩) n (n+slack) (arr.toList.take n) holds y m us hsrc (by omega) (by omega) (growslice_fits (by omega) hbm);have hge:=grownCap_ge w (n+m) (n+slack) e;have hcm2:grownCap w (n+m) (n+slack) e<=maxLen:=grownCap_le_maxLen w (n+m) (n+slack) e (by simp only [maxLen];omega);have hlen:(arr.toList.take n++us).length=n+m:=by rw [List.length_append,List.length_take,Array.length_toList,hl];omega
  refine⟨w.heap.size,_,_,_,e,(0,0),hr,heap_alloc_new w.drew _,.inr ⟨rfl,rfl⟩,?_,hge,hcm2,?_,⟨rfl,rfl,rfl,by simp,fun k hk _=>heap_alloc_old w.drew _ hk⟩,.inr rfl⟩
  ·simp only [Array.size_append,List.size_toArray,size_zeroCells,hzs,hlen,Nat.mul_one];omega
  ·simp only [Array.toList_append];rw [<-hlen];exact List.take_left
theorem tw (hrel:Rel P H ι w) {t u ty e:TypeId} {i:TypeInfo} {z:Value} {s m n c l o:Nat} {b:LB} {x' y' v:Value} {new:List Value} (hu:P.underlying t=some (.slice e)) (hi:P.info? e=some i) (hz:i.zero=some z) (e1:i.size=s) (hzs:z.cells.size=s) (hbytes:i.bytes<=1048576) (hsz:sz P e=some s)
  (hS:(m=0/\new= []/\Src P s u y' 0 [] w)\/(0<m/\new.length=m*s/\ ∃(us:List Value),j7 P t u e s y' m us w/\us.length=m*s/\ ∀(j:Nat) (x u:Value),new[j]?=some x->us[j]?=some u->VR H.D ι x u))
  (hone: ∀us:List Value,us.length=m*s->new.length=m*s->(∀(j:Nat) (x u:Value),new[j]?=some x->us[j]?=some u->VR H.D ι x u)-> ∀u∈us,u.oneCell'=true)
  (hx:VR H.D ι (.slice (some ⟨l,o,none⟩) n c) x') (hb:H.get l=some b) (h:nX P e s l o n c b m new H=some (v,H')):
  ∃v' w' ι',(Builtin.append_ #[t,u] ty #[x',y']).run P w=.ok v' w'/\Out P H ι w H' ι' w'/\VR H'.D ι' v v':=by
 unfold nX at h;split at h
 case isFalse=>cases h
 rename_i hcond;obtain⟨hrw,hel,rfl,rfl,hclen,rfl,hn0,hm0,hmx⟩:=hcond;simp only [Option.some.injEq,Prod.mk.injEq]at h;obtain⟨rfl,rfl⟩:=h;unfold aH at hmx;rcases hS with⟨h0,_⟩|⟨_,hlen,us,hcells,hul,huv⟩
 ·omega
 have hone':=hone us hul hlen huv;rw [Nat.mul_one]at hul hlen;obtain⟨arr,t0,f0,hw0,hsz0,hcell0,hrwf⟩:=hrel.blk l b hb;obtain⟨g1,ge,s',g4,g5,g6⟩:=hrwf hrw
 have hs':s'=1:=by
  rcases ge with⟨h,_⟩|⟨_,h,_⟩
  ·rw [h,hel,yT]at g4;cases g4
  ·rw [h]at g4;injection g4 with g4;exact g4.symm
 subst hs'
 obtain rfl:x'=.slice (some ⟨(ι l).blk,0,none⟩) n (n+(ι l).slack):=by
  cases hx with
  |flat _ hf=>simp [ao,az,aA]at hf
  |slice _ _ _ _ _ _=>rw [g1]
  |slice0 _ _ ad _=>omega
 have hcapm:n+(ι l).slack<=maxLen:=g6 n (by omega) (by omega);have hlt:H.D l:=hrel.live hb;obtain⟨g,cap,w',arr',t',f',hr,hh,hk,hcs,hnc,hcm,htake,hgr,hg⟩:=nO (P:=P) (w:=w) (ty:=ty) hu hi hz e1 hzs hw0 (fun k hk=>ge.free hk) (by omega) hcapm hcells hul hone' hmx hbytes
 have hsub: ∀k b',(H.kill l).get k=some b'->k≠l/\H.get k=some b':=fun k b' hk=>by
  change (if k=l then none else H.get k)=some b' at hk;split at hk
  ·cases hk
  ·exact⟨‹_›,hk⟩
 have hEl:kc P (MK P e) t' f' arr'.size:=by
  rcases hk with⟨rfl,rfl,hsa⟩|⟨rfl,rfl⟩
  ·rw [hsa,<-hel];exact ge
  ·exact .inr ⟨rfl,hsz,.inr rfl⟩
 have hst:sz P t'=some 1:=by
  rcases hk with⟨rfl,rfl,hsa⟩|⟨rfl,rfl⟩
  ·exact g4
  ·exact hsz
 have hrel2:Rel P ((H.kill l).new ⟨b.cells++new,MK P e,true⟩) (ι.add (H.kill l).n ⟨g,0,cap-(n+m)⟩) w':=by
  refine oe (b:=⟨b.cells++new,MK P e,true⟩) (arr:=arr') (g:=g) (slack:=cap-(n+m)) (s:=1) (eg hrel l) rfl hst hEl hh ?_ ?_ ?_ hgr (fun k b' hk e=>?_) (fun g0 hg0 e=>?_) hg
  ·show arr'.size=(b.cells++new).length+(cap-(n+m))*1;rw [List.length_append];omega
  ·intro q _ hq;have hq':(b.cells++new).length=q*1:=hq;rw [List.length_append]at hq';omega
  ·intro j x hx;have hx':(b.cells++new)[j]?=some x:=hx
   have hlt3:j<n+m:=by
    have:=(List.getElem?_eq_some_iff.1 hx').1;rw [List.length_append]at this;omega
   have hat:(arr.toList.take n++us)[j]?=some ((arr.toList.take n++us)[j]'(by rw [List.length_append,List.length_take,Array.length_toList];omega)):=List.getElem?_eq_getElem _;generalize ((arr.toList.take n++us)[j]'(by rw [List.length_append,List.length_take,Array.length_toList];omega))=y0 at hat;refine⟨y0,?_,?_⟩
   ·rw [<-htake,List.getElem?_take,if_pos hlt3]at hat;rw [<-Array.getElem?_toList];exact hat
   ·have hln:(arr.toList.take n).length=n:=by rw [List.length_take,Array.length_toList];omega
    rw [List.getElem?_append]at hx' hat;rw [hln]at hat;rw [hclen]at hx';split at hx'
    ·rename_i hj;rw [if_pos hj,List.getElem?_take,if_pos hj]at hat;obtain⟨y,hy,hv⟩:=hcell0 j x hx';rw [g1,Nat.zero_add]at hy;rw [Array.getElem?_toList,hy]at hat;injection hat with hat;rw [<-hat];exact hv
    ·rename_i hj;rw [if_neg hj]at hat;exact huv _ _ _ hx' hat
  ·obtain⟨hne,hk'⟩:=hsub k b' hk;injection e with e;exact hrel.sep l k b b' hb hk' hrw (fun e=>hne e.symm) e
  ·injection e with e;exact(hrel.pin g0 hg0).2.2 ⟨l,b,hb,hrw,e⟩
 refine⟨_,w',_,hr,fV (H0:=H.kill l) (eg hrel l) (fun k b' hk=>(hsub k b' hk).2) rfl rfl rfl hrel2 rfl hgr (fun k e=>by injection e with e;exact⟨l,b,hb,hrw,e⟩) hg,?_⟩;have:=VR.slice (n:=((H.kill l).new ⟨b.cells++new,MK P e,true⟩).D) (ι:=ι.add (H.kill l).n ⟨g,0,cap-(n+m)⟩) (H.kill l).n 0 (n+m) (n+m) ((fh (eg hrel l) _).2 (.inr rfl)) (Nat.le_refl _);have hcc:n+m+(cap-(n+m))=cap:=by omega
 show VR _ _ (.slice (some ⟨(H.kill l).n,0,none⟩) (n+m) (n+m)) _;simpa [Ren.add,hcc]using this
theorem pk (hrel:Rel P H ι w) {t u ty:TypeId} {x y x' y':Value} (hx:VR H.D ι x x') (hy:VR H.D ι y y') (h:eG P t u x y H=some (v,H')):
  ∃v' w' ι',(Builtin.append_ #[t,u] ty #[x',y']).run P w=.ok v' w'/\Out P H ι w H' ι' w'/\VR H'.D ι' v v':=by
 unfold eG at h;split at h
 case h_2=>cases h
 rename_i e hu;split at h
 case h_2=>cases h
 rename_i s hs;obtain⟨i,z,hi,hz,e1,hzs,hs0,hbytes,hsz⟩:=wx hs;split at h
 case h_2=>cases h
 rename_i m new hsrc;have hS:=wy hrel hs0 hu hy hsrc;have ez: ∀ {ad:Option Addr} {n c:Nat},n<=c->Src P s u y' 0 [] w->(Builtin.append_ #[t,u] ty #[.slice ad n c,y']).run P w=.ok (.slice ad n c) w:=fun hn hs'=>run_append_nothing (P:=P) w t u ty e i hu hi _ _ _ hn _ (by rw [e1];exact hs');split at h
 case isFalse=>cases h
 rename_i hcell
 have hone: ∀us:List Value,us.length=m*s->new.length=m*s->(∀(j:Nat) (x u:Value),new[j]?=some x->us[j]?=some u->VR H.D ι x u)-> ∀u∈us,u.oneCell'=true:=fun us hul hlen huv u hu'=>by
  obtain⟨j,hj⟩:=List.getElem?_of_mem hu';have hlt:j<new.length:=by rw [hlen,<-hul];exact(List.getElem?_eq_some_iff.1 hj).1
  exact mf (huv j _ u (List.getElem?_eq_getElem hlt) hj) ((List.all_eq_true.1 hcell) _ (List.getElem_mem hlt))
 split at h
 ·have hx':=aE hx rfl;subst hx';split at h
  ·rename_i hm;subst hm;simp only [Option.some.injEq,Prod.mk.injEq]at h;obtain⟨rfl,rfl⟩:=h;rcases hS with⟨_,_,hz0⟩|⟨h0,_⟩
   ·exact⟨_,w,ι,ez (Nat.le_refl _) hz0,Out.refl hrel,.flat _ rfl⟩
   ·omega
  ·rename_i hm;split at h
   case isFalse=>cases h
   rename_i hmx;simp only [Option.some.injEq,Prod.mk.injEq]at h;obtain⟨rfl,rfl⟩:=h;rcases hS with⟨h0,_⟩|⟨_,hlen,us,hcells,hul,huv⟩
   ·omega
   unfold aH at hmx
   have hb2:(0+m)*i.bytes<=140737488355328:=by
    have:=Nat.mul_le_mul (show 0+m<=1048576 by omega) hbytes;omega
   obtain⟨g,cap,w',hr,hown,hgr,hg⟩:=fP (P:=P) w t u ty e i z s i.bytes hu hi hz e1 rfl hzs hs0 (.slice none 0 0) 0 [] (World.ownsRow_nil w 0 e s) y' m us hcells (hone us hul hlen huv) (by omega) (by simp only [maxLen];omega) hb2;simp only [Nat.zero_add]at hr hown;have hg':(none:Option Nat)=some g\/g=w.heap.size:=by simpa [Value.ownBlock]using hg
   obtain⟨h1,h2⟩:=mq (olds:= []) (xs:= []) (row:=none) hrel hsz hs0 (by simpa using hlen) rfl (by rw [hul,hlen]) (by simp) huv hown hgr (fun _ _ _ h=>by cases h) (fun _ _ h=>by cases h) hg';exact⟨_,w',_,hr,fV (H0:=H) hrel (fun _ _ h=>h) rfl rfl rfl h1 rfl hgr (fun _ h=>by cases h) hg',h2⟩
 ·rename_i l off n c;split at h
  case h_2=>cases h
  rename_i b hb;split at h
  case isFalse=>exact tw hrel hu hi hz e1 hzs hbytes hsz hS hone hx hb h
  rename_i hcond;obtain⟨hrw,rfl,rfl,hclen,hnc⟩:=hcond;obtain⟨arr,t0,f0,hw0,hsz0,hcell0,hrwf⟩:=hrel.blk l b hb;obtain⟨g1,ge,s',g4,g5,g6⟩:=hrwf hrw
  obtain⟨rfl,rfl⟩:t0=b.elem/\f0=(0,0):=by
   rcases ge with h|⟨h,_⟩
   ·exact h
   ·rw [h,yT]at hsz;cases hsz
  have es:s'=s:=by rw [hsz]at g4;injection g4 with g4;exact g4.symm
  subst es;have hlt:H.D l:=hrel.live hb
  have hX:x'=.slice (some ⟨(ι l).blk,0,none⟩) n (c+(ι l).slack)\/(n=0/\c=0/\ ∃ad,x'=.slice (some ad) 0 0):=by
   cases hx with
   |flat _ hf=>simp [ao,az,aA]at hf
   |slice _ _ _ _ _ _=>left;rw [g1]
   |slice0 _ _ ad _=>right;exact⟨rfl,rfl,ad,rfl⟩
  split at h
  ·rename_i hm;subst hm;simp only [Option.some.injEq,Prod.mk.injEq]at h;obtain⟨rfl,rfl⟩:=h;rcases hS with⟨_,_,hz0⟩|⟨h0,_⟩
   ·rcases hX with rfl|⟨rfl,rfl,ad,rfl⟩
    ·exact⟨_,w,ι,ez (by omega) hz0,Out.refl hrel,hx⟩
    ·exact⟨_,w,ι,ez (Nat.le_refl _) hz0,Out.refl hrel,hx⟩
   ·omega
  rename_i hm;rcases hS with⟨h0,_⟩|⟨hm0,hlen,us,hcells,hul,huv⟩
  ·omega
  have hone':=hone us hul hlen huv;split at h
  ·rename_i hroom;simp only [Option.some.injEq,Prod.mk.injEq]at h;obtain⟨rfl,rfl⟩:=h;rcases hX with rfl|⟨rfl,rfl,ad,rfl⟩
   ·have hns:(n+m)*s'<=c*s':=Nat.mul_le_mul_right _ hroom;rw [Nat.add_mul]at hns;have hin:n*s'+us.length<=arr.size:=by rw [hul];omega
    have hr:=j8 (P:=P) w t u ty b.elem i hu hi (ι l).blk n (c+(ι l).slack) arr hw0 y' m us (by rw [e1];exact hcells) hone' (by omega) (by rw [e1];exact hin);have ho:=vh (vs:=new) (us:=us) (o:=n*s') hrel hb hrw (by rw [hlen];omega) (by rw [hul,hlen]) huv hw0 hin;rw [e1]at hr;refine⟨_,_,ι,hr,ho,?_⟩;have:=VR.slice (n:=H.D) (ι:=ι) l 0 (n+m) c hlt hroom;rw [g1]at this;exact this
   ·omega
  ·rename_i hroom;split at h
   case isFalse=>cases h
   rename_i hgrow;obtain⟨rfl,hmx⟩:=hgrow;simp only [Option.some.injEq,Prod.mk.injEq]at h;obtain⟨rfl,rfl⟩:=h;unfold aH at hmx
   have hb2:(n+m)*i.bytes<=140737488355328:=by
    have:=Nat.mul_le_mul hmx hbytes;omega
   have hsub: ∀k b',(H.kill l).get k=some b'->k≠l/\H.get k=some b':=fun k b' hk=>by
    change (if k=l then none else H.get k)=some b' at hk;split at hk
    ·cases hk
    ·exact⟨‹_›,hk⟩
   rcases hX with rfl|⟨rfl,_,ad,rfl⟩
   ·have hcapm:n+(ι l).slack<=maxLen:=g6 n (by omega) hclen
    have hown:w.ownsRow 0 b.elem s' (.slice (some ⟨(ι l).blk,0,none⟩) n (n+(ι l).slack)) n (arr.toList.take (n*s')):=
     ⟨by simp;omega,.inr ⟨(ι l).blk,_,arr,rfl,Nat.zero_le _,hw0,by omega,hcapm,by rw [g5,hclen,Nat.add_mul],rfl⟩⟩
    obtain⟨g,cap,w',hr,hown',hgr,hg⟩:=fP (P:=P) w t u ty b.elem i z s' i.bytes hu hi hz e1 rfl hzs hs0 _ n _ hown y' m us hcells hone' (by omega) (by simp only [maxLen];omega) hb2;have hg':some (ι l).blk=some g\/g=w.heap.size:=by simpa [Value.ownBlock]using hg
    have hgr':w.grownBy w' (some (ι l).blk):=by simpa [Value.ownBlock]using hgr
    obtain⟨h1,h2⟩:=mq (H0:=H.kill l) (olds:=b.cells) (news:=new) (row:=some (ι l).blk) (eg hrel l) hsz hs0 (by rw [hclen,hlen,Nat.add_mul]) (by rw [List.length_take,Array.length_toList];omega) (by rw [hul,hlen])
     (fun j x u hx hu'=>by
      rw [List.getElem?_take]at hu';split at hu'
      ·obtain⟨y,hy,hv⟩:=hcell0 j x hx;rw [g1,Nat.zero_add]at hy;rw [Array.getElem?_toList,hy]at hu';injection hu' with hu';rw [<-hu'];exact hv
      ·cases hu') huv hown' hgr' (fun k b' hk e=>by
       obtain⟨hne,hk'⟩:=hsub k b' hk;injection e with e;exact hrel.sep l k b b' hb hk' hrw (fun e=>hne e.symm) e) (fun g0 hg0 e=>by
       injection e with e;exact(hrel.pin g0 hg0).2.2 ⟨l,b,hb,hrw,e⟩) hg'
    exact⟨_,w',_,hr,fV (H0:=H.kill l) (eg hrel l) (fun k b' hk=>(hsub k b' hk).2) rfl rfl rfl h1 rfl hgr' (fun k e=>by injection e with e;exact⟨l,b,hb,hrw,e⟩) hg',h2⟩
   ·obtain⟨g,cap,w',hr,hown,hgr,hg⟩:=fP (P:=P) w t u ty b.elem i z s' i.bytes hu hi hz e1 rfl hzs hs0 (.slice none 0 0) 0 [] (World.ownsRow_nil w 0 b.elem s') y' m us hcells hone' (by omega) (by simp only [maxLen];omega) hb2;rw [<-kg hu hi hz ad y' m us (by rw [e1];exact hul) (by rw [e1];exact hcells) hone' hm0 (by omega) hbytes]at hr;have hg':(none:Option Nat)=some g\/g=w.heap.size:=by simpa [Value.ownBlock]using hg
    have hb0:b.cells= []:=List.eq_nil_of_length_eq_zero (by rw [hclen];simp);obtain⟨h1,h2⟩:=mq (H0:=H.kill l) (olds:=b.cells) (news:=new) (xs:= []) (row:=none) (eg hrel l) hsz hs0 (by rw [hclen,hlen,Nat.add_mul]) (by rw [hb0]) (by rw [hul,hlen]) (by simp) huv hown hgr (fun _ _ _ h=>by cases h) (fun _ _ h=>by cases h) hg';exact⟨_,w',_,hr,fV (H0:=H.kill l) (eg hrel l) (fun k b' hk=>(hsub k b' hk).2) rfl rfl rfl h1 rfl hgr (fun _ h=>by cases h) hg',h2⟩
 ·cases h
end
section
variable {P:Program} {T:Callee} {H H' H1:LH} {ι:Ren} {o:Oper} {a:Act} {w:World} {v v':Value} {N:Nat} {fr fr':Fr}
theorem fG (hfr:bV H.D ι N fr a.tmps) (args:Array Operand):(args.toList.map (ev fr)).length=(args.map a.eval).size/\ ∀(i:Nat) (x y:Value),(args.toList.map (ev fr))[i]?=some x->(args.map a.eval)[i]?=some y->VR H.D ι x y:=by
 refine⟨by simp,fun i x y hx hy=>?_⟩;rw [List.getElem?_map,Array.getElem?_toList]at hx;rw [Array.getElem?_map]at hy;cases h:args[i]? with
 |none=>simp [h]at hx
 |some z=>
  simp only [h,Option.map_some,Option.some.injEq]at hx hy;rw [<-hx,<-hy];exact hfr.ev z
theorem ri (hrel:Rel P H ι w) {b:Builtin} {ats:List TypeId} {args:List Value} {args':Array Value} {ty:TypeId} {cs:Array Bool} (hl:args.length=args'.size)
  (hv: ∀(i:Nat) (x y:Value),args[i]?=some x->args'[i]?=some y->VR H.D ι x y) (h:aI P b ats args H=some (v,H')):
  ∃v' w' ι',(builtin b ats.toArray ty cs args').run P w=.ok (.value v') w'/\Out P H ι w H' ι' w'/\VR H'.D ι' v v':=by
 unfold aI at h;split at h
 ·rename_i t x
  obtain⟨y,rfl⟩: ∃y,args'=#[y]:=by
   obtain⟨l⟩:=args'
   match l,hl with
   | [y],_=>exact⟨y,rfl⟩
  have hxy:=hv 0 x y rfl rfl;split at h
  ·rename_i s hu;simp only [Option.some.injEq,Prod.mk.injEq]at h;obtain⟨rfl,rfl⟩:=h;have:=aE hxy rfl;subst this;exact⟨_,w,ι,by simp [builtin,Builtin.len_,Sem.run_bind,run_underlying hu,goInt],Out.refl hrel,.flat _ rfl⟩
  ·rename_i b' n c hu;simp only [Option.some.injEq,Prod.mk.injEq]at h;obtain⟨rfl,rfl⟩:=h;obtain⟨b2,c2,rfl,_⟩:=ee hxy;exact⟨_,w,ι,by simp [builtin,Builtin.len_,Sem.run_bind,run_underlying hu,goInt],Out.refl hrel,.flat _ rfl⟩
  ·cases h
 ·rename_i t u x y
  obtain⟨x',y',rfl⟩: ∃x' y',args'=#[x',y']:=by
   obtain⟨l⟩:=args'
   match l,hl with
   | [y,z],_=>exact⟨y,z,rfl⟩
  obtain⟨v',w',ι',hr,ho,hvr⟩:=pk (ty:=ty) hrel (hv 0 x x' rfl rfl) (hv 1 y y' rfl rfl) h;refine⟨v',w',ι',?_,ho,hvr⟩;simp only [builtin,Sem.run_bind,hr,Result.andThen_ok,Sem.run_pure]
 ·rename_i k x k' y;simp only [Option.some.injEq,Prod.mk.injEq]at h;obtain⟨rfl,rfl⟩:=h
  obtain⟨x',y',rfl⟩: ∃x' y',args'=#[x',y']:=by
   obtain⟨l⟩:=args'
   match l,hl with
   | [y,z],_=>exact⟨y,z,rfl⟩
  have e1:=aE (hv 0 _ x' rfl rfl) rfl;have e2:=aE (hv 1 _ y' rfl rfl) rfl;subst e1 e2;exact⟨_,w,ι,by simp [builtin,Builtin.min_,Builtin.min2,Sem.run_bind],Out.refl hrel,.flat _ rfl⟩
 ·rename_i k x k' y;simp only [Option.some.injEq,Prod.mk.injEq]at h;obtain⟨rfl,rfl⟩:=h
  obtain⟨x',y',rfl⟩: ∃x' y',args'=#[x',y']:=by
   obtain⟨l⟩:=args'
   match l,hl with
   | [y,z],_=>exact⟨y,z,rfl⟩
  have e1:=aE (hv 0 _ x' rfl rfl) rfl;have e2:=aE (hv 1 _ y' rfl rfl) rfl;subst e1 e2;exact⟨_,w,ι,by simp [builtin,Builtin.max_,Builtin.max2,Sem.run_bind],Out.refl hrel,.flat _ rfl⟩
 ·cases h
theorem tx (hrel:Rel P H ι w) (hfr:bV H.D ι N fr a.tmps) {c:Call} {b:Builtin} (ho:o.op=.call c) (hc:c.callee=.builtin b) (h:aI P b c.argTypes.toList (c.args.toList.map (ev fr)) H=some (v,H')):gA P H ι o a w v H':=by
 obtain⟨h1,h2⟩:=fG hfr c.args;obtain⟨v',w',ι',hr,hout,hvr⟩:=ri (ty:=o.type) (cs:=c.args.map fun|.const _=>true|_=>false) hrel h1 h2 h;refine cZ (v':=v') ?_ hout hvr;unfold execOp;simp only [ho,resolve,hc,Sem.run_bind,Sem.run_pure,Result.andThen_ok,invoke];exact hr
theorem gW {g:FuncId} (hg:cU P g) (args:Array Value):(callFunc g args).run P w=.ok (.enter g args) w:=by
 obtain⟨fn,hf,hb,hn⟩:=hg;unfold callFunc;have h1:(fn.name== "runtime.NumGoroutine")=false:=by simpa using hn
 have h2:fn.body.isNone=false:=by cases hq:fn.body<;>simp_all
 have hp:(program).run P w=.ok P w:=rfl;simp only [Sem.run_bind,hp,Result.andThen_ok,hf,h1,h2,Bool.false_eq_true,if_false,Sem.run_pure]
theorem mr (hfr:bV H.D ι N fr a.tmps) {c:Call} {f:Operand} (ho:o.op=.call c) (hc:c.callee=.value f) {g:FuncId} {first captured:Array Value} (hf:ev fr f=.func (.func g) first captured) (hg:cU P g):
  ∃fst' cap',(execOp a.eval o).run P w=.ok (.enter g (fst'++c.args.map a.eval++cap')) w/\(first.size=fst'.size/\ ∀(i:Nat) (x y:Value),first[i]?=some x->fst'[i]?=some y->VR H.D ι x y)/\captured.size=cap'.size/\ ∀(i:Nat) (x y:Value),captured[i]?=some x->cap'[i]?=some y->VR H.D ι x y:=by
 have h1:=hfr.ev f;rw [hf]at h1
 have h2: ∃fst' cap',a.eval f=.func (.func g) fst' cap'/\(first.size=fst'.size/\ ∀(i:Nat) (x y:Value),first[i]?=some x->fst'[i]?=some y->VR H.D ι x y)/\captured.size=cap'.size/\ ∀(i:Nat) (x y:Value),captured[i]?=some x->cap'[i]?=some y->VR H.D ι x y:=by
  generalize a.eval f=y at h1;cases h1 with
  |flat _ hv=>
   have e0:first.size=0/\captured.size=0:=by simpa [ao,az,aA]using hv
   have e1:first=#[]:=Array.eq_empty_of_size_eq_zero e0.1
   have e2:captured=#[]:=Array.eq_empty_of_size_eq_zero e0.2;subst e1 e2;exact⟨_,_,rfl,⟨rfl,fun i x y hx _=>by simp at hx⟩,rfl,fun i x y hx _=>by simp at hx⟩
  |func _ _ b _ d g1 g2 g3 g4=>exact⟨b,d,rfl,⟨g1,g3⟩,g2,g4⟩
 obtain⟨fst',cap',e,h3,h4⟩:=h2;refine⟨fst',cap',?_,h3,h4⟩;unfold execOp;simp only [ho,resolve,hc,e,Deferred.ofValue,Sem.run_bind,Sem.run_pure,Result.andThen_ok,invoke];exact gW hg _
theorem rj {D:Nat->Prop} {b d:Array Value} (hs:b.size=d.size) (hb: ∀x∈b.toList,ao x=true) (hr: ∀(i:Nat) (x y:Value),b[i]?=some x->d[i]?=some y->VR D ι x y):d=b:=by
 apply Array.ext
 ·exact hs.symm
 ·intro i h3 h4;exact aE (hr i _ _ (Array.getElem?_eq_getElem h4) (Array.getElem?_eq_getElem h3)) (hb _ (by simp))
theorem mu (hfr:bV H.D ι N fr a.tmps) {c:Call} {f:Operand} (ho:o.op=.call c) (hc:c.callee=.value f) {g:FuncId} {first captured:Array Value} (hf:ev fr f=.func (.func g) first captured) {v:Value}
  (hx:yW P g (first.toList++c.args.toList.map (ev fr)++captured.toList) v):(execOp a.eval o).run P w=.ok (.value v) w:=by
 obtain⟨hx1,hx2,hx3⟩:=hx;have h1:=hfr.ev f;rw [hf]at h1
 have h2:a.eval f=.func (.func g) first captured:=by
  generalize a.eval f=y at h1;cases h1 with
  |flat _ hv=>rfl
  |func _ _ b _ d g1 g2 g3 g4=>
   rw [rj g1 (fun x hx=>hx1 x (by simp at hx⊢;exact .inl hx)) g3,rj g2 (fun x hx=>hx1 x (by simp at hx⊢;exact .inr (.inr hx))) g4]
 have h3:c.args.map a.eval=c.args.map (ev fr):=by
  apply Array.ext
  ·simp
  ·intro i h3 h4;simp only [Array.getElem_map];refine aE (hfr.ev _) (hx1 _ (List.mem_append_left _ (List.mem_append_right _ ?_)));refine List.mem_map.2 ⟨c.args[i]'(by simpa using h4),by simp,rfl⟩
 have h4:=hx3 w;unfold execOp;simp only [ho,resolve,hc,h2,Deferred.ofValue,Sem.run_bind,Sem.run_pure,Result.andThen_ok,invoke];rw [show(first++c.args.map a.eval++captured:Array Value)=(first.toList++c.args.toList.map (ev fr)++captured.toList).toArray by rw [h3];apply Array.ext';simp];exact h4
theorem fW {n:Nat->Prop} {xs ys:List Value} {us vs:Array Value} (h1:xs.length=us.size) (h2:ys.length=vs.size) (g1: ∀(i:Nat) (x y:Value),xs[i]?=some x->us[i]?=some y->VR n ι x y) (g2: ∀(i:Nat) (x y:Value),ys[i]?=some x->vs[i]?=some y->VR n ι x y):
  (xs++ys).length=(us++vs).size/\ ∀(i:Nat) (x y:Value),(xs++ys)[i]?=some x->(us++vs)[i]?=some y->VR n ι x y:=by
 refine⟨by simp [h1,h2],fun i x y hx hy=>?_⟩;rw [List.getElem?_append]at hx;rw [Array.getElem?_append]at hy;rw [h1]at hx;split at hx
 ·rw [if_pos ‹_›]at hy;exact g1 i x y hx hy
 ·rw [if_neg ‹_›]at hy;exact g2 _ x y hx hy
theorem Dx (hT:lz P T) (hrel:Rel P H ι w) (hfr:bV H.D ι N fr a.tmps) {c:Call} {f:Operand} (ho:o.op=.call c) (hc:c.callee=.value f) (h:bE P T (ev fr f) (c.args.toList.map (ev fr)) H=some (v,H')):gA P H ι o a w v H':=by
 unfold bE at h;split at h
 ·rename_i g first captured hf
  rcases hT _ _ _ _ _ h with⟨hg,hcall⟩|⟨rfl,hx⟩
  rotate_left
  ·exact ma (mu hfr ho hc hf hx) hrel (.flat _ hx.2.1)
  obtain⟨fst',cap',hr,⟨k0,k3⟩,k1,k2⟩:=mr (w:=w) hfr ho hc hf hg;obtain⟨h1,h2⟩:=fG hfr c.args;obtain⟨m3,m4⟩:=fW (xs:=first.toList) (by rw [Array.length_toList];exact k0) h1 (fun i x y hx hy=>k3 i x y (by simpa using hx) hy) h2;obtain⟨m1,m2⟩:=fW (ys:=captured.toList) m3 (by rw [Array.length_toList];exact k1) m4 (fun i x y hx hy=>k2 i x y (by simpa using hx) hy);intro K Q hK;unfold Oper.wp;rw [hr,Oper.upon_enter];refine(hcall ι w _ hrel m1 m2).mono ?_;rintro e w' ⟨ι',v',rfl,hout,hvr⟩;exact hK ι' v' w' hout hvr
 ·cases h
def eQ:Op->Bool
 |.store _ _ _|.box _ _|.alloc _|.buildSlice _ _ _|.makeSlice _ _ _|.call _=>false
 |_=>true
theorem wz {n:Nat->Prop} {l o k c:Nat} (h:VR n ι (.slice (some ⟨l,o,none⟩) k c) v'):n l:=by
 cases h with
 |flat _ hv=>simp [ao,az,aA]at hv
 |slice _ _ _ _ hl _=>exact hl
 |slice0 _ _ _ hl=>exact hl
theorem wA {t:TypeId} {l off:Nat} (hg: ∀b,H1.get l=some b->H.get l=some b) (h:fA P t l off H1=some v):fA P t l off H=some v:=by
 unfold fA at h⊢;split at h
 ·rename_i b hb;rw [hg b hb];exact h
 ·cases h
theorem wB {s d:TypeId} {x:Value} (hg: ∀l o n c b,x=.slice (some ⟨l,o,none⟩) n c->H1.get l=some b->H.get l=some b) (h:kT P s d x H1=some v):kT P s d x H=some v:=by
 unfold kT at h⊢;generalize P.underlying s=us at h⊢;generalize P.underlying d=ud at h⊢;split at h
 ·split at h
  ·rename_i hu;split at h
   ·rename_i b hb;simp only [hu,hg _ _ _ _ b rfl hb];exact h
   ·cases h
  ·cases h
 ·cases h
theorem og (hrel:Rel P H ι w) (hfr:bV H.D ι N fr a.tmps) (hg: ∀l b,H.D l->H1.get l=some b->H.get l=some b) (h:bS P T o fr H1=some (v,H')) (hk:eQ o.op=true):H'=H1/\fT P H.D ι o a w v:=by
 unfold bS at h;split at h
 ·rename_i x ho;simp only [Option.some.injEq,Prod.mk.injEq]at h;obtain⟨rfl,rfl⟩:=h;exact⟨rfl,(vi hfr (.inl ho)).read⟩
 ·rename_i x ho;simp only [Option.some.injEq,Prod.mk.injEq]at h;obtain⟨rfl,rfl⟩:=h;exact⟨rfl,(vi hfr (.inr ho)).read⟩
 ·rename_i c x y ho;split at h
  ·simp only [Option.some.injEq,Prod.mk.injEq]at h;obtain⟨rfl,rfl⟩:=h;exact⟨rfl,(Ds hfr ho ‹_›).read⟩
  ·cases h
 ·rename_i ho;rw [ho]at hk;cases hk
 ·rename_i ho;rw [ho]at hk;cases hk
 ·rename_i t x ho;split at h
  ·rename_i hx;simp only [Option.map_eq_some_iff,Prod.mk.injEq]at h;obtain⟨u,hu,rfl,rfl⟩:=h;exact⟨rfl,(Dt hrel hfr ho hx (wA (fun b hb=>hg _ b (by have h1:=hfr.ev x;rw [hx]at h1;exact(iC h1).1) hb) hu))⟩
  ·cases h
 ·rename_i ho;rw [ho]at hk;cases hk
 ·rename_i x ho;split at h
  ·rename_i hx;simp only [Option.some.injEq,Prod.mk.injEq]at h;obtain⟨rfl,rfl⟩:=h;exact⟨rfl,(q' hfr ho hx).read⟩
  ·rename_i hx;simp only [Option.some.injEq,Prod.mk.injEq]at h;obtain⟨rfl,rfl⟩:=h;exact⟨rfl,(pd hfr ho hx).read⟩
  ·cases h
 ·rename_i s x f ho;split at h
  ·rename_i hx hu;split at h
   ·rename_i hf;split at h
    ·rename_i hs;split at h
     ·cases h
     ·rename_i hm;simp only [Option.some.injEq,Prod.mk.injEq]at h;obtain⟨rfl,rfl⟩:=h;exact⟨rfl,(pf hfr ho hx hu hf hs hm).read⟩
    ·cases h
   ·cases h
  ·cases h
 ·rename_i t x i ho;split at h
  ·rename_i hx hi hu;split at h
   ·rename_i hs;split at h
    ·rename_i hk;simp only [Option.some.injEq,Prod.mk.injEq]at h;obtain⟨rfl,rfl⟩:=h;exact⟨rfl,(pg hfr ho hx hi hu hs hk).read⟩
    ·cases h
   ·cases h
  ·cases h
 ·rename_i t x lo hi ho;simp only [Option.map_eq_some_iff,Prod.mk.injEq]at h;obtain⟨u,hu,rfl,rfl⟩:=h;exact⟨rfl,(za hfr ho hu).read⟩
 ·rename_i t x f ho;split at h
  ·rename_i hu hx;split at h
   ·rename_i hf;split at h
    ·rename_i ha hs;simp only [Option.some.injEq,Prod.mk.injEq]at h;obtain⟨rfl,rfl⟩:=h;exact⟨rfl,(ra hfr ho hx hu hf (.inl ⟨_,ha,hs,rfl⟩)).read⟩
    ·rename_i ha;simp only [Option.map_eq_some_iff,Prod.mk.injEq]at h;obtain⟨u,hu',rfl,rfl⟩:=h;exact⟨rfl,(ra hfr ho hx hu hf (.inr ⟨ha,hu'⟩)).read⟩
    ·cases h
   ·cases h
  ·cases h
 ·rename_i x i ho;split at h
  ·rename_i hx;simp only [Option.map_eq_some_iff,Prod.mk.injEq]at h;obtain⟨u,hu,rfl,rfl⟩:=h;exact⟨rfl,(tp hfr ho hx hu).read⟩
  ·cases h
 ·rename_i t parts ho;simp only [Option.map_eq_some_iff,Prod.mk.injEq]at h;obtain⟨u,hu,rfl,rfl⟩:=h;exact⟨rfl,(zb hfr ho hu).read⟩
 ·rename_i ho;rw [ho]at hk;cases hk
 ·rename_i ho;rw [ho]at hk;cases hk
 ·rename_i g first captured ho
  simp only [Option.some.injEq,Prod.mk.injEq]at h;obtain⟨rfl,rfl⟩:=h;exact⟨rfl,(re hfr ho).read⟩
 ·rename_i op t x y yt ho;simp only [Option.map_eq_some_iff,Prod.mk.injEq]at h;obtain⟨u,hu,rfl,rfl⟩:=h;exact⟨rfl,(y_ hfr ho hu).read⟩
 ·rename_i op t x ho;split at h
  ·simp only [Option.map_eq_some_iff,Prod.mk.injEq]at h;obtain⟨u,hu,rfl,rfl⟩:=h;exact⟨rfl,(Du hfr ho ‹_› hu).read⟩
  ·cases h
 ·rename_i s d x ho;split at h
  ·simp only [Option.map_eq_some_iff,Prod.mk.injEq]at h;obtain⟨u,hu,rfl,rfl⟩:=h;exact⟨rfl,(tq hfr ho ‹_› hu).read⟩
  ·simp only [Option.map_eq_some_iff,Prod.mk.injEq]at h;obtain⟨u,hu,rfl,rfl⟩:=h;exact⟨rfl,Dv hrel hfr ho (wB (fun l o n c b hx hb=>hg l b (by have h1:=hfr.ev x;rw [hx]at h1;exact wz h1) hb) hu)⟩
 ·rename_i t x i ho;split at h
  ·rename_i hc;rw [Bool.and_eq_true]at hc;simp only [Option.map_eq_some_iff,Prod.mk.injEq]at h;obtain⟨u,hu,rfl,rfl⟩:=h;exact⟨rfl,(y9 hfr ho hc.1 hc.2 hu).read⟩
  ·cases h
 ·rename_i ho;rw [ho]at hk;cases hk
 ·cases h
theorem rk (hrel:Rel P H ι w) (hfr:bV H.D ι N fr a.tmps) (h:bS P T o fr H=some (v,H')) (hk:eQ o.op=true):H'=H/\fT P H.D ι o a w v:=
 og hrel hfr (fun _ _ _ h=>h) h hk
theorem pq (hT:lz P T) (hrel:Rel P H ι w) (hfr:bV H.D ι N fr a.tmps) (h:bS P T o fr H=some (v,H')):gA P H ι o a w v H':=by
 cases hk:eQ o.op
 case true=>
  obtain⟨rfl,hr⟩:=rk hrel hfr h hk;exact hr.opok hrel
 unfold bS at h;split at h<;>try (rename_i ho;rw [ho]at hk;cases hk;done)
 ·rename_i e x ho;split at h
  ·rename_i hc;simp only [Option.some.injEq,Prod.mk.injEq]at h;obtain⟨rfl,rfl⟩:=h;simp only [Bool.and_eq_true,beq_iff_eq]at hc;exact Ir hrel hfr ho hc.1 hc.2
  ·cases h
 ·rename_i e ho;split at h
  ·rename_i z hz;split at h
   ·rename_i hc;simp only [Option.some.injEq,Prod.mk.injEq]at h;obtain⟨rfl,rfl⟩:=h;simp only [Bool.and_eq_true,beq_iff_eq]at hc;exact yZ hrel ho hz hc.1 hc.2
   ·cases h
  ·cases h
 ·rename_i t x y ho;split at h
  ·rename_i hx;simp only [Option.map_eq_some_iff,Prod.mk.injEq]at h;obtain⟨u,hu,rfl,rfl⟩:=h;exact yY hrel hfr ho hx hu
  ·cases h
 ·rename_i t len parts ho;exact nN hrel hfr ho h
 ·rename_i t x y ho;exact Dw hrel hfr ho h
 ·rename_i c ho;split at h
  ·exact Dx hT hrel hfr ho ‹_› h
  ·exact tx hrel hfr ho ‹_› h
  ·cases h
 ·cases h
structure NewAt (P:Program) (D:Nat->Prop) (ι:Ren) (b:LB) (w w':World) (slack:Nat):Prop where
 chg:Change (fun _=>False) w w'
 ex: ∃arr t f,w'.heap[w.heap.size]?=some (.cells arr t f)/\b.cells.length<=arr.size/\(b.rw=true->kc P b.elem t f arr.size/\ ∃s,sz P t=some s/\arr.size=b.cells.length+slack*s/\ ∀n,s≠0->b.cells.length=n*s->n+slack<=maxLen)/\
  ∀(i:Nat) x,b.cells[i]?=some x-> ∃y,arr[i]?=some y/\VR D ι x y
theorem rl (h:Rel P H ι w) {b:LB} {slack l0:Nat} {w':World} (hnew:NewAt P H.D ι b w w' slack)
  {H':LH} (hget: ∀k,H'.get k=if k=l0 then some b else H.get k) (hD: ∀k,H'.D k↔H.D k\/k=l0) (hfr: ¬H.D l0) (hdom: ∀l,H'.n<=l->H'.get l=none) (hhol: ∀l,H'.hole l->l<H'.n/\H'.get l=none) (hn:H.n<=H'.n) (hbase:H'.base=H.base) (hng:H'.ng=H.ng):
  Out P H ι w H' (ι.add l0 ⟨w.heap.size,0,slack⟩) w':=by
 obtain⟨hch,arr,t,f,hw',hsz,hrw,hc⟩:=hnew;have hne0: ∀l,H.D l->l≠l0:=fun l hl e=>hfr (e▸hl);have hsame: ∀l,H.D l->(ι.add l0 ⟨w.heap.size,0,slack⟩) l=ι l:=fun l hl=>by unfold Ren.add;rw [if_neg (hne0 l hl)]
 have hsub: ∀l,H.D l->H'.D l:=fun l hl=>(hD l).2 (.inl hl)
 have hold: ∀l b',H.get l=some b'->(ι l).blk<w.heap.size:=fun l b' hb=>by
  obtain⟨arr',t,f,hw,_⟩:=h.blk l b' hb;exact lt_of_block hw
 have hrwk: ∀k,RW H' (ι.add l0 ⟨w.heap.size,0,slack⟩) k->RW H ι k\/w.heap.size<=k:=by
  rintro k ⟨l,b',hb',hrw',rfl⟩;rw [hget]at hb';split at hb'
  ·rename_i e;subst e;right;simp [Ren.add]
  ·left;rw [hsame l (h.live hb')];exact⟨l,b',hb',hrw',rfl⟩
 have himg: ∀k,lE H' (ι.add l0 ⟨w.heap.size,0,slack⟩) k->lE H ι k\/w.heap.size<=k:=by
  rintro k ⟨l,b',hb',rfl⟩;rw [hget]at hb';split at hb'
  ·rename_i e;subst e;right;simp [Ren.add]
  ·left;rw [hsame l (h.live hb')];exact⟨l,b',hb',rfl⟩
 have hch2:Change (RW H ι) w w':=hch.mono (fun _ _ h=>h.elim);refine⟨⟨hdom,hhol,?_,?_,ed h hch2 hrwk hbase hng⟩,hn,hsub,hsame,hch2,hrwk,himg,hng⟩
 ·intro l b' hb';rw [hget]at hb';split at hb'
  ·rename_i e;subst e;injection hb' with hb';subst hb';have e:(ι.add l ⟨w.heap.size,0,slack⟩) l=⟨w.heap.size,0,slack⟩:=by simp [Ren.add]
   rw [e];refine⟨arr,t,f,hw',by simpa using hsz,fun i x hx=>?_,fun e=>⟨rfl,hrw e⟩⟩;obtain⟨y,hy,hv⟩:=hc i x hx;exact⟨y,by simpa using hy,hv.mono hsub hsame⟩
  ·rw [hsame l (h.live hb')];obtain⟨arr',t,f,hw,h1,h2,h3⟩:=h.blk l b' hb';refine⟨arr',t,f,by rw [hch.block _ (hold l b' hb') (fun e=>e)];exact hw,h1,fun i x hx=>?_,h3⟩;obtain⟨y,hy,hv⟩:=h2 i x hx;exact⟨y,hy,hv.mono hsub hsame⟩
 ·intro l l' b1 b2 h1 h2 hrw1 hne;rw [hget]at h1 h2;split at h1<;>split at h2
  ·omega
  ·rename_i e1 e2;rw [hsame l' (h.live h2),e1];have:=hold l' b2 h2;simp only [Ren.add,if_true];omega
  ·rename_i e1 e2;rw [hsame l (h.live h1),e2];have:=hold l b1 h1;simp only [Ren.add,if_true];omega
  ·rw [hsame l (h.live h1),hsame l' (h.live h2)];exact h.sep l l' b1 b2 h1 h2 hrw1 hne
theorem mw {D:Nat->Prop} {x:Operand} (hx0:VR D ι (ev fr x) (a.eval x)) {s d:TypeId} (ho:o.op=.convert s d x) (hv:bM P s d (ev fr x) H=some (v,H')): ∃b,H'=H.new b/\ ∀w:World,∃w1 slack v',(execOp a.eval o).run P w=.ok (.value v') w1/\NewAt P D ι b w w1 slack/\
  ∀(D':Nat->Prop) (ι':Ren),D' H.n->ι' H.n=⟨w.heap.size,0,slack⟩->VR D' ι' v v':=by
 unfold bM at hv;split at hv
 ·rename_i e bs hs hd hx;split at hv
  ·rename_i he;split at hv
   case isFalse=>cases hv
   rename_i hsz1;simp only [Option.some.injEq,Prod.mk.injEq]at hv;obtain⟨rfl,rfl⟩:=hv;rw [hx]at hx0;have h2:=aE hx0 rfl;refine⟨_,rfl,fun w=>?_⟩;have hcap:=grownCap_ge w bs.size 0 e;refine⟨Lib.bytesWorld w e bs,grownCap w bs.size 0 e-bs.size,.slice (some ⟨w.heap.size,0,none⟩) bs.size (grownCap w bs.size 0 e),?_,⟨?_,Lib.bytesCells w e bs,e,_,Lib.bytesWorld_at_new w e bs,by simp [Lib.bytesCells,Lib.strCells_length],fun hr=>⟨.inr ⟨rfl,hsz1,.inl rfl⟩,1,hsz1,by simp [Lib.bytesCells,Lib.strCells_length],fun n _ hn=>?_⟩,fun i y hy=>?_⟩,fun D' ι' h1 h2=>?_⟩
   ·unfold execOp;simp only [ho,h2,Sem.run_bind,Lib.run_convert_string_bytes w s d e bs hs hd he,Result.andThen_ok,Sem.run_pure]
   ·refine⟨?_,?_,?_,by rw [Lib.bytesWorld_size];omega,fun k hk _=>Lib.bytesWorld_at_old w e bs k hk⟩<;>(unfold Lib.bytesWorld World.freeze;split<;>rfl)
   ·have hl:bs.size<=maxLen:=by simpa using hr
    have:=grownCap_le_maxLen w bs.size 0 e hl;simp only [Lib.strCells_length,Nat.mul_one]at hn;omega
   ·have hi:i<(Lib.strCells bs).length:=(List.getElem?_eq_some_iff.1 hy).1;rw [Lib.strCells_length]at hi;unfold Lib.strCells at hy;rw [List.getElem?_map]at hy;obtain⟨c,hc,rfl⟩:=Option.map_eq_some_iff.1 hy;refine⟨_,?_,.flat _ rfl⟩;unfold Lib.bytesCells;rw [Array.getElem?_append_left (by simpa using hi),Array.getElem?_map,<-Array.getElem?_toList,hc];rfl
   ·have:=VR.slice (n:=D') (ι:=ι') H.n 0 bs.size bs.size h1 (Nat.le_refl _);rw [h2]at this;simp only [Nat.add_zero]at this;rw [show bs.size+(grownCap w bs.size 0 e-bs.size)=grownCap w bs.size 0 e by omega]at this;exact this
  ·cases hv
 ·cases hv
theorem rm (hrel:Rel P H ι w) (hfr:bV H.D ι N fr a.tmps) {s d:TypeId} {x:Operand} (ho:o.op=.convert s d x) (hv:bM P s d (ev fr x) H=some (v,H')):gA P H ι o a w v H':=by
 obtain⟨b,rfl,hw⟩:=mw (hfr.ev x) ho hv;obtain⟨w1,slack,v',hrun,hnew,hvr⟩:=hw w;obtain⟨hdom,hhol,hfr0⟩:=lF hrel (b:=b);exact cZ hrun (rl hrel hnew (fun _=>rfl) (fh hrel) hfr0 hdom hhol (Nat.le_succ _) rfl rfl) (hvr _ _ ((fh hrel H.n).2 (.inr rfl)) (by simp [Ren.add]))
theorem rn {w:World} {g k:Nat} {arr:Array Value} {e:TypeId} (hw:w.heap[g]?=some (.cells arr e (0,0))):(w.freeze ⟨g,k,none⟩ 1).heap[g]?=some (.cells arr e (k,k+1)):=by
 unfold World.freeze;rw [if_neg (by decide)];simp [Array.getElem?_modify,hw]
theorem nP {w:World} {g k:Nat} :Change (fun j=>j=g) w (w.freeze ⟨g,k,none⟩ 1):=by
 unfold World.freeze;rw [if_neg (by decide)];refine⟨rfl,rfl,rfl,by simp,fun j hj hne=>?_⟩;simp only [Array.getElem?_modify];rw [if_neg (fun h=>hne h.symm)]
theorem run_mark {w:World} {g n c:Nat} {arr:Array Value} {s e:TypeId} (hs:P.underlying s=some (.slice e)) (he:P.underlying e=some (.int .u8)) (hw:w.heap[g]?=some (.cells arr e (0,0))):
  (convert s s (.slice (some ⟨g,0,none⟩) n c)).run P w=.ok (.slice (some ⟨g,0,none⟩) n c) (w.freeze ⟨g,arr.size,none⟩ 1):=by
 have hsh:w.shape? g=some (e,arr.size):=by unfold World.shape?;rw [hw]
 simp [convert,run_underlying hs,run_underlying he,markStringish,hsh]
theorem Dy (hrel:Rel P H ι w) (hfr:bV H.D ι N fr a.tmps) {s d:TypeId} {x:Operand} (ho:o.op=.convert s d x) (hv:fB P s d (ev fr x) H=some (v,H')):gA P H ι o a w v H':=by
 have hx0:=hfr.ev x;unfold fB at hv;split at hv
 case h_2=>cases hv
 rename_i e l n c hs hx;split at hv
 case h_2=>cases hv
 rename_i b hb;split at hv
 case h_2=>cases hv
 rename_i he;split at hv
 case isFalse=>cases hv
 rename_i hcond;obtain⟨rfl,hrw,hel,hz,hn⟩:=hcond;simp only [Option.some.injEq,Prod.mk.injEq]at hv;obtain⟨rfl,rfl⟩:=hv;rw [hx]at hx0⊢;obtain⟨arr,t0,f0,hw,h1,h2,h3⟩:=hrel.blk l b hb;obtain⟨g1,g2,s',g4,g5,g6⟩:=h3 hrw;obtain⟨rfl,rfl⟩:=g2.plain (by rw [hel];exact hz);rw [hel]at hw
 have hx1:a.eval x=.slice (some ⟨(ι l).blk,0,none⟩) n (c+(ι l).slack):=by
  generalize a.eval x=y at hx0;cases hx0 with
  |flat _ hf=>simp [ao,az,aA]at hf
  |slice _ _ _ _ _ _=>rw [g1]
  |slice0 _ _ ad _=>omega
 have hvr:VR H.D ι (.slice (some ⟨l,0,none⟩) n c) (.slice (some ⟨(ι l).blk,0,none⟩) n (c+(ι l).slack)):=hx1▸hx0
 have hrun:(execOp a.eval o).run P w=.ok (.value (.slice (some ⟨(ι l).blk,0,none⟩) n (c+(ι l).slack))) (w.freeze ⟨(ι l).blk,arr.size,none⟩ 1):=by
  unfold execOp;simp only [ho,hx1,Sem.run_bind,run_mark hs he hw,Result.andThen_ok,Sem.run_pure]
 refine cZ hrun (qZ (b':=⟨b.cells,MK P e,true⟩) hrel hb hrw rfl rfl (.inr ⟨rfl,hz,.inl rfl⟩) hw rfl (fun i y hy=>?_) (rn hw) nP) hvr;obtain⟨y',q1,q2⟩:=h2 i y hy;rw [g1,Nat.zero_add]at q1;exact⟨y',q1,q2⟩
theorem pr (hT:lz P T) (hrel:Rel P H ι w) (hfr:bV H.D ι N fr a.tmps) (h:fD P T o fr H=some (v,H')):gA P H ι o a w v H':=by
 unfold fD at h;split at h
 ·rename_i s d x ho;split at h
  ·rename_i r hr;injection h with h;subst h;unfold db at hr;split at hr
   ·rename_i r2 hr2;injection hr with hr;subst hr;exact rm hrel hfr ho hr2
   ·exact Dy hrel hfr ho hr
  ·exact pq hT hrel hfr h
 ·exact pq hT hrel hfr h
theorem pw (hT:lz P T) {all:Array Oper} : ∀(os:List Oper) (fr:Fr) (H:LH) (ι:Ren) (a:Act) (w:World),cL P T N all os fr H=some (fr',H')->Rel P H ι w->bV H.D ι N fr a.tmps->
  ∀Q:Exit->Act->World->Prop,(∀ι' a' w',Out P H ι w H' ι' w'->bV H'.D ι' N fr' a'.tmps->a'.defers=a.defers->Q .normal a' w')->wpList P all Q os a w
 | [],fr,H,ι,a,w,h,hrel,hfr,Q,hQ=>by
  simp only [cL,Option.some.injEq,Prod.mk.injEq]at h;obtain⟨rfl,rfl⟩:=h;exact hQ ι a w (Out.refl hrel) hfr rfl
 |o::os,fr,H,ι,a,w,h,hrel,hfr,Q,hQ=>by
  unfold cL at h;unfold wpList;split at h
  ·rename_i hw;rw [if_pos (cT hfr hw)];left;split at h
   ·rename_i v H1 hop;split at h
    ·rename_i fr1 hput;refine pr hT hrel hfr hop _ _ (fun ι' v' w' hout hvr=>?_);refine pw hT os fr1 H1 ι' _ w' h hout.rel ((hfr.mono hout.sub hout.same).put hput hvr) Q (fun ι2 a2 w2 ho2 hf2 hd2=>?_);exact hQ ι2 a2 w2 (hout.trans ho2) hf2 (by rw [hd2,put_defers])
    ·cases h
   ·cases h
  ·rename_i hw;rw [if_neg (by rw [cT hfr hw];simp)];split at h
   ·rename_i fr1 hput;exact pw hT os fr1 H ι _ w h hrel (hfr.undef _ _ hput) Q (fun ι2 a2 w2 ho2 hf2 hd2=>hQ ι2 a2 w2 ho2 hf2 (by rw [hd2,put_defers]))
   ·cases h
  ·cases h
theorem dQ (h:Rel P H ι w) {w':World} (hc:Change (fun _=>False) w w'):Rel P H ι w':=by
 refine⟨h.dom,h.hol,fun l b hb=>?_,h.sep,ed h (hc.mono fun _ _ hf=>hf.elim) (fun _ hk=>.inl hk) rfl rfl⟩;obtain⟨arr,t,f,hw,h1,h2,h3⟩:=h.blk l b hb;exact⟨arr,t,f,by rw [hc.block _ (lt_of_block hw) (fun h=>h)];exact hw,h1,h2,h3⟩
theorem Gx {k:Nat} (h:RW H.ro ι k):False:=by
 obtain⟨l,b,hb,hrw,_⟩:=h;obtain⟨c,hc,rfl⟩:=Option.map_eq_some_iff.1 hb;cases hrw
theorem Is (h:Rel P H ι w):Rel P H.ro ι w:=by
 refine⟨fun l hl=>?_,fun l hl=>⟨(h.hol l hl).1,?_⟩,fun l b hb=>?_,fun l l' b b' h1 h2 h3=>?_,ed h (Change.refl _ _) (fun k hk=>(Gx hk).elim) rfl rfl⟩
 ·show(H.get l).map _=none;rw [h.dom l hl];rfl
 ·show(H.get l).map _=none;rw [(h.hol l hl).2];rfl
 ·obtain⟨c,hc,rfl⟩:=Option.map_eq_some_iff.1 hb;obtain⟨arr,t,f,hw,g1,g2,g3⟩:=h.blk l c hc;exact⟨arr,t,f,hw,g1,g2,fun h=>by cases h⟩
 ·obtain⟨c,hc,rfl⟩:=Option.map_eq_some_iff.1 h1;cases h3
theorem py (hrel:Rel P H ι w) {b:Builtin} {ats:List TypeId} {args:List Value} {args':Array Value} {ty:TypeId} {cs:Array Bool} (hl:args.length=args'.size) (hb:b≠.append)
  (hv: ∀(i:Nat) (x y:Value),args[i]?=some x->args'[i]?=some y->VR H.D ι x y) (h:aI P b ats args H=some (v,H')):
  ∃v',VR H.D ι v v'/\ ∀w:World,(builtin b ats.toArray ty cs args').run P w=.ok (.value v') w:=by
 unfold aI at h;split at h
 ·rename_i t x
  obtain⟨y,rfl⟩: ∃y,args'=#[y]:=by
   obtain⟨l⟩:=args'
   match l,hl with
   | [y],_=>exact⟨y,rfl⟩
  have hxy:=hv 0 x y rfl rfl;split at h
  ·rename_i s hu;simp only [Option.some.injEq,Prod.mk.injEq]at h;obtain⟨rfl,rfl⟩:=h;have:=aE hxy rfl;subst this;exact⟨_,.flat _ rfl,fun w=>by simp [builtin,Builtin.len_,Sem.run_bind,run_underlying hu,goInt]⟩
  ·rename_i b' n c hu;simp only [Option.some.injEq,Prod.mk.injEq]at h;obtain⟨rfl,rfl⟩:=h;obtain⟨b2,c2,rfl,_⟩:=ee hxy;exact⟨_,.flat _ rfl,fun w=>by simp [builtin,Builtin.len_,Sem.run_bind,run_underlying hu,goInt]⟩
  ·cases h
 ·exact absurd rfl hb
 ·rename_i k x k' y;simp only [Option.some.injEq,Prod.mk.injEq]at h;obtain⟨rfl,rfl⟩:=h
  obtain⟨x',y',rfl⟩: ∃x' y',args'=#[x',y']:=by
   obtain⟨l⟩:=args'
   match l,hl with
   | [y,z],_=>exact⟨y,z,rfl⟩
  have e1:=aE (hv 0 _ x' rfl rfl) rfl;have e2:=aE (hv 1 _ y' rfl rfl) rfl;subst e1 e2;exact⟨_,.flat _ rfl,fun w=>by simp [builtin,Builtin.min_,Builtin.min2,Sem.run_bind]⟩
 ·rename_i k x k' y;simp only [Option.some.injEq,Prod.mk.injEq]at h;obtain⟨rfl,rfl⟩:=h
  obtain⟨x',y',rfl⟩: ∃x' y',args'=#[x',y']:=by
   obtain⟨l⟩:=args'
   match l,hl with
   | [y,z],_=>exact⟨y,z,rfl⟩
  have e1:=aE (hv 0 _ x' rfl rfl) rfl;have e2:=aE (hv 1 _ y' rfl rfl) rfl;subst e1 e2;exact⟨_,.flat _ rfl,fun w=>by simp [builtin,Builtin.max_,Builtin.max2,Sem.run_bind]⟩
 ·cases h
theorem mz (hT:lz P T) (hrel:Rel P H ι w) (hfr:bV H.D ι N fr a.tmps) (h:bW P T o fr H=some v):
  ∃v',VR H.D ι v v'/\ ∀w1,Change (fun _=>False) w w1->o.quietAt P a (fun w'=>Change (fun _=>False) w w') w1 v':=by
 have ofRead:fT P H.D ι o a w v-> ∃v',VR H.D ι v v'/\ ∀w1,Change (fun _=>False) w w1->o.quietAt P a (fun w'=>Change (fun _=>False) w w') w1 v':=by
  rintro⟨v',hv,hr⟩;refine⟨v',hv,fun w1 h1=>?_⟩;unfold Oper.quietAt;rw [hr w1 h1];exact⟨rfl,rfl⟩
 unfold bW at h;split at h
 ·cases h
 ·cases h
 ·cases h
 ·cases h
 ·cases h
 ·rename_i c ho;split at h
  ·rename_i f hc;split at h
   ·rename_i u H1 hcal;split at h
    ·rename_i hflat;injection h with h;subst h;unfold bE at hcal;split at hcal
     ·rename_i g first captured hf
      refine⟨u,.flat _ hflat,fun w1 hw1=>?_⟩;rcases hT _ _ _ _ _ hcal with⟨hg,hcall⟩|⟨rfl,hx⟩
      rotate_left
      ·unfold Oper.quietAt;rw [mu hfr ho hc hf hx];exact⟨rfl,rfl⟩
      obtain⟨fst',cap',hr,⟨k0,k3⟩,k1,k2⟩:=mr (w:=w1) hfr ho hc hf hg;obtain⟨h1,h2⟩:=fG hfr c.args;obtain⟨m3,m4⟩:=fW (xs:=first.toList) (by rw [Array.length_toList];exact k0) h1 (fun i x y hx hy=>k3 i x y (by simpa using hx) hy) h2;obtain⟨m1,m2⟩:=fW (ys:=captured.toList) m3 (by rw [Array.length_toList];exact k1) m4 (fun i x y hx hy=>k2 i x y (by simpa using hx) hy);unfold Oper.quietAt;rw [hr];refine⟨rfl,(hcall ι w1 _ (Is (dQ hrel hw1)) m1 m2).mono ?_⟩;rintro e w' ⟨ι',v',rfl,hout,hvr⟩;rw [aE hvr hflat];exact⟨rfl,hw1.trans hout.chg (fun i hi=>(Gx hi).elim)⟩
     ·cases hcal
    ·cases h
   ·cases h
  ·cases h
  ·rename_i b hne hc;obtain⟨⟨u,H1⟩,hu,e⟩:=Option.map_eq_some_iff.1 h;simp only at e;subst e;obtain⟨h1,h2⟩:=fG hfr c.args;obtain⟨v',hv,hr⟩:=py (ty:=o.type) (cs:=c.args.map fun|.const _=>true|_=>false) hrel h1 (fun e=>hne e) h2 hu;refine ofRead ⟨v',hv,fun w' _=>?_⟩;unfold execOp;simp only [ho,resolve,hc,Sem.run_bind,Sem.run_pure,Result.andThen_ok,invoke];exact hr w'
  ·cases h
 ·rename_i h1 h2 h3 h4 h5;obtain⟨⟨u,H1⟩,hu,e⟩:=Option.map_eq_some_iff.1 h;simp only at e;subst e
  have hk:eQ o.op=true:=by
   unfold eQ;split<;>first|rfl|(exfalso;simp_all)
  exact ofRead (rk hrel hfr hu hk).2
end
section
variable {P:Program} {ops:Array Oper} {md:Region.Mode} {Q:Exit->Act->World->Prop}
theorem oh {p q:Nat->Bool} : ∀ {l:List Nat},(∀x∈l,p x=true->q x=true)-> ∀ {y},y∈l->q y=true->p y=false->l.countP p<l.countP q
 | [],_,y,hy,_,_=>by cases hy
 |a::l,h,y,hy,h1,h2=>by
  rw [List.countP_cons,List.countP_cons];have hle:l.countP p<=l.countP q:=List.countP_mono_left (fun x hx=>h x (List.mem_cons_of_mem _ hx));rcases List.mem_cons.1 hy with rfl|hy
  ·simp [h1,h2];omega
  ·have h3:=oh (fun x hx=>h x (List.mem_cons_of_mem _ hx)) hy h1 h2;have h4:=h a (List.mem_cons_self ..);cases hp:p a<;>cases hq:q a<;>simp_all<;>omega
def iD (ops:Array Oper) (listed:Array Bool):Nat:=(List.range ops.size).countP fun i=>!listed.getD i true
theorem bR {listed:Array Bool} {i:Nat} :(listed.setIfInBounds i true).getD i true=true:=by
 rcases Nat.lt_or_ge i listed.size with h|h
 ·simp [h]
 ·simp [Array.getElem?_eq_none h]
theorem fX {listed:Array Bool} {i:Nat} (hi:i<ops.size) (h:listed.getD i true=false):iD ops (listed.setIfInBounds i true)<iD ops listed:=by
 refine oh (fun x _ hx=>?_) (List.mem_range.2 hi) (by rw [h];rfl) (by rw [bR];rfl);by_cases e:i=x
 ·subst e;rw [h];rfl
 ·rw [getD_set_ne true e]at hx;exact hx
theorem bX {listed:Array Bool} {i:Nat} (h:i∈Region.ready md ops listed):i<ops.size/\listed.getD i true=false:=by
 obtain⟨h1,o,ho,_⟩:=mem_ready.1 h;exact⟨(Array.getElem?_eq_some_iff.1 ho).1,h1⟩
theorem kh {Inv:Array Bool->Act->World->Prop} (hstep: ∀listed a w,Inv listed a w-> ∀i∈Region.ready md ops listed,wpOp P ops Q i (Inv (listed.setIfInBounds i true)) a w)
  (hdone: ∀listed a w,Inv listed a w->Region.ready md ops listed= []->Q .normal a w): ∀(fuel:Nat) (listed:Array Bool) (a:Act) (w:World),iD ops listed<=fuel->Inv listed a w->wpAny P md ops Q fuel listed a w
 |0,listed,a,w,hu,h=>by
  have hr:Region.ready md ops listed= []:=by
   rw [List.eq_nil_iff_forall_not_mem];intro i hi;obtain⟨h1,h2⟩:=bX hi;have:=fX h1 h2;omega
  exact⟨hr,hdone _ _ _ h hr⟩
 |fuel+1,listed,a,w,hu,h=>⟨hdone listed a w h,fun i hi=>wpOp_mono (fun a' w' h'=>kh hstep hdone fuel _ a' w' (by
   obtain⟨h1,h2⟩:=bX hi;have:=fX h1 h2;omega) h') (hstep listed a w h i hi)⟩
end
section
variable {P:Program} {T:Callee} {fr fr':Fr} {H H' H1:LH} {o:Oper} {v:Value}
theorem je {d:Nat} {x:Option Operand} (h: ∀y,x=some y->ev fr y=ev fr' y):cD fr d x=cD fr' d x:=by
 cases x with
 |none=>rfl
 |some y=>unfold cD;simp only [h y rfl]
theorem fH (h: ∀x∈o.op.operands,ev fr x=ev fr' x):bS P T o fr H=bS P T o fr' H:=by
 obtain⟨dst,op,ty,pos,after,guard⟩:=o
 have pairs: ∀ps:Array (Nat×Operand),(∀x∈ps.toList.map (·.2),ev fr x=ev fr' x)->ps.toList.map (fun p=>(p.1,ev fr p.2))=ps.toList.map (fun p=>(p.1,ev fr' p.2)):=fun ps hp=>
  List.map_congr_left (fun p hm=>by rw [hp p.2 (List.mem_map.2 ⟨p,hm,rfl⟩)])
 cases op<;>simp only [Op.operands]at h
 case move x=>simp only [bS];rw [h x (by simp)]
 case assign x=>simp only [bS];rw [h x (by simp)]
 case pick c x y=>simp only [bS];rw [h x (by simp),h y (by simp),h c (by simp)]
 case box e x=>simp only [bS];rw [h x (by simp)]
 case load t x=>simp only [bS];rw [h x (by simp)]
 case store t x y=>simp only [bS];rw [h x (by simp),h y (by simp)]
 case nilCheck x=>simp only [bS];rw [h x (by simp)]
 case fieldAddr t x f=>simp only [bS];rw [h x (by simp)]
 case field t x f=>simp only [bS];rw [h x (by simp)]
 case indexAddr t x y=>simp only [bS];rw [h x (by simp),h y (by simp)]
 case index t x y=>simp only [bS];rw [h x (by simp),h y (by simp)]
 case binOp op t x y yt=>simp only [bS];rw [h x (by simp),h y (by simp)]
 case unOp op t x=>simp only [bS];rw [h x (by simp)]
 case convert s d x=>simp only [bS];rw [h x (by simp)]
 case extract x i=>simp only [bS];rw [h x (by simp)]
 case build t ps=>simp only [bS];rw [pairs ps (by simpa using h)]
 case buildSlice t n ps=>simp only [bS];rw [pairs ps (by simpa using h)]
 case makeSlice t x y=>simp only [bS];rw [h x (by simp),h y (by simp)]
 case slice t x lo hi mx=>
  cases mx with
  |some m=>rfl
  |none=>
   simp only [bS];have e1:=h x (by simp);have e2: ∀d,cD fr d lo=cD fr' d lo:=fun d=>je (fun y hy=>h y (by simp [hy]));have e3: ∀d,cD fr d hi=cD fr' d hi:=fun d=>je (fun y hy=>h y (by simp [hy]));unfold ka;simp only [e1,e2,e3]
 case makeFunc f first captured=>
  cases f with
  |func g=>
   simp only [bS];rw [Array.map_congr_left (f:=ev fr) (xs:=captured) (fun x hx=>h x (by simp [hx])),Array.map_congr_left (f:=ev fr) (xs:=first) (fun x hx=>h x (by simp [hx]))]
  |_=>rfl
 case call c=>
  obtain⟨callee,args,ts⟩:=c;have e:args.toList.map (ev fr)=args.toList.map (ev fr'):=List.map_congr_left (fun x hx=>h x (by simp [Call.operands];exact .inr (by simpa using hx)));cases callee with
  |value f=>simp only [bS];rw [e,h f (by simp [Call.operands])]
  |builtin b=>simp only [bS];rw [e]
  |invoke x y=>rfl
 all_goals rfl
theorem eH (h: ∀x∈o.op.operands,ev fr x=ev fr' x):bW P T o fr H=bW P T o fr' H:=by
 have h0:=fH (P:=P) (T:=T) (H:=H) h;obtain⟨dst,op,ty,pos,after,guard⟩:=o;cases op with
 |call c=>
  obtain⟨callee,args,ts⟩:=c;simp only [Op.operands]at h;have e:args.toList.map (ev fr)=args.toList.map (ev fr'):=List.map_congr_left (fun x hx=>h x (by simp [Call.operands];exact .inr (by simpa using hx)));cases callee with
  |value f=>simp only [bW];rw [e,h f (by simp [Call.operands])]
  |builtin b=>cases b<;>simp only [bW]<;>rw [e]
  |invoke x y=>rfl
 |store _ _ _=>rfl
 |box _ _=>rfl
 |alloc _=>rfl
 |buildSlice _ _ _=>rfl
 |makeSlice _ _ _=>rfl
 |_=>simp only [bW];rw [h0]
theorem rp (h:bS P T o fr H=some (v,H')) (hk:eQ o.op=true):bW P T o fr H=some v:=by
 obtain⟨dst,op,ty,pos,after,guard⟩:=o;cases op with
 |call c=>simp [eQ]at hk
 |store _ _ _=>simp [eQ]at hk
 |box _ _=>simp [eQ]at hk
 |alloc _=>simp [eQ]at hk
 |buildSlice _ _ _=>simp [eQ]at hk
 |makeSlice _ _ _=>simp [eQ]at hk
 |_=>simp only [bW];rw [h];rfl
theorem fY {b:Builtin} {ts:List TypeId} {args:List Value} (hb:b≠.append) (h:aI P b ts args H=some (v,H')):H'=H/\aI P b ts args H1=some (v,H1):=by
 unfold aI at h⊢;split at h
 ·split at h
  ·rename_i hu;simp only [Option.some.injEq,Prod.mk.injEq]at h;obtain⟨rfl,rfl⟩:=h;simp only [hu];exact⟨trivial,trivial⟩
  ·rename_i hu;simp only [Option.some.injEq,Prod.mk.injEq]at h;obtain⟨rfl,rfl⟩:=h;simp only [hu];exact⟨trivial,trivial⟩
  ·cases h
 ·exact absurd rfl hb
 ·simp only [Option.some.injEq,Prod.mk.injEq]at h;obtain⟨rfl,rfl⟩:=h;exact⟨rfl,rfl⟩
 ·simp only [Option.some.injEq,Prod.mk.injEq]at h;obtain⟨rfl,rfl⟩:=h;exact⟨rfl,rfl⟩
 ·cases h
end
def pz:Op->Bool
 |.box _ _|.alloc _|.buildSlice _ _ _=>true
 |_=>false
section
variable {P:Program} {T:Callee} {N:Nat} {fr:Fr} {HS H H':LH} {o:Oper} {a:Act} {v:Value} {ι:Ren}
theorem vl {m n:Nat} (h0:m≠0) (h:m=n*m):n+0<=maxLen:=by
 have:n=1:=by
  rcases Nat.eq_zero_or_pos n with h1|h1
  ·subst h1;omega
  ·rcases Nat.lt_or_ge 1 n with h2|h2
   ·have:=Nat.mul_le_mul_right m h2;omega
   ·omega
 subst this;simp [maxLen]
theorem rq (hfr:bV HS.D ι N fr a.tmps) (h:bS P T o fr H=some (v,H')) (hk:pz o.op=true): ∃b arr s,H'=H.new b/\b.rw=true/\sz P b.elem=some s/\arr.size=b.cells.length+0*s/\(∀n,s≠0->b.cells.length=n*s->n+0<=maxLen)/\
  (∀(i:Nat) x,b.cells[i]?=some x-> ∃y,arr[i]?=some y/\VR HS.D ι x y)/\ ∀w:World,∃v',(execOp a.eval o).run P w=.ok (.value v') (w.alloc (.cells arr b.elem))/\ ∀(D':Nat->Prop) (ι':Ren),D' H.n->ι' H.n=⟨w.heap.size,0,0⟩->VR D' ι' v v':=by
 unfold bS at h;split at h<;>try (rename_i ho;rw [ho]at hk;cases hk;done)
 ·rename_i e x ho;split at h
  ·rename_i hc;simp only [Option.some.injEq,Prod.mk.injEq]at h;obtain⟨rfl,rfl⟩:=h;simp only [Bool.and_eq_true,beq_iff_eq]at hc;obtain⟨k1,k2⟩:=gB (hfr.ev x) hc.1;refine⟨_,(a.eval x).cells,_,rfl,rfl,hc.2,by simp [k1],fun n h0 h1=>vl h0 (by simpa using h1),fun i y hy=>?_,fun w=>⟨.pointer (some ⟨w.heap.size,0,none⟩),?_,fun D' ι' h1 h2=>?_⟩⟩
   ·have hy':(ev fr x).cells[i]?=some y:=by simpa using hy
    have hlt:i<(a.eval x).cells.size:=by rw [<-k1];exact(Array.getElem?_eq_some_iff.1 hy').1
    exact⟨_,Array.getElem?_eq_getElem hlt,k2 i _ _ hy' (Array.getElem?_eq_getElem hlt)⟩
   ·unfold execOp;simp only [ho,Instr.box,newVar,newRow,newObj,Sem.run_bind,Sem.run_pure,Result.andThen_ok];rfl
   ·have:=VR.ptr (n:=D') (ι:=ι') H.n 0 h1;simpa [h2]using this
  ·cases h
 ·rename_i e ho;split at h
  ·rename_i z hz;split at h
   ·rename_i hc;simp only [Option.some.injEq,Prod.mk.injEq]at h;obtain⟨rfl,rfl⟩:=h;simp only [Bool.and_eq_true,beq_iff_eq]at hc;refine⟨_,z.cells,_,rfl,rfl,hc.2,by simp,fun n h0 h1=>vl h0 (by simpa using h1),fun i y hy=>?_,fun w=>⟨.pointer (some ⟨w.heap.size,0,none⟩),?_,fun D' ι' h1 h2=>?_⟩⟩
    ·have hy':z.cells[i]?=some y:=by simpa using hy
     exact⟨y,hy',dq hc.1 _ _ (dr hc.1) hy'⟩
    ·unfold execOp;simp only [ho,Instr.alloc,Sem.run_bind,eP hz,newVar,newRow,newObj,Sem.run_pure,Result.andThen_ok];rfl
    ·have:=VR.ptr (n:=D') (ι:=ι') H.n 0 h1;simpa [h2]using this
   ·cases h
  ·cases h
 ·rename_i t len parts ho;unfold aG at h;split at h
  ·rename_i e hu;split at h
   ·rename_i s z hs hz;split at h
    ·rename_i hc;simp only [Bool.and_eq_true,decide_eq_true_eq,beq_iff_eq]at hc;obtain⟨⟨⟨⟨hf,hs0⟩,hlen⟩,hzs⟩,hk⟩:=hc;split at h
     ·rename_i cs hcs;split at h
      ·rename_i hsize;simp only [Option.some.injEq,Prod.mk.injEq]at h;obtain⟨rfl,rfl⟩:=h
       have hz0: ∀(i:Nat) (x y:Value),((Array.range (len*s)).map fun j=>z.cells[j%z.cells.size]!)[i]?=some x->((Array.range (len*s)).map fun j=>z.cells[j%z.cells.size]!)[i]?=some y->VR HS.D ι x y:=by
        intro i x y hx hy;rw [hx]at hy;injection hy with hy;rw [<-hy];rw [Array.getElem?_map]at hx;cases hr:(Array.range (len*s))[i]? with
        |none=>simp [hr]at hx
        |some j=>
         simp only [hr,Option.map_some,Option.some.injEq]at hx;have hm:j%z.cells.size<z.cells.size:=Nat.mod_lt _ (by omega);rw [getElem!_pos z.cells _ hm]at hx;exact dq hf _ _ (dr hf) (i:=j%z.cells.size) (by rw [Array.getElem?_eq_getElem hm,hx])
       obtain⟨ds,hds,hr⟩:=jd (ι:=ι) (n:=HS.D) _ (parts.map fun(i,x)=>(i,a.eval x)).toList _ _ cs (by simp) (kf hfr hk) ⟨rfl,hz0⟩ hcs;refine⟨_,ds,_,rfl,rfl,hs,by simp [hr.1],fun n h0 h1=>?_,fun i x hx=>?_,fun w=>⟨.slice (some ⟨w.heap.size,0,none⟩) len len,?_,fun D' ι' h1 h2=>?_⟩⟩
       ·have h1':len*s=n*s:=by rw [<-hsize];simpa using h1
        have:len=n:=Nat.eq_of_mul_eq_mul_right hs0 h1';have hle:len*1<=len*s:=Nat.mul_le_mul_left _ hs0;simp only [maxLen];omega
       ·have hx':cs[i]?=some x:=by simpa using hx
        have hlt:i<ds.size:=by rw [<-hr.1];exact(Array.getElem?_eq_some_iff.1 hx').1
        exact⟨_,Array.getElem?_eq_getElem hlt,hr.2 i _ _ hx' (Array.getElem?_eq_getElem hlt)⟩
       ·unfold execOp;simp only [ho,Instr.buildSlice,Sem.run_bind,run_underlying hu,Result.andThen_ok,bC hs];rw [if_neg (by omega)];by_cases h0:len*s=0
        ·have:((Array.range (len*s)).map fun j=>z.cells[j%z.cells.size]!)=((Array.range (len*s)).map fun j=>(#[]:Array Value)[j%(#[]:Array Value).size]!):=by rw [h0];simp
         rw [this]at hds;simp only [h0,if_true,Sem.run_bind,Sem.run_pure,Result.andThen_ok]at hds⊢;rw [hds];simp only [newRow,newObj,Sem.run_bind,Result.andThen_ok,Sem.run_pure];rfl
        ·simp only [if_neg h0,Sem.run_bind,eP hz,Sem.run_pure,Result.andThen_ok];rw [hds];simp only [newRow,newObj,Sem.run_bind,Result.andThen_ok,Sem.run_pure];rfl
       ·have:=VR.slice (n:=D') (ι:=ι') H.n 0 len len h1 (Nat.le_refl _);simpa [h2]using this
      ·cases h
     ·cases h
    ·cases h
   ·cases h
  ·cases h
 ·cases h
theorem zd {D:Nat->Prop} {b:LB} {arr:Array Value} {s:Nat} (hrw:b.rw=true) (hs:sz P b.elem=some s) (hsz:arr.size=b.cells.length+0*s) (hm: ∀n,s≠0->b.cells.length=n*s->n+0<=maxLen) (hc: ∀(i:Nat) x,b.cells[i]?=some x-> ∃y,arr[i]?=some y/\VR D ι x y) (w:World):NewAt P D ι b w (w.alloc (.cells arr b.elem)) 0:=
 ⟨(Change.refl _ w).alloc _,arr,b.elem,(0,0),heap_alloc_new w _,by omega,fun _=>⟨.inl ⟨rfl,rfl⟩,s,hs,hsz,hm⟩,hc⟩
def rr (P:Program) (T:Callee) (o:Oper) (fr:Fr) (H:LH) (v:Value) (H':LH):Prop:=
 (pz o.op=true/\bS P T o fr H=some (v,H'))\/(∃t x y,o.op=.makeSlice t x y/\gv P t (ev fr x) (ev fr y) H=some (v,H'))\/ ∃s d x,o.op=.convert s d x/\bM P s d (ev fr x) H=some (v,H')
theorem Dz {D:Nat->Prop} {t:TypeId} {x y:Operand} (ex0:VR D ι (ev fr x) (a.eval x)) (ey0:VR D ι (ev fr y) (a.eval y)) (ho:o.op=.makeSlice t x y) (hv:gv P t (ev fr x) (ev fr y) H=some (v,H')): ∃b,H'=H.new b/\ ∀w:World,∃w1 slack v',(execOp a.eval o).run P w=.ok (.value v') w1/\NewAt P D ι b w w1 slack/\
  ∀(D':Nat->Prop) (ι':Ren),D' H.n->ι' H.n=⟨w.heap.size,0,slack⟩->VR D' ι' v v':=by
 unfold gv at hv;split at hv
 ·rename_i e k1 l k2 c hu hx hy;split at hv
  ·rename_i it hi;split at hv
   ·rename_i z hz;split at hv
    ·rename_i hc;simp only [Bool.and_eq_true,decide_eq_true_eq,beq_iff_eq]at hc;obtain⟨⟨⟨⟨⟨⟨hf,hs0⟩,hl0⟩,hlc⟩,hcs⟩,hby⟩,hzs⟩:=hc;simp only [Option.some.injEq,Prod.mk.injEq]at hv;obtain⟨rfl,rfl⟩:=hv;have hs:sz P e=some it.size:=by unfold sz;rw [hi];rfl
     have hzr:zr P e=some z:=by unfold zr;rw [hi];exact hz
     rw [hx]at ex0;rw [hy]at ey0;have ex:a.eval x=.int k1 l:=aE ex0 rfl;have ey:a.eval y=.int k2 c:=aE ey0 rfl;have hcm:c.toNat<=1048576:=Nat.le_trans (Nat.le_mul_of_pos_right _ hs0) hcs;refine⟨_,rfl,fun w=>⟨_,0,.slice (some ⟨w.heap.size,0,none⟩) l.toNat c.toNat,?_,zd (b:=⟨((Array.range (c.toNat*it.size)).map fun j=>z.cells[j%z.cells.size]!).toList,e,true⟩) (arr:=(Array.range (c.toNat*it.size)).map fun j=>z.cells[j%z.cells.size]!) rfl hs (by simp) (fun n h0 h1=>?_) (fun i x hx=>?_) w,fun D' ι' h1 h2=>?_⟩⟩
     ·unfold execOp;have w1:IntKind.i64.wrap l=l:=IntWalk.i64_in _ ⟨by omega,by omega⟩;have w2:IntKind.i64.wrap c=c:=IntWalk.i64_in _ ⟨by omega,by omega⟩;have hbc:c.toNat*it.bytes<=1048576*1048576:=Nat.mul_le_mul hcm hby
      have hbc':(it.bytes:Int)*c<=2^48:=by
       have e1:(it.bytes:Int)*c=((c.toNat*it.bytes:Nat):Int):=by rw [Int.natCast_mul,Int.toNat_of_nonneg (by omega),Int.mul_comm]
       rw [e1];have:((c.toNat*it.bytes:Nat):Int)<=((1048576*1048576:Nat):Int):=Int.ofNat_le.2 hbc;omega
      have hroom: ¬(c.toNat*it.bytes>roomBytes):=by unfold roomBytes;omega
      have h1: ¬(c<0):=by omega
      have h2: ¬(l<0):=by omega
      have h3: ¬(c<l):=by omega
      have h4: ¬(281474976710656<(it.bytes:Int)*c):=by omega
      by_cases h0:c.toNat*it.size=0
      ·simp [ho,ex,ey,Instr.makeSlice,Sem.run_bind,run_underlying hu,asInt,asIntOf,typeInfo,hi,w1,w2,h1,h2,h3,h4,askRoom,hroom,bC hs,h0,newRow,newObj,show Array.range 0=#[] from rfl];rfl
      ·simp [ho,ex,ey,Instr.makeSlice,Sem.run_bind,run_underlying hu,asInt,asIntOf,typeInfo,hi,w1,w2,h1,h2,h3,h4,askRoom,hroom,bC hs,h0,eP hzr,newRow,newObj];rfl
     ·have h1':c.toNat*it.size=n*it.size:=by simpa using h1
      have:c.toNat=n:=Nat.eq_of_mul_eq_mul_right hs0 h1';simp only [maxLen];omega
     ·have hx':((Array.range (c.toNat*it.size)).map fun j=>z.cells[j%z.cells.size]!)[i]?=some x:=by rw [<-Array.getElem?_toList];exact hx
      refine⟨x,hx',?_⟩;rw [Array.getElem?_map]at hx';cases hr:(Array.range (c.toNat*it.size))[i]? with
      |none=>simp [hr]at hx'
      |some j=>
       simp only [hr,Option.map_some,Option.some.injEq]at hx';have hm:j%z.cells.size<z.cells.size:=Nat.mod_lt _ (by omega);rw [getElem!_pos z.cells _ hm]at hx';exact dq hf _ _ (dr hf) (i:=j%z.cells.size) (by rw [Array.getElem?_eq_getElem hm,hx'])
     ·have:=VR.slice (n:=D') (ι:=ι') H.n 0 l.toNat c.toNat h1 (by omega);simpa [h2]using this
    ·cases hv
   ·cases hv
  ·cases hv
 ·cases hv
theorem ze (hfr:bV HS.D ι N fr a.tmps) (h:rr P T o fr H v H'): ∃b,H'=H.new b/\ ∀w:World,∃w1 slack v',(execOp a.eval o).run P w=.ok (.value v') w1/\NewAt P HS.D ι b w w1 slack/\
  ∀(D':Nat->Prop) (ι':Ren),D' H.n->ι' H.n=⟨w.heap.size,0,slack⟩->VR D' ι' v v':=by
 rcases h with⟨hk,hl⟩|⟨t,x,y,ho,hl⟩|⟨s,d,x,ho,hl⟩
 ·obtain⟨b,arr,s,hH,hrw,hs,hsz,hm,hc,hx⟩:=rq hfr hl hk;refine⟨b,hH,fun w=>?_⟩;obtain⟨v',hrun,hv'⟩:=hx w;exact⟨_,0,v',hrun,zd hrw hs hsz hm hc w,hv'⟩
 ·exact Dz (hfr.ev x) (hfr.ev y) ho hl
 ·exact mw (hfr.ev x) ho hl
theorem ru {fr':Fr} (hc: ∀x∈o.op.operands,ev fr x=ev fr' x) (h:rr P T o fr H v H'):rr P T o fr' H v H':=by
 rcases h with⟨hk,hl⟩|⟨t,x,y,ho,hl⟩|⟨s,d,x,ho,hl⟩
 ·exact .inl ⟨hk,by rw [<-fH hc];exact hl⟩
 ·refine .inr (.inl ⟨t,x,y,ho,?_⟩);rw [<-hc x (by rw [ho];simp [Op.operands]),<-hc y (by rw [ho];simp [Op.operands])];exact hl
 ·refine .inr (.inr ⟨s,d,x,ho,?_⟩);rw [<-hc x (by rw [ho];simp [Op.operands])];exact hl
end
section
variable {P:Program} {L:Loud} {T:Callee} {N:Nat} {ops:Array Oper} {H0 H H':LH} {fr fr':Fr} {o:Oper} {v:Value} {r:Fr×LH}
def pA (P:Program) (T:Callee) (N:Nat) (ops:Array Oper) (H0:LH) (o:Oper) (x y:Fr×LH):Prop:=
 ∃d v b,o.dst=some d/\d<N/\aQ ops x.1 o=some b/\(if b=true then bH P T o x.1 H0 x.2=some (v,y.2)else v=undef/\y.2=x.2)/\y.1=upd x.1 d v
theorem ry: ∀(os:List Oper) (fr:Fr) (H:LH),cQ P L T N ops H0 os fr H=some r-> ∃st:Nat->Fr×LH,st 0=(fr,H)/\(∀i o,i<cE L os->os[i]?=some o->pA P T N ops H0 o (st i) (st (i+1)))/\
  cL P T N ops (os.drop (cE L os)) (st (cE L os)).1 (st (cE L os)).2=some r
 | [],fr,H,h=>⟨fun _=>(fr,H),rfl,(fun i o hi=>by simp [cE]at hi),by simpa [cQ,cL]using h⟩
 |o::os,fr,H,h=>by
  unfold cQ at h;split at h
  ·rename_i hl;exact⟨fun _=>(fr,H),rfl,(fun i o hi=>by simp [cE,hl]at hi),by simpa [cE,hl]using h⟩
  ·rename_i hl;split at h
   ·cases h
   ·rename_i d hd;split at h
    ·rename_i hdN
     have go: ∀(v:Value) (H1:LH) (b:Bool),aQ ops fr o=some b->(if b=true then bH P T o fr H0 H=some (v,H1)else v=undef/\H1=H)->cQ P L T N ops H0 os (upd fr d v) H1=some r-> ∃st:Nat->Fr×LH,st 0=(fr,H)/\(∀i o',i<cE L (o::os)->(o::os)[i]?=some o'->pA P T N ops H0 o' (st i) (st (i+1)))/\
       cL P T N ops ((o::os).drop (cE L (o::os))) (st (cE L (o::os))).1 (st (cE L (o::os))).2=some r:=by
      intro v H1 b hb hv hr;obtain⟨st,h0,hs,hf⟩:=ry os (upd fr d v) H1 hr;have hn:cE L (o::os)=cE L os+1:=by simp [cE,hl]
      refine⟨fun i=>match i with|0=>(fr,H)|i+1=>st i,rfl,fun i o' hi ho=>?_,by rw [hn];exact hf⟩;cases i with
      |zero=>
       simp only [List.getElem?_cons_zero,Option.some.injEq]at ho;subst ho;refine⟨d,v,b,hd,hdN,hb,?_,?_⟩
       ·show(if b=true then bH P T o fr H0 H=some (v,(st 0).2)else v=undef/\(st 0).2=H);rw [h0];exact hv
       ·show(st 0).1=_;rw [h0]
      |succ i=>exact hs i o' (by omega) (by simpa using ho)
     split at h
     ·rename_i hw;split at h
      ·rename_i v H1 hop;exact go v H1 true hw (by rw [if_pos rfl];exact hop) h
      ·cases h
     ·rename_i hw;exact go undef H false hw (by rw [if_neg (by simp)];exact⟨rfl,rfl⟩) h
     ·cases h
    ·cases h
theorem kj (h:bS P T o fr H=some (v,H')) (hk:eQ o.op=true):H'=H:=by
 unfold bS at h;split at h<;>(try (rename_i ho;rw [ho]at hk;cases hk;done))<;>(repeat' split at h)<;>(first|(cases h;done)|(simp only [Option.some.injEq,Prod.mk.injEq]at h;exact h.2.symm)|(simp only [Option.map_eq_some_iff,Prod.mk.injEq]at h;obtain⟨_,_,_,e⟩:=h;exact e.symm))
theorem jf (h:bH P T o fr H0 H=some (v,H')):
  (H'=H/\eQ o.op=true/\bS P T o fr H=some (v,H))\/(H'=H/\(H.n=H0.n\/ ∃c f,o.op=.call c/\c.callee=.value f/\ao (ev fr f)=true/\(c.args.toList.map (ev fr)).all ao=true)/\bW P T o fr H0=some v)\/
  (H'=H/\ ∃c b,o.op=.call c/\c.callee=.builtin b/\b≠.append/\ ∃H1,aI P b c.argTypes.toList (c.args.toList.map (ev fr)) H=some (v,H1))\/
  rr P T o fr H v H':=by
 obtain⟨dst,op,ty,pos,after,guard⟩:=o;cases op with
 |store _ _ _=>simp [bH]at h
 |call c=>
  simp only [bH]at h;cases hc:c.callee with
  |value f=>
   simp only [hc]at h;split at h
   ·rename_i hcond;obtain⟨u,hu,e⟩:=Option.map_eq_some_iff.1 h;simp only [Prod.mk.injEq]at e;obtain⟨rfl,rfl⟩:=e;refine .inr (.inl ⟨rfl,?_,hu⟩);simp only [Bool.or_eq_true,beq_iff_eq,Bool.and_eq_true]at hcond;rcases hcond with h1|h1
    ·exact .inl h1
    ·exact .inr ⟨c,f,rfl,hc,h1.1,h1.2⟩
   ·cases h
  |builtin b=>
   simp only [hc]at h
   have key:b≠.append->(aI P b c.argTypes.toList (c.args.toList.map (ev fr)) H).map (fun r=>(r.1,H))=some (v,H')->(H'=H/\ ∃c' b',Op.call c=.call c'/\c'.callee=.builtin b'/\b'≠.append/\ ∃H1,aI P b' c'.argTypes.toList (c'.args.toList.map (ev fr)) H=some (v,H1)):=by
    intro hb hm;obtain⟨⟨u,H1⟩,hu,e⟩:=Option.map_eq_some_iff.1 hm;simp only [Prod.mk.injEq]at e;obtain⟨rfl,rfl⟩:=e;exact⟨rfl,c,b,rfl,hc,hb,H1,hu⟩
   cases b<;>first|(exact .inr (.inr (.inl (key (by simp) h))))|cases h
  |invoke x y=>simp [hc]at h
 |box _ _=>exact .inr (.inr (.inr (.inl ⟨rfl,h⟩)))
 |alloc _=>exact .inr (.inr (.inr (.inl ⟨rfl,h⟩)))
 |buildSlice _ _ _=>exact .inr (.inr (.inr (.inl ⟨rfl,h⟩)))
 |makeSlice t x y=>exact .inr (.inr (.inr (.inr (.inl ⟨t,x,y,rfl,h⟩))))
 |convert s d x=>
  simp only [bH]at h;cases hb:bM P s d (ev fr x) H with
  |some u=>rw [hb]at h;exact .inr (.inr (.inr (.inr (.inr ⟨s,d,x,rfl,by rw [hb];exact h⟩))))
  |none=>
   rw [hb]at h;have e:=kj h rfl;subst e;exact .inl ⟨rfl,rfl,h⟩
 |_=>
  simp only [bH]at h;have e:=kj h rfl;subst e;exact .inl ⟨rfl,rfl,h⟩
end
structure Sub (H H':LH):Prop where
 n:H.n<=H'.n
 get: ∀l,l<H.n->H'.get l=H.get l
 hole: ∀l,H'.hole l↔H.hole l
 base:H'.base=H.base
 ng:H'.ng=H.ng
 dom:(∀l,H.n<=l->H.get l=none)-> ∀l,H'.n<=l->H'.get l=none
theorem Sub.refl (H:LH):Sub H H:=⟨Nat.le_refl _,fun _ _=>rfl,fun _=>Iff.rfl,rfl,rfl,fun h=>h⟩
theorem Sub.trans {H H1 H2:LH} (h:Sub H H1) (k:Sub H1 H2):Sub H H2:=
 ⟨Nat.le_trans h.n k.n,fun l hl=>(k.get l (Nat.lt_of_lt_of_le hl h.n)).trans (h.get l hl),fun l=>(k.hole l).trans (h.hole l),k.base.trans h.base,k.ng.trans h.ng,fun hd=>k.dom (h.dom hd)⟩
theorem Sub.new (H:LH) (b:LB):Sub H (H.new b):=
 ⟨Nat.le_succ _,fun l hl=>by show(if l=H.n then some b else H.get l)=_;rw [if_neg (by omega)],fun _=>Iff.rfl,rfl,rfl,fun hd l hl=>by
  have:H.n+1<=l:=hl;show(if l=H.n then some b else H.get l)=_;rw [if_neg (by omega)];exact hd l (by omega)⟩
open Classical in
noncomputable def LH.cut (H:LH) (U:Nat->Prop):LH:=⟨H.n,fun l=>if U l then none else H.get l,fun l=>H.hole l\/(U l/\l<H.n),H.base,H.ng⟩
section
variable {P:Program} {H HF:LH} {ι:Ren} {w:World} {U V:Nat->Prop}
theorem oq {l:Nat} :(HF.cut U).D l↔HF.D l/\ ¬U l:=by
 show(l<HF.n/\ ¬(HF.hole l\/(U l/\l<HF.n)))↔(l<HF.n/\ ¬HF.hole l)/\ ¬U l;constructor
 ·rintro⟨h1,h2⟩;exact⟨⟨h1,fun h=>h2 (.inl h)⟩,fun h=>h2 (.inr ⟨h,h1⟩)⟩
 ·rintro⟨⟨h1,h2⟩,h3⟩;exact⟨h1,fun h=>h.elim h2 (fun h=>h3 h.1)⟩
open Classical in
theorem fZ {l:Nat} :(HF.cut U).get l=if U l then none else HF.get l:=rfl
theorem kk (h: ∀l,l<HF.n->(U l↔V l)) (hdom: ∀l,HF.n<=l->HF.get l=none):HF.cut U=HF.cut V:=by
 unfold LH.cut;congr 1
 ·funext l;rcases Nat.lt_or_ge l HF.n with hl|hl
  ·by_cases hv:V l
   ·rw [if_pos ((h l hl).2 hv),if_pos hv]
   ·rw [if_neg (fun hu=>hv ((h l hl).1 hu)),if_neg hv]
  ·rw [hdom l hl];simp
 ·funext l;apply propext;constructor
  ·rintro(h1|⟨h1,h2⟩)
   ·exact .inl h1
   ·exact .inr ⟨(h l h2).1 h1,h2⟩
  ·rintro(h1|⟨h1,h2⟩)
   ·exact .inl h1
   ·exact .inr ⟨(h l h2).2 h1,h2⟩
theorem zf (h: ∀l,¬U l):HF.cut U=HF:=by
 obtain⟨n,get,hole,base,ng⟩:=HF;unfold LH.cut;congr 1
 ·funext l;rw [if_neg (h l)]
 ·funext l;apply propext;exact⟨fun hx=>hx.elim id (fun hx=>absurd hx.1 (h l)),.inl⟩
theorem zg (h:Rel P H ι w) (hs:Sub H HF):Out P H ι w (HF.cut (fun l=>H.n<=l)) ι w:=by
 have hget: ∀l,(HF.cut (fun l=>H.n<=l)).get l=H.get l:=fun l=>by
  rw [fZ];split
  ·exact(h.dom l ‹_›).symm
  ·exact hs.get l (by omega)
 have hD: ∀l,H.D l->(HF.cut (fun l=>H.n<=l)).D l:=fun l hl=>oq.2 ⟨⟨Nat.lt_of_lt_of_le hl.1 hs.n,fun hx=>hl.2 ((hs.hole l).1 hx)⟩,Nat.not_le.2 hl.1⟩
 have hRW: ∀k,RW (HF.cut (fun l=>H.n<=l)) ι k->RW H ι k:=by
  rintro k ⟨l,b,h1,h2,h3⟩;rw [hget]at h1;exact⟨l,b,h1,h2,h3⟩
 refine⟨⟨fun l hl=>?_,fun l hl=>?_,fun l b hb'=>?_,fun l l' b b' h1 h2=>?_,fun g hg'=>?_⟩,hs.n,hD,fun _ _=>rfl,Change.refl _ _,fun k hk=>.inl (hRW k hk),fun k hk=>by
  obtain⟨l,b,h1,h3⟩:=hk;rw [hget]at h1;exact .inl ⟨l,b,h1,h3⟩,hs.ng⟩
 ·rw [hget];exact h.dom l (Nat.le_trans hs.n hl)
 ·rcases hl with hl|⟨hl,hlt⟩
  ·exact⟨Nat.lt_of_lt_of_le (h.hol l ((hs.hole l).1 hl)).1 hs.n,by rw [hget];exact(h.hol l ((hs.hole l).1 hl)).2⟩
  ·exact⟨hlt,by rw [hget];exact h.dom l hl⟩
 ·rw [hget]at hb';obtain⟨arr,t,f,hw,g1,g2,g3⟩:=h.blk l b hb'
  exact⟨arr,t,f,hw,g1,fun i v hv=>by
   obtain⟨v',h1,h2⟩:=g2 i v hv;exact⟨v',h1,h2.mono hD (fun _ _=>rfl)⟩,g3⟩
 ·rw [hget]at h1 h2;exact h.sep l l' b b' h1 h2
 ·have hg2:g<H.ng:=hs.ng▸hg';obtain⟨e1,e2,e3⟩:=h.pin g hg2;exact⟨by show w.heap[g]?=HF.base.heap[g]?;rw [hs.base];exact e1,e2,fun hk=>e3 (hRW g hk)⟩
theorem zh (h:Rel P (HF.cut U) ι w) {k:Nat} {b:LB} {slack:Nat} {w1:World} (hU:U k) (hb:HF.get k=some b) (hk:k<HF.n) (hnh: ¬HF.hole k) (hdom: ∀l,HF.n<=l->HF.get l=none) (hhol: ∀l,HF.hole l->l<HF.n/\HF.get l=none) (hnew:NewAt P (HF.cut U).D ι b w w1 slack):
  Out P (HF.cut U) ι w (HF.cut (fun l=>U l/\l≠k)) (ι.add k ⟨w.heap.size,0,slack⟩) w1:=by
 refine rl h hnew (fun l=>?_) (fun l=>?_) (fun hd=>(oq.1 hd).2 hU) (fun l hl=>?_) (fun l hl=>?_) (Nat.le_refl _) rfl rfl
 ·rw [fZ,fZ];by_cases e:l=k
  ·subst e;simp [hb]
  ·rw [if_neg e];by_cases hu:U l
   ·rw [if_pos ⟨hu,e⟩,if_pos hu]
   ·rw [if_neg (fun x=>hu x.1),if_neg hu]
 ·rw [oq,oq];by_cases e:l=k
  ·subst e;simp [LH.D,hk,hnh]
  ·simp [e]
 ·rw [fZ,hdom l hl];simp
 ·rcases hl with hl|⟨hl,hlt⟩
  ·exact⟨(hhol l hl).1,by rw [fZ,(hhol l hl).2];simp⟩
  ·exact⟨hlt,by rw [fZ,if_pos hl]⟩
end
section
variable {P:Program} {L:Loud} {T:Callee} {N n:Nat} {ops:Array Oper} {H0 H H':LH} {st:Nat->Fr×LH} {fr fr':Fr} {o:Oper} {v:Value}
def aJ (ops:Array Oper) (j:Nat):Option Tmp:=(ops[j]?).bind (·.dst)
open Classical in
noncomputable def lA (ops:Array Oper) (n:Nat) (st:Nat->Fr×LH) (listed:Array Bool):Fr:=fun t=>if∃j,j<n/\listed.getD j true=true/\aJ ops j=some t then(st n).1 t else(st 0).1 t
open Classical in
noncomputable def yu (ops:Array Oper) (n:Nat) (st:Nat->Fr×LH) (H0:LH) (listed:Array Bool):Fr:=fun t=>if∃j,j<n/\listed.getD j true=true/\aJ ops j=some t then(if∃j,j<n/\aJ ops j=some t/\(st (j+1)).2.n=H0.n then(st n).1 t else tg)else(st 0).1 t
def Un (n:Nat) (st:Nat->Fr×LH) (listed:Array Bool) (l:Nat):Prop:= ∃j,j<n/\listed.getD j true=false/\(st j).2.n<=l/\l<(st (j+1)).2.n
structure Tr (P:Program) (T:Callee) (N:Nat) (ops:Array Oper) (n:Nat) (H0:LH) (st:Nat->Fr×LH):Prop where
 sz:n<=ops.size
 h0:(st 0).2=H0
 step: ∀i o,i<n->ops[i]?=some o->pA P T N ops H0 o (st i) (st (i+1))
 inj: ∀i k,i<n->k<n->aJ ops i=aJ ops k->i=k
 dep: ∀i o t k,i<n->ops[i]?=some o->t∈Oper.looksAt ops o->aJ ops k=some t->k<i/\Region.waitsFor .any ops i k=true
theorem tz (h:bS P T o fr H=some (v,H')) (hk:pz o.op=true): ∃b,H'=H.new b:=by
 unfold bS at h;split at h<;>try (rename_i ho;rw [ho]at hk;cases hk;done)
 ·split at h
  ·simp only [Option.some.injEq,Prod.mk.injEq]at h;exact⟨_,h.2.symm⟩
  ·cases h
 ·split at h
  ·split at h
   ·simp only [Option.some.injEq,Prod.mk.injEq]at h;exact⟨_,h.2.symm⟩
   ·cases h
  ·cases h
 ·unfold aG at h;split at h
  ·split at h
   ·split at h
    ·split at h
     ·split at h
      ·simp only [Option.some.injEq,Prod.mk.injEq]at h;exact⟨_,h.2.symm⟩
      ·cases h
     ·cases h
    ·cases h
   ·cases h
  ·cases h
 ·cases h
theorem wC (h:rr P T o fr H v H'): ∃b,H'=H.new b:=by
 rcases h with⟨hk,hl⟩|⟨t,x,y,ho,hl⟩|⟨s,d,x,ho,hl⟩
 ·exact tz hl hk
 ·unfold gv at hl
  (repeat' split at hl)<;>first|(cases hl;done)|(simp only [Option.some.injEq,Prod.mk.injEq]at hl;exact⟨_,hl.2.symm⟩)
 ·unfold bM at hl
  (repeat' split at hl)<;>first|(cases hl;done)|(simp only [Option.some.injEq,Prod.mk.injEq]at hl;exact⟨_,hl.2.symm⟩)
theorem tA (h:bH P T o fr H0 H=some (v,H')):Sub H H':=by
 rcases jf h with⟨rfl,_⟩|⟨rfl,_⟩|⟨rfl,_⟩|h2
 ·exact Sub.refl _
 ·exact Sub.refl _
 ·exact Sub.refl _
 ·obtain⟨b,rfl⟩:=wC h2;exact Sub.new _ _
namespace Tr
theorem op (tr:Tr P T N ops n H0 st) {i:Nat} (hi:i<n): ∃o,ops[i]?=some o/\pA P T N ops H0 o (st i) (st (i+1)):=
 ⟨_,Array.getElem?_eq_getElem (Nat.lt_of_lt_of_le hi tr.sz),tr.step i _ hi (Array.getElem?_eq_getElem (Nat.lt_of_lt_of_le hi tr.sz))⟩
theorem sub1 (tr:Tr P T N ops n H0 st) {i:Nat} (hi:i<n):Sub (st i).2 (st (i+1)).2:=by
 obtain⟨o,ho,d,v,b,_,_,_,h,_⟩:=tr.op hi;split at h
 ·exact tA h
 ·rw [h.2];exact Sub.refl _
theorem sub (tr:Tr P T N ops n H0 st) {i:Nat} : ∀ {j:Nat},i<=j->j<=n->Sub (st i).2 (st j).2:=by
 intro j hij hj;induction j with
 |zero=>
  have:i=0:=by omega
  subst this;exact Sub.refl _
 |succ j ih=>
  by_cases e:i=j+1
  ·subst e;exact Sub.refl _
  ·exact(ih (by omega) (by omega)).trans (tr.sub1 (by omega))
theorem upd (tr:Tr P T N ops n H0 st) {i:Nat} (hi:i<n): ∃d v,aJ ops i=some d/\d<N/\(st (i+1)).1=Lg.upd (st i).1 d v:=by
 obtain⟨o,ho,d,v,b,hd,hN,_,_,h⟩:=tr.op hi;exact⟨d,v,by simp [aJ,ho,hd],hN,h⟩
theorem fdst (tr:Tr P T N ops n H0 st) {j:Nat} {d:Tmp} (hd:aJ ops j=some d): ∀ {i:Nat},j<i->i<=n->(st i).1 d=(st (j+1)).1 d:=by
 intro i hji hi;induction i with
 |zero=>omega
 |succ i ih=>
  by_cases e:j=i
  ·subst e;rfl
  ·obtain⟨d',v,hd',_,h⟩:=tr.upd (i:=i) (by omega);rw [h];have hne:d≠d':=fun hx=>e (tr.inj j i (by omega) (by omega) (by rw [hd,hd',hx]));show(if d=d' then v else(st i).1 d)=_;rw [if_neg hne];exact ih (by omega) (by omega)
theorem fnone (tr:Tr P T N ops n H0 st) {t:Tmp} : ∀ {i:Nat},(∀j,j<i->aJ ops j≠some t)->i<=n->(st i).1 t=(st 0).1 t:=by
 intro i h hi;induction i with
 |zero=>rfl
 |succ i ih=>
  obtain⟨d',v,hd',_,hu⟩:=tr.upd (i:=i) (by omega);rw [hu];have hne:t≠d':=fun hx=>h i (by omega) (by rw [hd',hx]);show(if t=d' then v else(st i).1 t)=_;rw [if_neg hne];exact ih (fun j hj=>h j (by omega)) (by omega)
theorem agree (tr:Tr P T N ops n H0 st) {listed:Array Bool} {i:Nat} {o:Oper} (hi:i<n) (ho:ops[i]?=some o) (hr: ∀k,Region.waitsFor .any ops i k=true->listed.getD k true=true) {t:Tmp} (ht:t∈Oper.looksAt ops o):lA ops n st listed t=(st i).1 t:=by
 unfold lA;by_cases hex: ∃k,aJ ops k=some t
 ·obtain⟨k,hk⟩:=hex;obtain⟨h1,h2⟩:=tr.dep i o t k hi ho ht hk;rw [if_pos ⟨k,by omega,hr k h2,hk⟩,tr.fdst hk (i:=n) (by omega) (Nat.le_refl _),tr.fdst hk (i:=i) h1 (by omega)]
 ·rw [if_neg (fun⟨j,_,_,hj⟩=>hex ⟨j,hj⟩)];exact(tr.fnone (fun j _ hj=>hex ⟨j,hj⟩) (by omega)).symm
theorem agreeL (tr:Tr P T N ops n H0 st) {listed:Array Bool} {i:Nat} {o:Oper} (hi:i<n) (ho:ops[i]?=some o) (hr: ∀k,Region.waitsFor .any ops i k=true->listed.getD k true=true) (hlow:(st i).2.n=H0.n) {t:Tmp} (ht:t∈Oper.looksAt ops o):yu ops n st H0 listed t=(st i).1 t:=by
 unfold yu;by_cases hex: ∃k,aJ ops k=some t
 ·obtain⟨k,hk⟩:=hex;obtain⟨h1,h2⟩:=tr.dep i o t k hi ho ht hk
  have h3:(st (k+1)).2.n=H0.n:=by
   have a1:=(tr.sub (i:=0) (j:=k+1) (by omega) (by omega)).n;have a2:=(tr.sub (i:=k+1) (j:=i) (by omega) (by omega)).n;rw [tr.h0]at a1;omega
  rw [if_pos ⟨k,by omega,hr k h2,hk⟩,if_pos ⟨k,by omega,hk,h3⟩,tr.fdst hk (i:=n) (by omega) (Nat.le_refl _),tr.fdst hk (i:=i) h1 (by omega)]
 ·rw [if_neg (fun⟨j,_,_,hj⟩=>hex ⟨j,hj⟩)];exact(tr.fnone (fun j _ hj=>hex ⟨j,hj⟩) (by omega)).symm
theorem set_iff {listed:Array Bool} {i j:Nat} :(listed.setIfInBounds i true).getD j true=true↔listed.getD j true=true\/i=j:=by
 by_cases e:i=j
 ·subst e;simp [bR]
 ·rw [getD_set_ne true e];simp [e]
theorem frS_set (tr:Tr P T N ops n H0 st) {listed:Array Bool} {i:Nat} {d:Tmp} (hi:i<n) (hd:aJ ops i=some d):lA ops n st (listed.setIfInBounds i true)=Lg.upd (lA ops n st listed) d ((st n).1 d):=by
 funext t;unfold lA Lg.upd;by_cases e:t=d
 ·subst e;rw [if_pos rfl,if_pos ⟨i,hi,set_iff.2 (.inr rfl),hd⟩]
 ·rw [if_neg e]
  have:(∃j,j<n/\(listed.setIfInBounds i true).getD j true=true/\aJ ops j=some t)↔ ∃j,j<n/\listed.getD j true=true/\aJ ops j=some t:=by
   constructor
   ·rintro⟨j,h1,h2,h3⟩;rcases set_iff.1 h2 with h2|h2
    ·exact⟨j,h1,h2,h3⟩
    ·subst h2;rw [hd]at h3;injection h3 with h3;exact absurd h3.symm e
   ·rintro⟨j,h1,h2,h3⟩;exact⟨j,h1,set_iff.2 (.inl h2),h3⟩
  simp only [this]
theorem frL_set (tr:Tr P T N ops n H0 st) {listed:Array Bool} {i:Nat} {d:Tmp} (hi:i<n) (hd:aJ ops i=some d): ∃x,(x=tg\/(x=(st n).1 d/\(st (i+1)).2.n=H0.n))/\yu ops n st H0 (listed.setIfInBounds i true)=Lg.upd (yu ops n st H0 listed) d x:=by
 refine⟨yu ops n st H0 (listed.setIfInBounds i true) d,?_,?_⟩
 ·unfold yu;rw [if_pos ⟨i,hi,set_iff.2 (.inr rfl),hd⟩];split
  ·rename_i h;obtain⟨j,h1,h2,h3⟩:=h;have:j=i:=tr.inj j i h1 hi (by rw [h2,hd]);subst this;exact .inr ⟨rfl,h3⟩
  ·exact .inl rfl
 ·funext t;unfold Lg.upd;by_cases e:t=d
  ·subst e;rw [if_pos rfl]
  ·rw [if_neg e];unfold yu
   have:(∃j,j<n/\(listed.setIfInBounds i true).getD j true=true/\aJ ops j=some t)↔ ∃j,j<n/\listed.getD j true=true/\aJ ops j=some t:=by
    constructor
    ·rintro⟨j,h1,h2,h3⟩;rcases set_iff.1 h2 with h2|h2
     ·exact⟨j,h1,h2,h3⟩
     ·subst h2;rw [hd]at h3;injection h3 with h3;exact absurd h3.symm e
    ·rintro⟨j,h1,h2,h3⟩;exact⟨j,h1,set_iff.2 (.inl h2),h3⟩
   simp only [this]
theorem un_set (tr:Tr P T N ops n H0 st) {listed:Array Bool} {i:Nat} (hi:i<n) (hun:listed.getD i true=false) (l:Nat):Un n st (listed.setIfInBounds i true) l↔Un n st listed l/\ ¬((st i).2.n<=l/\l<(st (i+1)).2.n):=by
 constructor
 ·rintro⟨j,h1,h2,h3,h4⟩;have hne:i≠j:=fun e=>by subst e;rw [bR]at h2;cases h2
  rw [getD_set_ne true hne]at h2;refine⟨⟨j,h1,h2,h3,h4⟩,fun⟨h5,h6⟩=>?_⟩;rcases Nat.lt_or_gt_of_ne hne with h7|h7
  ·have:=(tr.sub (i:=i+1) (j:=j) (by omega) (by omega)).n;omega
  ·have:=(tr.sub (i:=j+1) (j:=i) (by omega) (by omega)).n;omega
 ·rintro⟨⟨j,h1,h2,h3,h4⟩,h5⟩;have hne:i≠j:=fun e=>by subst e;exact h5 ⟨h3,h4⟩
  exact⟨j,h1,by rw [getD_set_ne true hne];exact h2,h3,h4⟩
theorem un_all (tr:Tr P T N ops n H0 st) {listed:Array Bool} (hno: ∀j,j<n->listed.getD j true=false) (l:Nat) (hl:l<(st n).2.n):Un n st listed l↔H0.n<=l:=by
 constructor
 ·rintro⟨j,h1,h2,h3,h4⟩;have:=(tr.sub (i:=0) (j:=j) (by omega) (by omega)).n;rw [tr.h0]at this;omega
 ·intro h
  have key: ∀m,m<=n->l<(st m).2.n-> ∃j,j<m/\(st j).2.n<=l/\l<(st (j+1)).2.n:=by
   intro m;induction m with
   |zero=>intro _ h1;rw [tr.h0]at h1;omega
   |succ m ih=>
    intro hm h1;rcases Nat.lt_or_ge l (st m).2.n with h2|h2
    ·obtain⟨j,a,b,c⟩:=ih (by omega) h2;exact⟨j,by omega,b,c⟩
    ·exact⟨m,by omega,h2,h1⟩
  obtain⟨j,a,b,c⟩:=key n (Nat.le_refl _) hl;exact⟨j,a,hno j a,b,c⟩
end Tr
theorem kW (h: ∀t∈Oper.looksAt ops o,fr t=fr' t):aQ ops fr o=aQ ops fr' o:=by
 unfold aQ;cases hg:o.guard with
 |none=>rfl
 |some g=>
  obtain⟨j,want⟩:=g;simp only;cases hd:(ops[j]?).bind (·.dst)with
  |none=>rfl
  |some d=>
   simp only;rw [h d (by simp [Oper.looksAt,hg,hd])]
theorem eh (h: ∀t∈Oper.looksAt ops o,fr t=fr' t): ∀x∈o.op.operands,ev fr x=ev fr' x:=by
 intro x hx;cases x with
 |tmp t=>
  refine h t ?_;unfold Oper.looksAt;refine List.mem_append_left _ (List.mem_filterMap.2 ⟨.tmp t,by simpa using hx,rfl⟩)
 |_=>rfl
end
section
variable {P:Program} {L:Loud} {T:Callee} {N n:Nat} {ops:Array Oper} {H0 HF:LH} {st:Nat->Fr×LH} {ι0:Ren} {w0:World} {a0:Act} {r:Fr×LH}
structure PA (P:Program) (N:Nat) (ops:Array Oper) (n:Nat) (H0:LH) (st:Nat->Fr×LH) (ι0:Ren) (w0:World) (a0:Act) (listed:Array Bool) (a:Act) (w:World):Prop where
 inv:HeadInv .any ops n listed
 some_: ∃i,i<n/\listed.getD i true=false
 ex: ∃ι,Out P H0 ι0 w0 ((st n).2.cut (Un n st listed)) ι w/\bV ((st n).2.cut (Un n st listed)).D ι N (lA ops n st listed) a.tmps
 low:bV H0.D ι0 N (yu ops n st H0 listed) a.tmps
 chg:Change (fun _=>False) w0 w
 defers:a.defers=a0.defers
structure PB (P:Program) (T:Callee) (N:Nat) (ops:Array Oper) (n:Nat) (H0:LH) (ι0:Ren) (w0:World) (a0:Act) (r:Fr×LH) (t:Nat) (listed:Array Bool) (a:Act) (w:World):Prop where
 le:t<=ops.size
 ge:n<=t
 size:listed.size=ops.size
 lst: ∀j,j<ops.size->listed.getD j true=decide (j<t)
 ex: ∃fr H ι,cL P T N ops (ops.toList.drop t) fr H=some r/\Out P H0 ι0 w0 H ι w/\bV H.D ι N fr a.tmps
 defers:a.defers=a0.defers
theorem jg {listed:Array Bool} {k:Nat} (h:listed.getD k false=true):listed.getD k true=true:=by
 rcases Nat.lt_or_ge k listed.size with h'|h'
 ·simp [h']at h⊢;exact h
 ·simp [Array.getElem?_eq_none h']
theorem jh {listed:Array Bool} {k:Nat} (hk:k<listed.size) (h:listed.getD k true=true):listed.getD k false=true:=by
 simp [hk]at h⊢;exact h
theorem dF {listed:Array Bool} {k:Nat} :listed.getD k true=true\/listed.getD k true=false:=by cases listed.getD k true<;>simp
theorem c_ (hrel:Rel P H0 ι0 w0) {w':World} (hw':Change (fun _=>False) w0 w'):Out P H0 ι0 w0 H0 ι0 w':=
 ⟨dQ hrel hw',Nat.le_refl _,fun _ h=>h,fun _ _=>rfl,hw'.mono (fun _ _ h=>h.elim),fun k hk=>.inl hk,fun k hk=>.inl hk,rfl⟩
theorem wD (tr:Tr P T N ops n H0 st) (hf:cL P T N ops (ops.toList.drop n) (st n).1 (st n).2=some r) {listed:Array Bool} {a:Act} {w:World} (inv:HeadInv .any ops n listed) (hall: ∀i,i<n->listed.getD i true=true)
  (hex: ∃ι,Out P H0 ι0 w0 ((st n).2.cut (Un n st listed)) ι w/\bV ((st n).2.cut (Un n st listed)).D ι N (lA ops n st listed) a.tmps) (hd:a.defers=a0.defers):PB P T N ops n H0 ι0 w0 a0 r n listed a w:=by
 obtain⟨ι,h1,h2⟩:=hex;have e1:(st n).2.cut (Un n st listed)=(st n).2:=zf (fun l ⟨j,hj,hl,_⟩=>by rw [hall j hj]at hl;cases hl)
 have e2:lA ops n st listed=(st n).1:=by
  funext t;unfold lA;split
  ·rfl
  ·rename_i h;exact(tr.fnone (fun j hj hd=>h ⟨j,hj,hall j hj,hd⟩) (Nat.le_refl _)).symm
 rw [e1]at h1 h2;rw [e2]at h2;refine⟨tr.sz,Nat.le_refl _,inv.size,fun j hj=>?_,⟨_,_,ι,hf,h1,h2⟩,hd⟩;rcases Nat.lt_or_ge j n with h|h
 ·rw [hall j h];simp [h]
 ·rw [inv.tail j h hj];simp;omega
theorem pB (tr:Tr P T N ops n H0 st) (hf:cL P T N ops (ops.toList.drop n) (st n).1 (st n).2=some r) {listed:Array Bool} {a:Act} {w w':World} (pa:PA P N ops n H0 st ι0 w0 a0 listed a w) {i:Nat} (hi:i∈Region.ready .any ops listed) (hin:i<n) {d:Tmp} (hd:aJ ops i=some d) (hdN:d<N)
  {ι ι':Ren} {v':Value} (hout0:Out P H0 ι0 w0 ((st n).2.cut (Un n st listed)) ι w) (hfr0:bV ((st n).2.cut (Un n st listed)).D ι N (lA ops n st listed) a.tmps)
  (hout:Out P ((st n).2.cut (Un n st listed)) ι w ((st n).2.cut (Un n st (listed.setIfInBounds i true))) ι' w') (hv:VR ((st n).2.cut (Un n st (listed.setIfInBounds i true))).D ι' ((st n).1 d) v')
  (hlow:(st (i+1)).2.n=H0.n->VR H0.D ι0 ((st n).1 d) v') (hchg:Change (fun _=>False) w w'):
  PA P N ops n H0 st ι0 w0 a0 (listed.setIfInBounds i true) (a.put (some d) v') w'\/ ∃t,PB P T N ops n H0 ι0 w0 a0 r t (listed.setIfInBounds i true) (a.put (some d) v') w':=by
 have inv:=pa.inv.set hi hin;have hout2:=hout0.trans hout
 have hfr2:bV ((st n).2.cut (Un n st (listed.setIfInBounds i true))).D ι' N (lA ops n st (listed.setIfInBounds i true)) (a.put (some d) v').tmps:=by
  rw [tr.frS_set hin hd];exact(hfr0.mono hout.sub hout.same).put (d:=some d) (v:=(st n).1 d) (by simp [bb,hdN]) hv
 have hd2:(a.put (some d) v').defers=a0.defers:=by rw [put_defers];exact pa.defers
 by_cases hex: ∃j,j<n/\(listed.setIfInBounds i true).getD j true=false
 ·left;refine⟨inv,hex,⟨ι',hout2,hfr2⟩,?_,pa.chg.trans hchg (fun _ h=>h.elim),hd2⟩;obtain⟨x,hx,e⟩:=tr.frL_set (listed:=listed) hin hd;rw [e];refine pa.low.put (d:=some d) (v:=x) (by simp [bb,hdN]) ?_;rcases hx with rfl|⟨rfl,hx⟩
  ·exact .any _
  ·exact hlow hx
 ·right
  exact⟨n,wD tr hf inv (fun j hj=>by
   rcases dF (listed:=listed.setIfInBounds i true) (k:=j)with h|h
   ·exact h
   ·exact absurd ⟨j,hj,h⟩ hex) ⟨ι',hout2,hfr2⟩ hd2⟩
theorem DA (hT:lz P T) (hrel:Rel P H0 ι0 w0) (tr:Tr P T N ops n H0 st) (hf:cL P T N ops (ops.toList.drop n) (st n).1 (st n).2=some r) {listed:Array Bool} {a:Act} {w:World} (pa:PA P N ops n H0 st ι0 w0 a0 listed a w) {i:Nat} (hi:i∈Region.ready .any ops listed) (hin:i<n) {Q:Exit->Act->World->Prop} :
  wpOp P ops Q i (fun a' w'=>PA P N ops n H0 st ι0 w0 a0 (listed.setIfInBounds i true) a' w'\/ ∃t,PB P T N ops n H0 ι0 w0 a0 r t (listed.setIfInBounds i true) a' w') a w:=by
 obtain⟨o,ho,d,v,b,hdo,hdN,hw,hv,hst⟩:=tr.op hin;obtain⟨hun,o',ho',hall⟩:=mem_ready.1 hi;have e:o'=o:=Option.some.inj (ho'.symm.trans ho);subst e;have hd:aJ ops i=some d:=by simp [aJ,ho,hdo]
 have hwait: ∀k,Region.waitsFor .any ops i k=true->listed.getD k true=true:=fun k hk=>by
  obtain⟨oj,hoj,e,he,hb,hon⟩:=Region.waitsFor_spec hk;have:oj=o':=Option.some.inj (hoj.symm.trans ho);subst this;rw [<-hon];exact jg (hall e he hb)
 have hag: ∀t∈Oper.looksAt ops o',lA ops n st listed t=(st i).1 t:=fun t ht=>tr.agree hin ho hwait ht
 have hvd:(st n).1 d=v:=by
  rw [tr.fdst hd hin (Nat.le_refl _),hst];show(if d=d then v else _)=v;rw [if_pos rfl]
 obtain⟨ι,hout0,hfr0⟩:=pa.ex;have hw':=cT hfr0 ((kW hag).trans hw);have hsub:=tr.sub (i:=i) (j:=i+1) (by omega) (by omega);have hsubF:=tr.sub (i:=i+1) (j:=n) (by omega) (Nat.le_refl _);have hsub0:=tr.sub (i:=0) (j:=i) (by omega) (by omega);have hdomF: ∀l,(st n).2.n<=l->(st n).2.get l=none:=(tr.sub (i:=0) (j:=n) (by omega) (Nat.le_refl _)).dom (by rw [tr.h0];exact hrel.dom)
 have hcutq:(st (i+1)).2=(st i).2->(st n).2.cut (Un n st (listed.setIfInBounds i true))=(st n).2.cut (Un n st listed):=fun hh=>kk (fun l _=>by
  rw [tr.un_set hin hun l,hh];exact⟨fun h=>h.1,fun h=>⟨h,fun h2=>by omega⟩⟩) hdomF
 have hrel0w:Rel P H0 ι0 w:=dQ hrel pa.chg;unfold wpOp;simp only [ho];cases b with
 |false=>
  rw [if_neg (by simp)]at hv;rw [if_neg (by rw [hw'];simp)];rw [hdo];have hv1:(st n).1 d=undef:=by rw [hvd,hv.1]
  refine pB tr hf pa hi hin hd hdN hout0 hfr0 (ι':=ι) ?_ ?_ (fun _=>?_) (Change.refl _ _)
  ·rw [hcutq hv.2];exact Out.refl hout0.rel
  ·rw [hv1];exact .flat _ rfl
  ·rw [hv1];exact .flat _ rfl
 |true=>
  rw [if_pos rfl]at hv;rw [if_pos hw'];left
  have quiet:(st (i+1)).2=(st i).2->(∃v',VR ((st n).2.cut (Un n st listed)).D ι v v'/\((st (i+1)).2.n=H0.n->VR H0.D ι0 v v')/\ ∀w1,Change (fun _=>False) w w1->o'.quietAt P a (fun w'=>Change (fun _=>False) w w') w1 v')->
    o'.wp P a w (fun a' w'=>PA P N ops n H0 st ι0 w0 a0 (listed.setIfInBounds i true) a' w'\/ ∃t,PB P T N ops n H0 ι0 w0 a0 r t (listed.setIfInBounds i true) a' w') Q:=by
   rintro hh ⟨v',h1,h2,h3⟩;refine Oper.wp_of_quiet (C:=fun w'=>Change (fun _=>False) w w') (K:=fun a'=>a'=a.put o'.dst v') (Change.refl _ _) ?_ ⟨v',h3,rfl⟩;rintro a' w' hw1 rfl;rw [hdo];refine pB tr hf pa hi hin hd hdN hout0 hfr0 (ι':=ι) ?_ ?_ (fun hl=>?_) hw1
   ·rw [hcutq hh];exact c_ hout0.rel hw1
   ·rw [hcutq hh,hvd];exact h1
   ·rw [hvd];exact h2 hl
  have lowcase:(st (i+1)).2=(st i).2->(st i).2.n=H0.n->bW P T o' (yu ops n st H0 listed) H0=some v-> ∃v',VR ((st n).2.cut (Un n st listed)).D ι v v'/\((st (i+1)).2.n=H0.n->VR H0.D ι0 v v')/\ ∀w1,Change (fun _=>False) w w1->o'.quietAt P a (fun w'=>Change (fun _=>False) w w') w1 v':=by
   intro hh hl hq;obtain⟨v',h1,h2⟩:=mz hT hrel0w pa.low hq;exact⟨v',h1.mono hout0.sub hout0.same,fun _=>h1,h2⟩
  have hagL:(st i).2.n=H0.n-> ∀t∈Oper.looksAt ops o',yu ops n st H0 listed t=(st i).1 t:=fun hl t ht=>tr.agreeL hin ho hwait hl ht
  have hlowH:(st i).2.n=H0.n-> ∀l,(st i).2.get l=H0.get l:=fun hl l=>by
   have h00:=tr.h0;rcases Nat.lt_or_ge l H0.n with hx|hx
   ·rw [<-h00];exact hsub0.get l (by rw [h00];exact hx)
   ·rw [hrel.dom l hx];exact hsub0.dom (by rw [h00];exact hrel.dom) l (by omega)
  have hlowE:(st i).2.n=H0.n->(st i).2=H0:=fun hl=>by
   have h1:(st i).2.get=H0.get:=funext (hlowH hl);have h2:(st i).2.hole=H0.hole:=funext (fun l=>propext (by rw [<-tr.h0];exact hsub0.hole l));have h3:=hsub0.base;have h4:=hsub0.ng;rw [tr.h0]at h3 h4;cases hq:(st i).2 with
   |mk a1 a2 a3 a4 a5=>
    rw [hq]at hl h1 h2 h3 h4;cases H0 with
    |mk b1 b2 b3 b4 b5=>
     simp only at hl h1 h2 h3 h4;subst hl h1 h2 h3 h4;rfl
  have hget: ∀l b,((st n).2.cut (Un n st listed)).D l->(st i).2.get l=some b->((st n).2.cut (Un n st listed)).get l=some b:=fun l b hD hb=>by
   have hlt:l<(st i).2.n:=by
    rcases Nat.lt_or_ge l (st i).2.n with h|h
    ·exact h
    ·rw [hsub0.dom (by rw [tr.h0];exact hrel.dom) l h]at hb;cases hb
   rw [fZ,if_neg (oq.1 hD).2,(tr.sub (i:=i) (j:=n) (by omega) (Nat.le_refl _)).get l hlt];exact hb
  rcases jf hv with⟨hh,hk,hl⟩|⟨hh,hc,hq⟩|⟨hh,c,b,hop,hcb,hne,H1,hl⟩|hl
  ·refine quiet hh ?_;by_cases hlow:(st i).2.n=H0.n
   ·refine lowcase hh hlow ?_;rw [eH (eh (hagL hlow))];rw [hlowE hlow]at hl;exact rp hl hk
   ·rw [<-fH (eh hag)]at hl;obtain⟨_,v',h1,h2⟩:=og hout0.rel hfr0 hget hl hk;refine⟨v',h1,fun h3=>absurd (by rw [hh]at h3;exact h3) hlow,fun w1 hw1=>?_⟩;unfold Oper.quietAt;rw [h2 w1 hw1];exact⟨rfl,rfl⟩
  ·refine quiet hh ?_;by_cases hlow:(st i).2.n=H0.n
   ·refine lowcase hh hlow ?_;rw [eH (eh (hagL hlow))];exact hq
   ·rcases hc with hc|⟨c,f,hop,hcf,hf1,hf2⟩
    ·exact absurd hc hlow
    ·have hevS:=eh hag
     have hm:bV H0.D ι0 N (fun t=>if ao (lA ops n st listed t)then lA ops n st listed t else tg) a.tmps:=⟨hfr0.1,fun t=>by
      have ht:=hfr0.2 t;show VR _ _ (if ao (lA ops n st listed t)then lA ops n st listed t else tg) _;split
      ·rename_i hfl;rw [aE ht hfl];exact .flat _ hfl
      ·exact .any _⟩
     have hev: ∀x∈o'.op.operands,ev (fun t=>if ao (lA ops n st listed t)then lA ops n st listed t else tg) x=ev (st i).1 x:=by
      intro x hx
      have hfl:ao (ev (st i).1 x)=true:=by
       rw [hop]at hx;simp only [Op.operands,Call.operands,hcf,Array.mem_append,List.mem_toArray,List.mem_singleton]at hx;rcases hx with rfl|hx
       ·exact hf1
       ·exact List.all_eq_true.1 hf2 _ (List.mem_map.2 ⟨x,by simpa using hx,rfl⟩)
      cases x with
      |tmp t=>
       have e1:lA ops n st listed t=(st i).1 t:=hevS (.tmp t) hx;have hfl':ao ((st i).1 t)=true:=hfl;show(if ao (lA ops n st listed t)then lA ops n st listed t else tg)=(st i).1 t;rw [e1,if_pos hfl']
      |_=>rfl
     rw [<-eH hev]at hq;obtain⟨v',h1,h2⟩:=mz hT hrel0w hm hq;exact⟨v',h1.mono hout0.sub hout0.same,fun _=>h1,h2⟩
  ·refine quiet hh ?_;by_cases hlow:(st i).2.n=H0.n
   ·refine lowcase hh hlow ?_;rw [eH (eh (hagL hlow))];rw [hlowE hlow]at hl;unfold bW;simp only [hop,hcb];rw [hl];rfl
   ·have hevS:=eh hag;have hargs:c.args.toList.map (ev (st i).1)=c.args.toList.map (ev (lA ops n st listed)):=List.map_congr_left (fun x hx=>(hevS x (by rw [hop];simp [Op.operands,Call.operands,hcb];exact(by simpa using hx))).symm);rw [hargs]at hl;obtain⟨_,hl2⟩:=fY (H1:=(st n).2.cut (Un n st listed)) hne hl
    have hq:bW P T o' (lA ops n st listed) ((st n).2.cut (Un n st listed))=some v:=by
     unfold bW;simp only [hop,hcb];rw [hl2];rfl
    obtain⟨v',h1,h2⟩:=mz hT hout0.rel hfr0 hq;exact⟨v',h1,fun h3=>absurd (by rw [hh]at h3;exact h3) hlow,h2⟩
  ·have hl:=ru (fun x hx=>(eh hag x hx).symm) hl;obtain⟨b,hH,hx⟩:=ze hfr0 hl;obtain⟨w1,slack,v',hrun,hnew,hv'⟩:=hx w;have hU:Un n st listed (st i).2.n:=⟨i,hin,hun,Nat.le_refl _,by rw [hH];exact Nat.lt_succ_self _⟩
   have hb:(st n).2.get (st i).2.n=some b:=by
    rw [hsubF.get _ (by rw [hH];exact Nat.lt_succ_self _),hH];show(if(st i).2.n=(st i).2.n then some b else _)=_;rw [if_pos rfl]
   have hkn:(st i).2.n<(st n).2.n:=by
    have:=hsubF.n;rw [hH]at this;exact this
   have hholeF: ∀l,(st n).2.hole l->l<H0.n/\H0.get l=none:=fun l hl=>hrel.hol l (by rw [<-tr.h0];exact((tr.sub (i:=0) (j:=n) (by omega) (Nat.le_refl _)).hole l).1 hl);have h0n:H0.n<=(st i).2.n:=by have:=hsub0.n;rw [tr.h0]at this;exact this
   have hout:=zh hout0.rel hU hb hkn (fun hh=>by have:=(hholeF _ hh).1;omega) hdomF (fun l hl=>by
    obtain⟨a1,a2⟩:=hholeF l hl;refine⟨by omega,?_⟩;rw [(tr.sub (i:=0) (j:=n) (by omega) (Nat.le_refl _)).get l (by rw [tr.h0];exact a1),tr.h0];exact a2) hnew
   have hcut:(st n).2.cut (fun l=>Un n st listed l/\l≠(st i).2.n)=(st n).2.cut (Un n st (listed.setIfInBounds i true)):=kk (fun l _=>by
    rw [tr.un_set hin hun l,hH];show _↔_/\ ¬((st i).2.n<=l/\l<(st i).2.n+1);constructor
    ·rintro⟨h1,h2⟩;exact⟨h1,fun h3=>by omega⟩
    ·rintro⟨h1,h2⟩;exact⟨h1,fun h3=>h2 (by omega)⟩) hdomF
   rw [hcut]at hout;unfold Oper.wp;rw [hrun];simp only [Oper.upon];rw [hdo];refine pB tr hf pa hi hin hd hdN hout0 hfr0 hout ?_ (fun hl=>?_) ?_
   ·rw [hvd];refine hv' _ _ ?_ (by simp [Ren.add]);rw [<-hcut];exact oq.2 ⟨⟨hkn,fun hh=>by have:=(hholeF _ hh).1;omega⟩,fun h=>h.2 rfl⟩
   ·rw [hH]at hl;have:(st i).2.n+1=H0.n:=hl;omega
   ·exact hnew.chg
theorem DB (hT:lz P T) (hB: ∀i,i<ops.size-> ∀o,ops[i]?=some o-> ∀e∈o.after,Region.binds .any e=true->e.on<i) (hch:n<ops.size->Region.chainB .any ops n=true) {t:Nat} {listed:Array Bool} {a:Act} {w:World} (pb:PB P T N ops n H0 ι0 w0 a0 r t listed a w) {i:Nat} (hi:i∈Region.ready .any ops listed) {Q:Exit->Act->World->Prop} :
  wpOp P ops Q i (fun a' w'=>PA P N ops n H0 st ι0 w0 a0 (listed.setIfInBounds i true) a' w'\/ ∃t,PB P T N ops n H0 ι0 w0 a0 r t (listed.setIfInBounds i true) a' w') a w:=by
 obtain⟨hun,o,ho,hall⟩:=mem_ready.1 hi;have hilt:i<ops.size:=(Array.getElem?_eq_some_iff.1 ho).1
 have hit:t<=i:=by
  have:=pb.lst i hilt;rw [hun]at this;rcases Nat.lt_or_ge i t with h|h
  ·simp [h]at this
  ·exact h
 have hie:i=t:=by
  rcases Nat.lt_or_eq_of_le hit with h|h
  ·exfalso;have hc:=hch (by have:=pb.ge;omega);have h1:=List.all_eq_true.1 hc i (List.mem_range.2 hilt);simp only [Bool.or_eq_true,decide_eq_true_eq]at h1;rcases h1 with h1|h1
   ·have:=pb.ge;omega
   ·obtain⟨o',ho',e,he,hb,hon⟩:=Region.waitsFor_spec h1;have:o'=o:=Option.some.inj (ho'.symm.trans ho);subst this;have h2:=jg (hall e he hb);rw [hon,pb.lst (i-1) (by omega)]at h2;simp at h2;omega
  ·exact h.symm
 subst hie;obtain⟨fr,H,ι,hl,hout,hfr⟩:=pb.ex
 have hdrop:ops.toList.drop i=o::ops.toList.drop (i+1):=by
  rw [List.drop_eq_getElem_cons (by simpa using hilt)];congr 1;have:=(Array.getElem?_eq_some_iff.1 ho).2;simpa using this
 rw [hdrop]at hl
 have nxt: ∀ {fr':Fr} {H':LH} {ι':Ren} {a':Act} {w':World},cL P T N ops (ops.toList.drop (i+1)) fr' H'=some r->Out P H0 ι0 w0 H' ι' w'->bV H'.D ι' N fr' a'.tmps->a'.defers=a0.defers->
   PA P N ops n H0 st ι0 w0 a0 (listed.setIfInBounds i true) a' w'\/ ∃t,PB P T N ops n H0 ι0 w0 a0 r t (listed.setIfInBounds i true) a' w':=by
  intro fr' H' ι' a' w' g1 g2 g3 g4;refine .inr ⟨i+1,hilt,by have:=pb.ge;omega,by simp [pb.size],fun j hj=>?_,⟨fr',H',ι',g1,g2,g3⟩,g4⟩;by_cases e:i=j
  ·subst e;rw [bR];simp
  ·rw [getD_set_ne true e,pb.lst j hj];by_cases hji:j<i
   ·simp [hji];omega
   ·simp [hji];omega
 unfold cL at hl;unfold wpOp;simp only [ho];split at hl
 ·rename_i hw;rw [if_pos (cT hfr hw)];left;split at hl
  ·rename_i v H1 hop;split at hl
   ·rename_i fr1 hput;refine pr hT hout.rel hfr hop _ _ (fun ι' v' w' ho2 hvr=>?_);exact nxt hl (hout.trans ho2) ((hfr.mono ho2.sub ho2.same).put hput hvr) (by rw [put_defers];exact pb.defers)
   ·cases hl
  ·cases hl
 ·rename_i hw;rw [if_neg (by rw [cT hfr hw];simp)];split at hl
  ·rename_i fr1 hput;exact nxt hl hout (hfr.undef _ _ hput) (by rw [put_defers];exact pb.defers)
  ·cases hl
 ·cases hl
end
theorem wE {L:Loud} {ops:Array Oper} (h:yR L ops=true):
  (∀i,i<ops.size-> ∀o,ops[i]?=some o-> ∀e∈o.after,Region.binds .any e=true->e.on<i)/\
  (∀i o t k,i<cE L ops.toList->ops[i]?=some o->t∈Oper.looksAt ops o->aJ ops k=some t->k<i/\Region.waitsFor .any ops i k=true)/\
  (∀i k,i<cE L ops.toList->k<cE L ops.toList->aJ ops i=aJ ops k->i=k)/\
  (cE L ops.toList<ops.size->Region.sinkB .any ops (cE L ops.toList)=true/\Region.chainB .any ops (cE L ops.toList)=true):=by
 unfold yR at h;simp only [Bool.and_eq_true]at h;obtain⟨⟨⟨h1,h2⟩,h3⟩,h4⟩:=h;refine⟨fun i hi o ho e he hb=>?_,fun i o t k hi ho ht hk=>?_,fun i k hi hk hd=>?_,fun hn=>?_⟩
 ·have:=List.all_eq_true.1 h1 i (List.mem_range.2 hi);simp only [ho]at this;have:=List.all_eq_true.1 this e (by simpa using he);rw [hb]at this;simpa using this
 ·have:=List.all_eq_true.1 h2 i (List.mem_range.2 hi);simp only [ho]at this;have:=List.all_eq_true.1 this t ht
  have hks:k<ops.size:=by
   unfold aJ at hk;cases hq:ops[k]? with
   |none=>simp [hq]at hk
   |some x=>exact(Array.getElem?_eq_some_iff.1 hq).1
  have:=List.all_eq_true.1 this k (List.mem_range.2 hks);rw [show(ops[k]?).bind (·.dst)=some t from hk]at this;simpa using this
 ·have:=List.all_eq_true.1 h3 i (List.mem_range.2 hi);have:=List.all_eq_true.1 this k (List.mem_range.2 hk);simp only [Bool.or_eq_true,beq_iff_eq,bne_iff_ne]at this;rcases this with h|h
  ·exact h
  ·exact absurd hd h
 ·simp only [Bool.or_eq_true,decide_eq_true_eq,Bool.and_eq_true]at h4;rcases h4 with h4|h4
  ·omega
  ·exact h4
theorem rz (L:Loud): ∀l:List Oper,cE L l<=l.length
 | []=>Nat.le_refl _
 |o::l=>by
  have:=rz L l;unfold cE;split
  ·omega
  ·simp;omega
theorem vm {P:Program} {L:Loud} {T:Callee} {N:Nat} {ops:Array Oper} {H H':LH} {fr fr':Fr} {ι:Ren} {w:World} {a:Act} (hT:lz P T) (hB:yR L ops=true) (h:cQ P L T N ops H ops.toList fr H=some (fr',H')) (hrel:Rel P H ι w) (hfr:bV H.D ι N fr a.tmps) {Q:Exit->Act->World->Prop}
  (hQ: ∀ι' a' w',Out P H ι w H' ι' w'->bV H'.D ι' N fr' a'.tmps->a'.defers=a.defers->Q .normal a' w'):wpAny P .any ops Q ops.size (Array.replicate ops.size false) a { w with drawn:=w.drawn+1 } :=by
 obtain⟨b1,b2,b3,b4⟩:=wE hB;obtain⟨st,h0,hs,hf⟩:=ry ops.toList fr H h;have hnle:cE L ops.toList<=ops.size:=by simpa using rz L ops.toList
 have tr:Tr P T N ops (cE L ops.toList) H st:=⟨hnle,by rw [h0],fun i o hi ho=>hs i o hi (by simpa using ho),fun i k hi hk hd=>b3 i k hi hk hd,b2⟩
 generalize hn:cE L ops.toList=n at*;have hw:Change (fun _=>False) w { w with drawn:=w.drawn+1 } :=⟨rfl,rfl,rfl,Nat.le_refl _,fun _ _ _=>rfl⟩
 have hrel':=dQ hrel hw;have hout0:=c_ hrel hw;have st0:st 0=(fr,H):=h0
 let Inv:Array Bool->Act->World->Prop:=fun listed a' w'=>PA P N ops n H st ι w a listed a' w'\/ ∃t,PB P T N ops n H ι w a (fr',H') t listed a' w'
 refine kh (Inv:=Inv) ?_ ?_ _ _ _ _ ?_ ?_
 ·rintro listed a' w' (pa|⟨t,pb⟩) i hi
  ·have hin:i<n:=by
    rcases Nat.lt_or_ge i n with h1|h1
    ·exact h1
    ·exfalso;have hlt:=(bX hi).1;obtain⟨c1,c2⟩:=b4 (by omega);obtain⟨j,hj,hjl⟩:=pa.some_;exact tail_waits c1 c2 (by omega) pa.inv _ j rfl hj hjl i h1 hi
   exact DA hT hrel tr hf pa hi hin
  ·exact DB hT b1 (fun hlt=>(b4 hlt).2) pb hi
 ·rintro listed a' w' (pa|⟨t,pb⟩) hr
  ·exfalso;obtain⟨j,hj,hjl⟩:=pa.some_
   have key: ∀m,∀j,j<m->j<n->listed.getD j true=false->False:=by
    intro m;induction m with
    |zero=>intro j hj;omega
    |succ m ih=>
     intro j hjm hjn hjl;have hjs:j<ops.size:=by omega
     have:j∈Region.ready .any ops listed:=by
      refine mem_ready.2 ⟨hjl,_,Array.getElem?_eq_getElem hjs,fun e he hb=>?_⟩;have hlt:=b1 j hjs _ (Array.getElem?_eq_getElem hjs) e he hb;rcases dF (listed:=listed) (k:=e.on)with h1|h1
      ·exact jh (by rw [pa.inv.size];omega) h1
      ·exact(ih e.on (by omega) (by omega) h1).elim
     rw [hr]at this;cases this
   exact key (j+1) j (by omega) hj hjl
  ·have ht:t=ops.size:=by
    rcases Nat.lt_or_eq_of_le pb.le with h1|h1
    ·exfalso
     have:t∈Region.ready .any ops listed:=by
      refine mem_ready.2 ⟨by rw [pb.lst t h1];simp,_,Array.getElem?_eq_getElem h1,fun e he hb=>?_⟩;have hlt:=b1 t h1 _ (Array.getElem?_eq_getElem h1) e he hb;refine jh (by rw [pb.size];omega) ?_;rw [pb.lst _ (by omega)];simp [hlt]
     rw [hr]at this;cases this
    ·exact h1
   obtain⟨fr1,H1,ι1,g1,g2,g3⟩:=pb.ex;rw [ht,List.drop_eq_nil_of_le (by simp)]at g1;simp only [cL,Option.some.injEq,Prod.mk.injEq]at g1;obtain⟨rfl,rfl⟩:=g1;exact hQ ι1 a' w' g2 g3 pb.defers
 ·unfold iD;refine Nat.le_trans List.countP_le_length ?_;simp
 ·have hno: ∀j,j<ops.size->(Array.replicate ops.size false).getD j true=false:=fun j hj=>by simp [hj]
  rcases Nat.eq_zero_or_pos n with hz|hz
  ·right;refine⟨0,Nat.zero_le _,by omega,by simp,fun j hj=>by rw [hno j hj];simp,⟨fr,H,ι,?_,hout0,hfr⟩,rfl⟩;have:=hf;rw [hz,st0]at this;exact this
  ·left;have e1:(st n).2.cut (fun l=>H.n<=l)=(st n).2.cut (Un n st (Array.replicate ops.size false)):=kk (fun l hl=>(tr.un_all (fun j hj=>hno j (by omega)) l hl).symm) ((tr.sub (i:=0) (j:=n) (by omega) (Nat.le_refl _)).dom (by rw [st0];exact hrel.dom));have hnone: ∀t,¬ ∃j,j<n/\(Array.replicate ops.size false).getD j true=true/\aJ ops j=some t:=fun t ⟨j,hj,hl,_⟩=>by rw [hno j (by omega)]at hl;cases hl
   have e2:lA ops n st (Array.replicate ops.size false)=fr:=by
    funext t;unfold lA;rw [if_neg (hnone t),st0]
   have e3:yu ops n st H (Array.replicate ops.size false)=fr:=by
    funext t;unfold yu;rw [if_neg (hnone t),st0]
   have hsub:Sub H (st n).2:=by have:=tr.sub (i:=0) (j:=n) (by omega) (Nat.le_refl _);rw [st0]at this;exact this
   have hc:=zg hrel' hsub;refine⟨⟨by simp,(fun j oj hoj hl=>by rw [getD_replicate_false]at hl;cases hl),fun t ht hts=>hno t hts⟩,⟨0,hz,hno 0 (by omega)⟩,⟨ι,?_,?_⟩,by rw [e3];exact hfr,hw,rfl⟩
   ·rw [<-e1];exact hout0.trans hc
   ·rw [<-e1,e2];exact hfr.mono hc.sub hc.same
theorem It {P:Program} {L:Loud} {T:Callee} {N:Nat} {ops:Array Oper} {H H':LH} {fr fr':Fr} {ι:Ren} {w:World} {a:Act} (hT:lz P T) (hm:P.follows .mixedOrders=true) (hB:yR L ops=true) (h:cQ P L T N ops H ops.toList fr H=some (fr',H')) (hrel:Rel P H ι w) (hfr:bV H.D ι N fr a.tmps) (id:Nat) {Q:Exit->Act->World->Prop}
  (hQ: ∀ι' a' w',Out P H ι w H' ι' w'->bV H'.D ι' N fr' a'.tmps->a'.defers=a.defers->Q .normal a' w'):(Code.region id ops true).wp P Q a w:=
 wp_region_any hm (vm hT hB h hrel hfr hQ)
end Go.Lg
