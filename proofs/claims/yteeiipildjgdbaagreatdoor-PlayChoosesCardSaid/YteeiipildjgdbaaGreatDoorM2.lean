/-
  Texts joined, part 2: Lg, LgR, LgS, LgO, LgMap, LgQ, LgNew, LgC, LgMix, LgCh.
-/
import Derived.Test.YteeiipildjgdbaaGreatDoorM1
import Derived.Laws.Tables
import Derived.Laws.CopyRow
import Derived.Deep.Quiet
import Derived.StillTail
import Derived.Lib.ConvBytes
import Derived.Lib.AppendStr
import Derived.MapKept
import Derived.Laws.BytesString
set_option linter.unusedSimpArgs false
set_option linter.unusedVariables false
namespace Go.Lg
structure LB where
 cells:List Value
 elem:TypeId
 rw:Bool
structure LH where
 n:Nat
 get:Nat→Option LB
 hole:Nat→Prop
 base:World
 ng:Nat
def LH.empty (w:World) (g:Nat):LH:=⟨0,fun _=>none,fun _=>False,w,g⟩
def LH.D (H:LH) (l:Nat):Prop:=l<H.n∧ ¬H.hole l
def LH.new (H:LH) (b:LB):LH:=⟨H.n+1,fun l=>if l=H.n then some b else H.get l,H.hole,H.base,H.ng⟩
def LH.set (H:LH) (l:Nat) (b:LB):LH:=⟨H.n,fun k=>if k=l then some b else H.get k,H.hole,H.base,H.ng⟩
def LH.kill (H:LH) (l:Nat):LH:=⟨H.n,fun k=>if k=l then none else H.get k,H.hole,H.base,H.ng⟩
def LH.ro (H:LH):LH:=⟨H.n,fun l=>(H.get l).map fun b=> { b with rw:=false },H.hole,H.base,H.ng⟩
def LH.le (H H':LH):Prop:=H.n≤H'.n∧ ∀l,l<H.n→H'.get l=H.get l
def unk:Value:=.chan (some 0)
def atomB:Value→Bool
 |.bool _|.int _ _|.float _ _|.complex _ _ _|.string _|.nilFunc|.nilIface=>true
 |.pointer none=>true
 |.slice none n c=>n==0&&c==0
 |.map none=>true
 |.func (.func _) first captured=>first.size==0&&captured.size==0
 |_=>false
def flat1B:Value→Bool
 |.agg cs=>cs.toList.all atomB
 |v=>atomB v
def flatB:Value→Bool
 |.tuple vs=>vs.toList.all flat1B
 |v=>flat1B v
def cellB:Value→Bool
 |.agg _|.tuple _|.chan _=>false
 |_=>true
def knownB:Value→Bool
 |.chan _=>false
 |_=>true
abbrev Fr:=Nat→Value
def upd (fr:Fr) (d:Nat) (v:Value):Fr:=fun t=>if t=d then v else fr t
def ev (fr:Fr):Operand→Value
 |.tmp t=>fr t
 |.const v=>if flatB v then v else unk
 |.global _=>unk
 |.func f=>.func (.func f) #[] #[]
def pureVal {α:Type} (P:Program):Sem α→Option α
 |.pure a=>some a
 |.program k=>pureVal P (k P)
 |.mark _ k=>pureVal P k
 |_=>none
def pureFlat (P:Program) (s:Sem Value):Option Value:=
 match pureVal P s with
 |some v=>if flatB v then some v else none
 |none=>none
abbrev Callee:=FuncId→List Value→LH→Option (Value×LH)
def sz (P:Program) (t:TypeId):Option Nat:=(P.info? t).map (·.size)
def zr (P:Program) (t:TypeId):Option Value:=(P.info? t).bind (·.zero)
def byts (P:Program) (t:TypeId):Option Nat:=(P.info? t).map (·.bytes)
def aggD:TypeDesc→Bool
 |.struct _|.array _ _=>true
 |_=>false
def aggB (P:Program) (t:TypeId):Option Bool:=(P.underlying t).map aggD
def lcells (b:LB) (o n:Nat):Option (List Value):=if o+n≤b.cells.length then some ((b.cells.drop o).take n)else none
def lload (P:Program) (t:TypeId) (l o:Nat) (H:LH):Option Value:=
 match H.get l with
 |some b=>
  match aggB P t,sz P t with
  |some true,some s=>(lcells b o s).map fun cs=>.agg cs.toArray
  |some false,_=>b.cells[o]?
  |_,_=>none
 |none=>none
def splice (cs:List Value) (o:Nat) (vs:List Value):List Value:=cs.take o++vs++cs.drop (o+vs.length)
def lstore (P:Program) (t:TypeId) (l o:Nat) (v:Value) (H:LH):Option LH:=
 match H.get l,sz P t with
 |some b,some s=>
  if b.rw&&v.cells.toList.length==s&&v.cells.toList.all cellB&&decide (o+v.cells.toList.length≤b.cells.length)then some (H.set l { b with cells:=splice b.cells o v.cells.toList })
  else none
 |_,_=>none
def lbin (P:Program) (op:BinOp) (t:TypeId) (x y:Value):Option Value:=
 match x,y with
 |.pointer none,.pointer b=>match P.underlying t,op with
  |some (.pointer _),.eql=>some (.bool b.isNone)
  |some (.pointer _),.neq=>some (.bool (!b.isNone))
  |_,_=>none
 |.pointer a,.pointer none=>match P.underlying t,op with
  |some (.pointer _),.eql=>some (.bool a.isNone)
  |some (.pointer _),.neq=>some (.bool (!a.isNone))
  |_,_=>none
 |.slice none _ _,.slice b _ _=>match P.underlying t,op with
  |some (.slice _),.eql=>some (.bool b.isNone)
  |some (.slice _),.neq=>some (.bool (!b.isNone))
  |_,_=>none
 |.slice a _ _,.slice none _ _=>match P.underlying t,op with
  |some (.slice _),.eql=>some (.bool a.isNone)
  |some (.slice _),.neq=>some (.bool (!a.isNone))
  |_,_=>none
 |.func (.func _) _ _,.nilFunc=>match P.underlying t,op with
  |some (.func _ _ _),.eql=>some (.bool false)
  |some (.func _ _ _),.neq=>some (.bool true)
  |_,_=>none
 |.nilIface,_=>none
 |x,y=>if flatB x&&flatB y then pureFlat P (do eqGuard op t (.tmp 0) (.tmp 0) x y;binOp op t x y)else none
def lbound (fr:Fr) (dflt:Nat):Option Operand→Option Nat
 |none=>some dflt
 |some x=>match ev fr x with
  |.int _ i=>if 0≤i then some i.toNat else none
  |_=>none
def lslice (P:Program) (t:TypeId) (x:Value) (fr:Fr) (lo hi:Option Operand):Option Value:=
 match P.underlying t,x with
 |some .string,.string s=>
  match lbound fr 0 lo,lbound fr s.size hi with
  |some a,some b=>if a≤b∧b≤s.size then some (.string (s.extract a b))else none
  |_,_=>none
 |some (.slice e),.slice a n c=>
  match lbound fr 0 lo,lbound fr n hi,sz P e with
  |some i,some j,some s=>if i≤j∧j≤n then
    match a with
    |some ⟨l,o,none⟩=>some (.slice (some ⟨l,o+i*s,none⟩) (j-i) (c-i))
    |none=>some (.slice none 0 0)
    |_=>none
   else none
  |_,_,_=>none
 |_,_=>none
def lbuild (P:Program) (t:TypeId) (parts:List (Nat×Value)):Option Value:=
 if parts.all (fun p=>knownB p.2)&&(zr P t).any flatB then
  match P.underlying t with
  |some (.struct _)=>(P.built t parts).map .agg
  |_=>none
 else none
def lbuildSlice (P:Program) (t:TypeId) (len:Nat) (parts:List (Nat×Value)) (H:LH):Option (Value×LH):=
 match P.underlying t with
 |some (.slice e)=>
  match sz P e,zr P e with
  |some s,some z=>
   if flatB z&&decide (0<s)&&decide (len*s≤65536)&&z.cells.size==s&&parts.all (fun p=>knownB p.2)then
    match Instr.fill (fun j=>some (j*s,s)) ((Array.range (len*s)).map fun j=>z.cells[j%z.cells.size]!) parts with
    |some cs=>if cs.size=len*s then some (.slice (some ⟨H.n,0,none⟩) len len,H.new ⟨cs.toList,e,true⟩)else none
    |none=>none
   else none
  |_,_=>none
 |_=>none
def lmake (P:Program) (t:TypeId) (l c:Value) (H:LH):Option (Value×LH):=
 match P.underlying t,l,c with
 |some (.slice e),.int _ l,.int _ c=>
  match P.info? e with
  |some i=>
   match i.zero with
   |some z=>
    if flatB z&&decide (0<i.size)&&decide (0≤l)&&decide (l≤c)&&decide (c.toNat*i.size≤1048576)&&decide (i.bytes≤1048576)&&z.cells.size==i.size then
     some (.slice (some ⟨H.n,0,none⟩) l.toNat c.toNat,H.new ⟨((Array.range (c.toNat*i.size)).map fun j=>z.cells[j%z.cells.size]!).toList,e,true⟩)
    else none
   |none=>none
  |none=>none
 |_,_,_=>none
def maxElems:Nat:=1048576
def lsrc (s:Nat) (y:Value) (H:LH):Option (Nat×List Value):=
 match y with
 |.slice none 0 0=>some (0,[])
 |.slice (some ⟨l,o,none⟩) m _=>match H.get l with
  |some b=>(lcells b o (m*s)).map fun cs=>(m,cs)
  |none=>none
 |_=>none
def lesz (P:Program) (e:TypeId):Option Nat:=
 match P.info? e with
 |some i=>match i.zero with
  |some z=>if z.cells.size=i.size∧0<i.size∧i.bytes≤1048576 then some i.size else none
  |none=>none
 |none=>none
def lsrcS (P:Program) (u e:TypeId) (s:Nat) (y:Value):Option (Nat×List Value):=
 match P.underlying u,y,zr P e with
 |some .string,.string bs,some (.int .u8 z)=>if s=1∧z=0∧byts P e=some 1 then some (bs.size,Lib.strCells bs)else none
 |_,_,_=>none
def MK (P:Program) (e:TypeId):TypeId:=P.types.size
def lappM (P:Program) (e:TypeId) (s l o n c:Nat) (b:LB) (m:Nat) (new:List Value) (H:LH):Option (Value×LH):=
 if b.rw=true∧b.elem=MK P e∧s=1∧o=0∧b.cells.length=c∧n=c∧0<n∧0<m∧n+m≤maxElems then
  some (.slice (some ⟨H.n,0,none⟩) (n+m) (n+m),(H.kill l).new ⟨b.cells++new,MK P e,true⟩)
 else none
def lappend (P:Program) (t u:TypeId) (x y:Value) (H:LH):Option (Value×LH):=
 match P.underlying t with
 |some (.slice e)=>
  match lesz P e with
  |some s=>
   match (if t=u then lsrc s y H else lsrcS P u e s y)with
   |some (m,new)=>
    if new.all cellB then
     match x with
     |.slice none 0 0=>if m=0 then some (x,H)else if m≤maxElems then some (.slice (some ⟨H.n,0,none⟩) m m,H.new ⟨new,e,true⟩)else none
     |.slice (some ⟨l,o,none⟩) n c=>
      match H.get l with
      |some b=>
       if b.rw=true∧b.elem=e∧o=0∧b.cells.length=c*s∧n≤c then
        if m=0 then some (x,H)
        else if n+m≤c then some (.slice (some ⟨l,0,none⟩) (n+m) c,H.set l { b with cells:=splice b.cells (n*s) new })
        else if n=c∧n+m≤maxElems then some (.slice (some ⟨H.n,0,none⟩) (n+m) (n+m),(H.kill l).new ⟨b.cells++new,e,true⟩)
        else none
       else lappM P e s l o n c b m new H
      |none=>none
     |_=>none
    else none
   |none=>none
  |none=>none
 |_=>none
def keyB:TypeDesc→Value→Bool
 |.int j,.int k _=>k==j
 |.string,.string _=>true
 |_,_=>false
def lmfind (kd:TypeDesc) (k:Value):List Value→Nat→Option (Option (Nat×Value))
 | [],_=>some none
 |k'::v::_::cs,i=>match Instr.sameNow kd k k' with
  |some true=>some (some (i,v))
  |some false=>lmfind kd k cs (i+1)
  |none=>none
 |_,_=>none
def lmat (P:Program) (t:TypeId) (m k:Value) (H:LH):Option (Nat×LB×Option (Nat×Value)):=
 match P.underlying t,m with
 |some (.map kt _),.map (some l)=>match P.underlying kt,H.get l with
  |some kd,some b=>if keyB kd k then(lmfind kd k b.cells 0).map fun r=>(l,b,r)else none
  |_,_=>none
 |_,_=>none
def lmzero (P:Program) (t:TypeId) (k:Value):Option Value:=
 match P.underlying t with
 |some (.map kt et)=>match P.underlying kt,zr P et with
  |some kd,some z=>if keyB kd k&&flatB z then some z else none
  |_,_=>none
 |_=>none
def llookup (P:Program) (t:TypeId) (m k:Value) (ok:Bool) (H:LH):Option Value:=
 match lmat P t m k H with
 |some (_,_,some (_,v))=>some (if ok then .tuple #[v,.bool true]else v)
 |some (_,_,none)=>(lmzero P t k).map fun z=>if ok then .tuple #[z,.bool false]else z
 |none=>match m with
  |.map none=>(lmzero P t k).map fun z=>if ok then .tuple #[z,.bool false]else z
  |_=>none
def lmput (P:Program) (t:TypeId) (m k v:Value) (H:LH):Option LH:=
 match lmat P t m k H with
 |some (l,b,r)=>if b.rw then some (H.set l (match r with
  |some (i,_)=> { b with cells:=b.cells.set (3*i+1) v }
  |none=> { b with cells:=b.cells++ [k,v,.int .i64 b.elem],elem:=b.elem+1 }))else none
 |none=>none
def lmdel (P:Program) (t:TypeId) (m k:Value) (H:LH):Option LH:=
 match lmat P t m k H with
 |some (l,b,some (i,_))=>if b.rw then some (H.set l { b with cells:=b.cells.take (3*i)++b.cells.drop (3*i+3) })else none
 |some (_,_,none)=>some H
 |none=>none
def lclr (P:Program) (t:TypeId) (v:Value) (H:LH):Option LH:=
 match P.underlying t,v with
 |some (.slice e),.slice ad n _=>
  if n=0 then some H else
   match ad,zr P e with
   |some ⟨l,off,none⟩,some z=>
    match H.get l with
    |some b=>
     if b.rw=true∧(Builtin.zeroCells z.cells n).toList.all (fun x=>cellB x&&flatB x)=true∧off+(Builtin.zeroCells z.cells n).toList.length≤b.cells.length then
      some (H.set l { b with cells:=splice b.cells off (Builtin.zeroCells z.cells n).toList })
     else none
    |none=>none
   |_,_=>none
 |some (.map _ _),.map none=>some H
 |some (.map _ _),.map (some l)=>match H.get l with
  |some b=>if b.rw=true then some (H.set l { b with cells:= [] })else none
  |none=>none
 |_,_=>none
def lbuiltin (P:Program) (b:Builtin) (argTypes:List TypeId) (args:List Value) (H:LH):Option (Value×LH):=
 match b,argTypes,args with
 |.len,[t],[x]=>match P.underlying t,x with
  |some .string,.string s=>some (.int .i64 s.size,H)
  |some (.slice _),.slice _ n _=>some (.int .i64 n,H)
  |some (.map _ _),.map none=>some (.int .i64 0,H)
  |some (.map _ _),.map (some l)=>(H.get l).map fun b=>(.int .i64 (b.cells.length/3:Nat),H)
  |_,_=>none
 |.delete,[t,_],[m,k]=>(lmdel P t m k H).map fun H'=>(.tuple #[],H')
 |.clear,[t],[x]=>(lclr P t x H).map fun H'=>(.tuple #[],H')
 |.append,[t,u],[x,y]=>lappend P t u x y H
 |.min,_,[.int k x,.int _ y]=>some (.int k (if y<x then y else x),H)
 |.max,_,[.int k x,.int _ y]=>some (.int k (if x<y then y else x),H)
 |_,_,_=>none
def lcallee (P:Program) (T:Callee) (f:Value) (args:List Value) (H:LH):Option (Value×LH):=
 match f with
 |.func (.func g) first captured=>T g (first.toList++args++captured.toList) H
 |_=>none
def lbyte:Value→Option UInt8
 |.int .u8 n=>some (UInt8.ofNat n.toNat)
 |_=>none
def lbstr (P:Program) (src dst:TypeId) (x:Value) (H:LH):Option Value:=
 match P.underlying src,P.underlying dst,x with
 |some (.slice e),some .string,.slice (some ⟨l,o,none⟩) n _=>
  match P.underlying e with
  |some (.int .u8)=>match H.get l with
   |some b=>match lcells b o n with
    |some cs=>(cs.mapM lbyte).map fun bs=>.string ⟨bs.toArray⟩
    |none=>none
   |none=>none
  |_=>none
 |_,_,_=>none
def lpure (P:Program) (op:Op) (fr:Fr):Option Value:=
 match op with
 |.move x|.assign x=>some (ev fr x)
 |.pick c a b=>match ev fr c with
  |.bool t=>some (if t then ev fr a else ev fr b)
  |_=>none
 |.nilCheck x=>match ev fr x with
  |.pointer (some a)=>some (.pointer (some a))
  |.func (.func g) first captured=>some (.func (.func g) first captured)
  |_=>none
 |.fieldAddr s x f=>match ev fr x,P.underlying s with
  |.pointer (some ⟨l,off,none⟩),some (.struct fs)=>match fs[f]? with
   |some fd=>match sz P fd.type with
    |some s=>if s=0 then none else some (.pointer (some ⟨l,off+fd.offset,none⟩))
    |none=>none
   |none=>none
  |_,_=>none
 |.indexAddr t x i=>match ev fr x,ev fr i,P.underlying t with
  |.slice (some ⟨l,off,none⟩) n _,.int _ k,some (.slice e)=>match sz P e with
   |some s=>if 0≤k∧k<n then some (.pointer (some ⟨l,off+k.toNat*s,none⟩))else none
   |none=>none
  |_,_,_=>none
 |.slice t x lo hi none=>lslice P t (ev fr x) fr lo hi
 |.field t x f=>match P.underlying t,ev fr x with
  |some (.struct fs),.agg cs=>match fs[f]? with
   |some fd=>match aggB P fd.type,sz P fd.type with
    |some true,some s=>some (.agg (cs.extract fd.offset (fd.offset+s)))
    |some false,_=>cs[fd.offset]?
    |_,_=>none
   |none=>none
  |_,_=>none
 |.extract x i=>match ev fr x with
  |.tuple vs=>vs[i]?
  |_=>none
 |.build t parts=>lbuild P t (parts.toList.map fun p=>(p.1,ev fr p.2))
 |.makeFunc (.func g) first captured=>some (.func (.func g) (first.map (ev fr)) (captured.map (ev fr)))
 |.binOp op t x y _=>lbin P op t (ev fr x) (ev fr y)
 |.unOp op _ x=>if flatB (ev fr x)then pureFlat P (Op.unary op (ev fr x))else none
 |.index t x i=>if flatB (ev fr x)&&flatB (ev fr i)then pureFlat P (Instr.index t (ev fr x) (ev fr i))else none
 |_=>none
def lop (P:Program) (T:Callee) (o:Oper) (fr:Fr) (H:LH):Option (Value×LH):=
 match o.op with
 |.box e x=>if knownB (ev fr x)&&sz P e==some (ev fr x).cells.size then some (.pointer (some ⟨H.n,0,none⟩),H.new ⟨(ev fr x).cells.toList,e,true⟩)else none
 |.alloc e=>match zr P e with
  |some z=>if flatB z&&sz P e==some z.cells.size then some (.pointer (some ⟨H.n,0,none⟩),H.new ⟨z.cells.toList,e,true⟩)else none
  |none=>none
 |.load t a=>match ev fr a with
  |.pointer (some ⟨l,off,none⟩)=>(lload P t l off H).map fun v=>(v,H)
  |_=>none
 |.store t a x=>match ev fr a with
  |.pointer (some ⟨l,off,none⟩)=>(lstore P t l off (ev fr x) H).map fun H'=>(undef,H')
  |_=>none
 |.buildSlice t len parts=>lbuildSlice P t len (parts.toList.map fun p=>(p.1,ev fr p.2)) H
 |.makeSlice t l c=>lmake P t (ev fr l) (ev fr c) H
 |.makeMap _ none=>some (.map (some H.n),H.new ⟨[],0,true⟩)
 |.lookup t m k ok=>(llookup P t (ev fr m) (ev fr k) ok H).map fun v=>(v,H)
 |.mapUpdate t m k v=>(lmput P t (ev fr m) (ev fr k) (ev fr v) H).map fun H'=>(undef,H')
 |.convert src dst x=>if flatB (ev fr x)then(pureFlat P (convert src dst (ev fr x))).map fun v=>(v,H)else(lbstr P src dst (ev fr x) H).map fun v=>(v,H)
 |.call c=>match c.callee with
  |.value f=>lcallee P T (ev fr f) (c.args.toList.map (ev fr)) H
  |.builtin b=>lbuiltin P b c.argTypes.toList (c.args.toList.map (ev fr)) H
  |.invoke _ _=>none
 |op=>(lpure P op fr).map fun v=>(v,H)
def lwant (ops:Array Oper) (fr:Fr) (o:Oper):Option Bool:=
 match o.guard with
 |none=>some true
 |some (j,want)=>match (ops[j]?).bind (·.dst)with
  |none=>some false
  |some d=>match fr d with
   |.bool b=>some (b==want)
   |v=>if flatB v then some false else none
def lput (N:Nat) (fr:Fr) (d:Option Tmp) (v:Value):Option Fr:=
 match d with
 |some d=>if d<N then some (upd fr d v)else none
 |none=>some fr
def lbytes (P:Program) (s d:TypeId) (x:Value) (H:LH):Option (Value×LH):=
 match P.underlying s,P.underlying d,x with
 |some .string,some (.slice e),.string bs=>match P.underlying e with
  |some (.int .u8)=>if sz P e=some 1 then some (.slice (some ⟨H.n,0,none⟩) bs.size bs.size,H.new ⟨Lib.strCells bs,MK P e,decide (bs.size≤maxLen)⟩)else none
  |_=>none
 |_,_,_=>none
def lmark (P:Program) (s d:TypeId) (x:Value) (H:LH):Option (Value×LH):=
 match P.underlying s,x with
 |some (.slice e),.slice (some ⟨l,0,none⟩) n c=>match H.get l with
  |some b=>match P.underlying e with
   |some (.int .u8)=>if s=d∧b.rw=true∧b.elem=e∧sz P e=some 1∧0<n then some (x,H.set l ⟨b.cells,MK P e,true⟩)else none
   |_=>none
  |none=>none
 |_,_=>none
def lbytesM (P:Program) (s d:TypeId) (x:Value) (H:LH):Option (Value×LH):=match lbytes P s d x H with
 |some r=>some r
 |none=>lmark P s d x H
def lopB (P:Program) (T:Callee) (o:Oper) (fr:Fr) (H:LH):Option (Value×LH):=
 match o.op with
 |.convert s d x=>match lbytesM P s d (ev fr x) H with
  |some r=>some r
  |none=>lop P T o fr H
 |_=>lop P T o fr H
structure Loud where
 ch:Nat→Nat→Nat→List (Nat×Nat)
 cv:TypeId→TypeId→Bool:=fun _ _=>false
 pm:Nat→Nat→Nat→List Nat:=fun _ _ _=> []
class Cvt where
 cv:TypeId→TypeId→Bool
def cvB [Cvt]:Op→Bool
 |.convert s d _=>Cvt.cv s d
 |_=>false
def heapB [Cvt]:Op→Bool
 |.convert s d _=>Cvt.cv s d
 |.store _ _ _|.box _ _|.alloc _|.buildSlice _ _ _|.makeSlice _ _ _|.makeMap _ _|.mapUpdate _ _ _ _=>true
 |.call c=>match c.callee with
  |.builtin .append|.builtin .delete|.builtin .clear=>true
  |.builtin _=>false
  |_=>true
 |_=>false
def rdB [Cvt]:Op→Bool
 |.load _ _|.lookup _ _ _ _=>true
 |.call c=>match c.callee with
  |.builtin .len=>true
  |_=>false
 |.convert s d _=>!Cvt.cv s d
 |_=>false
def maskOf (acc:List Nat):List Edge→Nat
 | []=>0
 |e::es=>if Region.binds .any e&&decide (e.on<acc.length)then(2^e.on|||acc.getD e.on 0)|||maskOf acc es else maskOf acc es
def masks:List Oper→List Nat→List Nat
 | [],acc=>acc
 |o::os,acc=>masks os (acc++ [maskOf acc o.after.toList])
def mbit (ms:List Nat) (i k:Nat):Bool:=(ms.getD i 0).testBit k
def newB [Cvt]:Op→Bool
 |.convert s d _=>Cvt.cv s d
 |.box _ _|.alloc _|.buildSlice _ _ _|.makeSlice _ _ _|.makeMap _ none=>true
 |_=>false
def mixC [Cvt] (ops:Array Oper) (prs:List (Nat×Nat)):Bool:=
 let ms:=masks ops.toList []
 ((List.range ops.size).all fun i=>match ops[i]? with
  |some o=>o.after.toList.all fun e=>!Region.binds .any e||decide (e.on<i)
  |none=>true)&&
 ((List.range ops.size).all fun i=>match ops[i]? with
  |some o=>(Oper.looksAt ops o).all fun t=>(List.range ops.size).all fun k=>(ops[k]?).bind (·.dst) !=some t||(decide (i<k)&&mbit ms k i)||(decide (k<i)&&mbit ms i k&&match ops[k]? with
   |some o'=>!newB o'.op||(List.range k).all fun j=>match ops[j]? with
    |some o2=>!heapB o2.op||mbit ms i j
    |none=>true
   |none=>true)
  |none=>true)&&
 ((List.range ops.size).all fun i=>(List.range ops.size).all fun k=>i==k||((ops[i]?).bind (·.dst)).isNone||(ops[i]?).bind (·.dst) !=(ops[k]?).bind (·.dst))&&
 ((List.range ops.size).all fun i=>match ops[i]? with
  |some o=>(!rdB o.op||o.dst.isSome)&&(!heapB o.op||(List.range ops.size).all fun k=>match ops[k]? with
   |some o'=>i==k||mbit ms i k||mbit ms k i||(heapB o'.op&&decide (k<i)&&newB o.op)||(heapB o'.op&&decide (i<k)&&newB o'.op)||(!heapB o'.op&&(!rdB o'.op||prs.contains (k,i)))
   |none=>true)
  |none=>true)
def T0:Callee:=fun _ _ _=>none
def lopC [Cvt] (P:Program) (T:Callee) (o:Oper) (fr:Fr) (H:LH):Option (Value×LH):=
 if cvB o.op then(match o.op with
  |.convert s d x=>lbytes P s d (ev fr x) H
  |_=>none)else lop P T o fr H
def lopM (c:Option (TypeId→TypeId→Bool)) (P:Program) (T:Callee) (o:Oper) (fr:Fr) (H:LH):Option (Value×LH):=match c with
 |none=>lopB P T o fr H
 |some cv=>@lopC ⟨cv⟩ P T o fr H
def lops (c:Option (TypeId→TypeId→Bool)) (P:Program) (T:Callee) (N:Nat) (all:Array Oper):List Oper→Fr→LH→Option (Fr×LH)
 | [],fr,H=>some (fr,H)
 |o::os,fr,H=>
  match lwant all fr o with
  |some true=>
   match lopM c P T o fr H with
   |some (v,H')=>match lput N fr o.dst v with
    |some fr'=>lops c P T N all os fr' H'
    |none=>none
   |none=>none
  |some false=>match lput N fr o.dst undef with
   |some fr'=>lops c P T N all os fr' H
   |none=>none
  |none=>none
open Classical in
noncomputable def lchain [Cvt] (P:Program) (T:Callee) (N:Nat) (all:Array Oper) (prs:List (Nat×Nat)):Nat→(Nat→Fr×LH)→List Oper→Fr→LH→Option (Fr×LH)
 |_,_,[],fr,H=>some (fr,H)
 |k,old,o::os,fr,H=>
  match lwant all fr o with
  |some true=>match lopC P T o fr H with
   |some (v,H')=>match lput N fr o.dst v with
    |some fr'=>
     if(∀j,(k,j)∈prs→j<k→lop P T0 o fr (old j).2=some (v,(old j).2))∧
       (∀i,(i,k)∈prs→i<k→ ∀oi d,all[i]?=some oi→oi.dst=some d→lwant all (old i).1 oi=some true→lop P T0 oi (old i).1 H'=some (fr' d,H'))then
      lchain P T N all prs (k+1) (fun j=>if j=k then(fr,H)else old j) os fr' H'
     else none
    |none=>none
   |none=>none
  |some false=>match lput N fr o.dst undef with
   |some fr'=>
    if∀i,(i,k)∈prs→i<k→ ∀oi d,all[i]?=some oi→oi.dst=some d→lwant all (old i).1 oi=some true→lop P T0 oi (old i).1 H=some (fr' d,H)then
     lchain P T N all prs (k+1) (fun j=>if j=k then(fr,H)else old j) os fr' H
    else none
   |none=>none
  |none=>none
def lresult (P:Program) (fr:Fr) (H:LH):ResultVar→Option Value
 |.tmp t=>some (fr t)
 |.cell a t=>match fr a with
  |.pointer (some ⟨l,off,none⟩)=>lload P t l off H
  |_=>none
def lresults (P:Program) (fn:Func) (fr:Fr) (H:LH):Option Value:=
 match fn.results.toList.mapM (lresult P fr H)with
 |some [v]=>some v
 |some vs=>some (.tuple vs.toArray)
 |none=>none
def pidx:List Nat→Nat→Nat
 | [],_=>0
 |a::p,i=>if a=i then 0 else pidx p i+1
def pnth:List Oper→Nat→Oper
 | [],_=>⟨none,.move (.tmp 0),0,"",#[],none⟩
 |o::_,0=>o
 |_::l,n+1=>pnth l n
def preE (p:List Nat) (es:Array Edge):Array Edge:=es.map fun e=>⟨pidx p e.on,e.ground⟩
def preG (p:List Nat):Option (Nat×Bool)→Option (Nat×Bool)
 |none=>none
 |some (g,b)=>some (pidx p g,b)
def pren (p:List Nat):Oper→Oper
 |⟨d,op,ty,pos,after,g⟩=>⟨d,op,ty,pos,preE p after,preG p g⟩
def pmap (p:List Nat) (l:List Oper):List Nat→List Oper
 | []=> []
 |i::is=>pren p (pnth l i)::pmap p l is
def permL (p:List Nat) (l:List Oper):List Oper:=match p with
 | []=>l
 |a::p=>pmap (a::p) l (a::p)
def permB (p:List Nat) (ops:Array Oper):Bool:=p.isEmpty||
 (p.length==ops.size&&((List.range ops.size).all fun i=>decide (pidx p i<ops.size)&&p.getD (pidx p i) ops.size==i&&decide (p.getD i ops.size<ops.size)&&pidx p (p.getD i ops.size)==i)&&
 ops.toList.all fun o=>(o.after.toList.all fun e=>decide (e.on<ops.size))&&match o.guard with
  |some (g,_)=>decide (g<ops.size)
  |none=>true)
def drawn (L:Loud) (N id:Nat) (ops:Array Oper):Array Oper:=⟨permL (L.pm N id ops.size) ops.toList⟩
noncomputable def ldraw (P:Program) (L:Loud) (T:Callee) (N id:Nat) (ops:Array Oper) (fr:Fr) (H:LH):Option (Fr×LH):=
 @lchain ⟨L.cv⟩ P T N (drawn L N id ops) (L.ch N id ops.size) 0 (fun _=>(fr,H)) (drawn L N id ops).toList fr H
noncomputable def run (P:Program) (L:Loud) (T:Callee) (fn:Func):Nat→List Item→Fr→LH→Option (Value×LH)
 |0,_,_,_=>none
 |n+1,[],fr,H=>(lresults P fn fr H).map fun v=>(v,H)
 |n+1,.code .skip::k,fr,H=>run P L T fn n k fr H
 |n+1,.code (.label _)::k,fr,H=>run P L T fn n k fr H
 |n+1,.code (.seq a b)::k,fr,H=>run P L T fn n (.code a::.code b::k) fr H
 |n+1,.code (.cond c x y)::k,fr,H=>match ev fr c with
  |.bool t=>if t then run P L T fn n (.code x::k) fr H else run P L T fn n (.code y::k) fr H
  |_=>none
 |n+1,.code (.block id c)::k,fr,H=>run P L T fn n (.code c::.inBlock id::k) fr H
 |n+1,.code (.loop c)::k,fr,H=>run P L T fn n (.code c::.inLoop c::k) fr H
 |n+1,.code (.exit id)::k,fr,H=>match exitTo id k with
  |some k'=>run P L T fn n k' fr H
  |none=>none
 |n+1,.code .ret::_,fr,H=>(lresults P fn fr H).map fun v=>(v,H)
 |n+1,.code (.region _ ops false)::k,fr,H=>match lops none P T fn.ntmps ops ops.toList fr H with
  |some (fr',H')=>run P L T fn n k fr' H'
  |none=>none
 |n+1,.code (.region id ops true)::k,fr,H=>match ldraw P L T fn.ntmps id ops fr H with
  |some (fr',H')=>run P L T fn n k fr' H'
  |none=>none
 |n+1,.inBlock _::k,fr,H=>run P L T fn n k fr H
 |n+1,.inLoop c::k,fr,H=>run P L T fn n (.code c::.inLoop c::k) fr H
 |_+1,_,_,_=>none
def drawOk (L:Loud) (N id:Nat) (ops:Array Oper):Bool:=permB (L.pm N id ops.size) ops&&@mixC ⟨L.cv⟩ (drawn L N id ops) (L.ch N id ops.size)
def codeOk (L:Loud) (N:Nat):Code→Bool
 |.region id ops true=>drawOk L N id ops
 |.seq a b=>codeOk L N a&&codeOk L N b
 |.cond _ a b=>codeOk L N a&&codeOk L N b
 |.block _ c=>codeOk L N c
 |.loop c=>codeOk L N c
 |.scope c=>codeOk L N c
 |_=>true
structure Env where
 ext:FuncId→Option (List Value→LH→Option (Value×LH))
 loud:Loud
instance:CoeFun Env (fun _=>FuncId→Option (List Value→LH→Option (Value×LH))):=⟨Env.ext⟩
open Classical in
noncomputable def trunc (H:LH) (r:Value×LH):Value×LH:=if flatB r.1=true∧H.le r.2 then(r.1,H)else r
def enter (args:List Value):Fr:=fun t=>args.getD t undef
end Go.Lg
namespace Go.Lg
open Go.Tg Go.RowKit
structure Im where
 blk:Nat
 off:Nat
 slack:Nat
abbrev Ren:=Nat→Im
inductive VR (n:Nat→Prop) (ι:Ren):Value→Value→Prop
 |any (v):VR n ι (.chan (some 0)) v
 |flat (v):flatB v=true→VR n ι v v
 |ptr (l o):n l→(ι l).off=0→VR n ι (.pointer (some ⟨l,o,none⟩)) (.pointer (some ⟨(ι l).blk,(ι l).off+o,none⟩))
 |slice (l o k c):n l→(ι l).off=0→k≤c→VR n ι (.slice (some ⟨l,o,none⟩) k c) (.slice (some ⟨(ι l).blk,(ι l).off+o,none⟩) k (c+(ι l).slack))
 |slice0 (l o a):n l→(ι l).off=0→VR n ι (.slice (some ⟨l,o,none⟩) 0 0) (.slice (some a) 0 0)
 |agg (xs ys:Array Value):xs.size=ys.size→(∀(i:Nat) (v w:Value),xs[i]?=some v→ys[i]?=some w→VR n ι v w)→VR n ι (.agg xs) (.agg ys)
 |tuple (xs ys:Array Value):xs.size=ys.size→(∀(i:Nat) (v w:Value),xs[i]?=some v→ys[i]?=some w→VR n ι v w)→VR n ι (.tuple xs) (.tuple ys)
 |func (g:FuncId) (a b c d:Array Value):a.size=b.size→c.size=d.size→(∀(i:Nat) (v w:Value),a[i]?=some v→b[i]?=some w→VR n ι v w)→(∀(i:Nat) (v w:Value),c[i]?=some v→d[i]?=some w→VR n ι v w)→VR n ι (.func (.func g) a c) (.func (.func g) b d)
 |map (l):n l→(ι l).off=1→VR n ι (.map (some l)) (.map (some (ι l).blk))
 |yld (l):n l→VR n ι (.func (.yield l) #[] #[]) (.func (.yield (ι l).blk) #[] #[])
theorem atom_eq {n:Nat→Prop} {ι:Ren} {v w:Value} (h:VR n ι v w) (hv:atomB v=true):w=v:=by
 cases h with
 |any=>simp [atomB]at hv
 |flat=>rfl
 |ptr=>simp [atomB]at hv
 |slice=>simp [atomB]at hv
 |slice0=>simp [atomB]at hv
 |agg=>simp [atomB]at hv
 |tuple=>simp [atomB]at hv
 |func fn a b c d h1 h2 h3 h4=>
  simp [atomB]at hv
  obtain⟨e1,e2⟩:=hv
  have e3:b=#[]:=Array.eq_empty_of_size_eq_zero (by rw [←h1,e1];rfl)
  have e4:d=#[]:=Array.eq_empty_of_size_eq_zero (by rw [←h2,e2];rfl)
  rw [e1,e2,e3,e4]
 |map=>simp [atomB]at hv
 |yld=>simp [atomB]at hv
theorem arr_eq {n:Nat→Prop} {ι:Ren} {xs ys:Array Value} (hs:xs.size=ys.size) (h: ∀(i:Nat) (v w:Value),xs[i]?=some v→ys[i]?=some w→w=v):ys=xs:=by
 apply Array.ext hs.symm
 intro i h1 h2
 exact h i _ _ (Array.getElem?_eq_getElem h2) (Array.getElem?_eq_getElem h1)
theorem flat1_eq {n:Nat→Prop} {ι:Ren} {v w:Value} (h:VR n ι v w) (hv:flat1B v=true):w=v:=by
 cases h with
 |agg xs ys hs h=>
  rw [arr_eq (n:=n) (ι:=ι) hs fun i v w hx hy=>atom_eq (h i v w hx hy) ?_]
  simp only [flat1B,List.all_eq_true]at hv
  exact hv v (by simpa using Array.mem_of_getElem? hx)
 |flat=>rfl
 |any=>simp [flat1B,atomB]at hv
 |ptr l o hl h0=>exact atom_eq (n:=n) (ι:=ι) (.ptr l o hl h0) hv
 |slice l o k c hl h0 hk=>exact atom_eq (n:=n) (ι:=ι) (.slice l o k c hl h0 hk) hv
 |map l hl h0=>exact atom_eq (n:=n) (ι:=ι) (.map l hl h0) hv
 |slice0 l o a hl h0=>exact atom_eq (n:=n) (ι:=ι) (.slice0 l o a hl h0) hv
 |tuple=>simp [flat1B,atomB]at hv
 |func fn a b c d h1 h2 h3 h4=>exact atom_eq (n:=n) (ι:=ι) (.func fn a b c d h1 h2 h3 h4) hv
 |yld=>simp [flat1B,atomB]at hv
theorem flat_eq {n:Nat→Prop} {ι:Ren} {v w:Value} (h:VR n ι v w) (hv:flatB v=true):w=v:=by
 cases h with
 |tuple xs ys hs h=>
  rw [arr_eq (n:=n) (ι:=ι) hs fun i v w hx hy=>flat1_eq (h i v w hx hy) ?_]
  simp only [flatB,List.all_eq_true]at hv
  exact hv v (by simpa using Array.mem_of_getElem? hx)
 |flat=>rfl
 |any=>simp [flatB,flat1B,atomB]at hv
 |ptr l o hl h0=>exact flat1_eq (n:=n) (ι:=ι) (.ptr l o hl h0) hv
 |slice l o k c hl h0 hk=>exact flat1_eq (n:=n) (ι:=ι) (.slice l o k c hl h0 hk) hv
 |map l hl h0=>exact flat1_eq (n:=n) (ι:=ι) (.map l hl h0) hv
 |slice0 l o a hl h0=>exact flat1_eq (n:=n) (ι:=ι) (.slice0 l o a hl h0) hv
 |agg xs ys hs h=>exact flat1_eq (n:=n) (ι:=ι) (.agg xs ys hs h) hv
 |func fn a b c d h1 h2 h3 h4=>exact flat1_eq (n:=n) (ι:=ι) (.func fn a b c d h1 h2 h3 h4) hv
 |yld=>simp [flatB,flat1B,atomB]at hv
theorem VR.mono {n n':Nat→Prop} {ι ι':Ren} {v w:Value} (h:VR n ι v w) (hn: ∀l,n l→n' l) (hi: ∀l,n l→ι' l=ι l):VR n' ι' v w:=by
 induction h with
 |any v=>exact .any v
 |flat v h=>exact .flat v h
 |ptr l o hl h0=>rw [←hi l hl]at h0⊢;exact .ptr l o (hn l hl) h0
 |slice l o k c hl h0 hk=>rw [←hi l hl]at h0⊢;exact .slice l o k c (hn l hl) h0 hk
 |map l hl h0=>rw [←hi l hl]at h0⊢;exact .map l (hn l hl) h0
 |slice0 l o a hl h0=>rw [←hi l hl]at h0;exact .slice0 l o a (hn l hl) h0
 |agg xs ys hs _ ih=>exact .agg xs ys hs ih
 |tuple xs ys hs _ ih=>exact .tuple xs ys hs ih
 |func fn a b c d h1 h2 _ _ ih1 ih2=>exact .func fn a b c d h1 h2 ih1 ih2
 |yld l hl=>rw [←hi l hl];exact .yld l (hn l hl)
theorem VR.back {n n':Nat→Prop} {ι ι':Ren} {v w x:Value} (h:VR n' ι' v w) (h0:VR n ι v x) (hi: ∀l,n l→ι' l=ι l):VR n ι v w:=by
 induction h0 generalizing w with
 |any v=>exact .any w
 |flat v hv=>rw [flat_eq h hv];exact .flat v hv
 |ptr l o hl h0=>
  cases h with
  |flat _ hv=>simp [flatB,flat1B,atomB]at hv
  |ptr _ _ _ _=>rw [hi l hl];exact .ptr l o hl h0
 |map l hl h0=>
  cases h with
  |flat _ hv=>simp [flatB,flat1B,atomB]at hv
  |map _ _ _=>rw [hi l hl];exact .map l hl h0
 |slice l o k c hl h0 hk=>
  cases h with
  |flat _ hv=>simp [flatB,flat1B,atomB]at hv
  |slice _ _ _ _ _ _ _=>rw [hi l hl];exact .slice l o k c hl h0 hk
  |slice0 _ _ a _ _=>exact .slice0 l o a hl h0
 |slice0 l o a hl h0=>
  cases h with
  |flat _ hv=>simp [flatB,flat1B,atomB]at hv
  |slice _ _ _ _ _ _ _=>rw [hi l hl];exact .slice l o 0 0 hl h0 (Nat.le_refl _)
  |slice0 _ _ a _ _=>exact .slice0 l o a hl h0
 |agg xs ys hs _ ih=>
  cases h with
  |flat _ hv=>exact .flat _ hv
  |agg _ zs hz hh=>
   refine .agg _ _ hz (fun i v w hx hy=>?_)
   have:i<ys.size:=by rw [←hs];exact(Array.getElem?_eq_some_iff.1 hx).1
   exact ih i v _ hx (Array.getElem?_eq_getElem this) (hh i v w hx hy)
 |tuple xs ys hs _ ih=>
  cases h with
  |flat _ hv=>exact .flat _ hv
  |tuple _ zs hz hh=>
   refine .tuple _ _ hz (fun i v w hx hy=>?_)
   have:i<ys.size:=by rw [←hs];exact(Array.getElem?_eq_some_iff.1 hx).1
   exact ih i v _ hx (Array.getElem?_eq_getElem this) (hh i v w hx hy)
 |func fn a b c d h1 h2 _ _ ih1 ih2=>
  cases h with
  |flat _ hv=>exact .flat _ hv
  |func _ _ b' _ d' g1 g2 g3 g4=>
   refine .func _ _ _ _ _ g1 g2 (fun i v w hx hy=>?_) (fun i v w hx hy=>?_)
   ·have:i<b.size:=by rw [←h1];exact(Array.getElem?_eq_some_iff.1 hx).1
    exact ih1 i v _ hx (Array.getElem?_eq_getElem this) (g3 i v w hx hy)
   ·have:i<d.size:=by rw [←h2];exact(Array.getElem?_eq_some_iff.1 hx).1
    exact ih2 i v _ hx (Array.getElem?_eq_getElem this) (g4 i v w hx hy)
 |yld l hl=>
  cases h with
  |flat _ hv=>simp [flatB,flat1B,atomB]at hv
  |yld _ _=>rw [hi l hl];exact .yld l hl
def RW (H:LH) (ι:Ren) (k:Nat):Prop:= ∃l b,H.get l=some b∧b.rw=true∧(ι l).blk=k
def ElOk (P:Program) (e t:TypeId) (fr:Nat×Nat) (n:Nat):Prop:=(t=e∧fr=(0,0))∨(e=MK P t∧sz P t=some 1∧(fr=(n,n+1)∨fr=(0,0)))
theorem sz_MK {P:Program} {t:TypeId} :sz P (MK P t)=none:=by
 have h:P.toTables.info? P.types.size=none:=by
  unfold Tables.info?
  rw [if_neg (Nat.lt_irrefl _),show Made.depth=99+1 from rfl]
  unfold Made.infoAt
  rw [if_neg (Nat.lt_irrefl _),Nat.sub_self,show Made.decode 0=none by decide+kernel]
  rfl
 unfold sz MK
 rw [h];rfl
theorem ElOk.plain {P:Program} {e t:TypeId} {fr:Nat×Nat} {n s:Nat} (h:ElOk P e t fr n) (hs:sz P e=some s):t=e∧fr=(0,0):=by
 rcases h with h|⟨h,_⟩
 ·exact h
 ·rw [h,sz_MK]at hs;cases hs
def MpL (n:Nat→Prop) (ι:Ren):List Value→List MapEntry→Prop
 | [],[]=>True
 |k::v::s::cs,e::es=>(k=e.key∧VR n ι v e.val∧s=.int .i64 e.born)∧MpL n ι cs es
 |_,_=>False
def CelR (P:Program) (n:Nat→Prop) (ι:Ren) (b:LB) (im:Im) (o:Option Obj):Prop:= ∃arr t fr,o=some (.cells arr t fr)∧im.off+b.cells.length≤arr.size∧
  (∀i v,b.cells[i]?=some v→ ∃v',arr[im.off+i]?=some v'∧VR n ι v v')∧
  (b.rw=true→im.off=0∧ElOk P b.elem t fr arr.size∧ ∃s,sz P t=some s∧arr.size=b.cells.length+im.slack*s∧ ∀n,s≠0→b.cells.length=n*s→n+im.slack≤maxLen)
def BR (P:Program) (n:Nat→Prop) (ι:Ren) (b:LB) (im:Im) (o:Option Obj):Prop:=(im.off=0∧CelR P n ι b im o)∨(im.off=1∧ ∃es,o=some (.map es b.elem)∧MapKept.Stamped es b.elem∧MpL n ι b.cells es.toList)
structure Rel (P:Program) (H:LH) (ι:Ren) (w:World):Prop where
 dom: ∀l,H.n≤l→H.get l=none
 hol: ∀l,H.hole l→l<H.n∧H.get l=none
 br: ∀l b,H.get l=some b→BR P H.D ι b (ι l) w.heap[(ι l).blk]?
 sep: ∀l l' b b',H.get l=some b→H.get l'=some b'→b.rw=true→l≠l'→(ι l).blk≠(ι l').blk
 pin: ∀g,g<H.ng→w.heap[g]?=H.base.heap[g]?∧g<w.heap.size∧ ¬RW H ι g
theorem MpL.mono {n n':Nat→Prop} {ι ι':Ren} (hn: ∀l,n l→n' l) (hi: ∀l,n l→ι' l=ι l): ∀ {cs:List Value} {es:List MapEntry},MpL n ι cs es→MpL n' ι' cs es
 | [],[],_=>trivial
 | [],_::_,h=>h.elim
 | [_],_,h=>by simp [MpL]at h
 | [_,_],_,h=>by simp [MpL]at h
 |_::_::_::_,[],h=>h.elim
 |_::_::_::_,_::_,⟨⟨h1,h2,h3⟩,h4⟩=>⟨⟨h1,h2.mono hn hi,h3⟩,h4.mono hn hi⟩
theorem MpL.back {n n':Nat→Prop} {ι ι':Ren} (hi: ∀l,n l→ι' l=ι l): ∀ {cs:List Value} {es es0:List MapEntry},MpL n' ι' cs es→MpL n ι cs es0→MpL n ι cs es
 | [],[],_,_,_=>trivial
 | [],_::_,_,h,_=>h.elim
 | [_],_,_,h,_=>by simp [MpL]at h
 | [_,_],_,_,h,_=>by simp [MpL]at h
 |_::_::_::_,[],_,h,_=>h.elim
 |_::_::_::_,_::_,[],_,h=>h.elim
 |_::_::_::_,_::_,_::_,⟨⟨h1,h2,h3⟩,h4⟩,⟨⟨_,g2,_⟩,g4⟩=>⟨⟨h1,h2.back g2 hi,h3⟩,h4.back hi g4⟩
theorem BR.back {P:Program} {n n':Nat→Prop} {ι ι':Ren} {b:LB} {im:Im} {o o':Option Obj} (hi: ∀l,n l→ι' l=ι l) (h:BR P n' ι' b im o') (h0:BR P n ι b im o):BR P n ι b im o':=by
 rcases h with⟨hf,arr,t,f,hw,h1,h2,h3⟩|⟨hf,es,hw,hs,hM⟩<;>rcases h0 with⟨hf',_,_,_,_,_,g2,_⟩|⟨hf',_,_,_,hM0⟩
 ·refine .inl ⟨hf,arr,t,f,hw,h1,fun i x hx=>?_,h3⟩
  obtain⟨y,hy,hv⟩:=h2 i x hx
  obtain⟨_,_,hv0⟩:=g2 i x hx
  exact⟨y,hy,hv.back hv0 hi⟩
 ·rw [hf]at hf';cases hf'
 ·rw [hf]at hf';cases hf'
 ·exact .inr ⟨hf,es,hw,hs,hM.back hi hM0⟩
theorem BR.mono {P:Program} {n n':Nat→Prop} {ι ι':Ren} {b:LB} {im:Im} {o:Option Obj} (h:BR P n ι b im o) (hn: ∀l,n l→n' l) (hi: ∀l,n l→ι' l=ι l):BR P n' ι' b im o:=by
 rcases h with⟨h0,arr,t,f,h1,h2,h3,h4⟩|⟨h0,es,h1,hs,h2⟩
 ·exact .inl ⟨h0,arr,t,f,h1,h2,fun i v hv=>(h3 i v hv).imp fun v' hv'=>⟨hv'.1,hv'.2.mono hn hi⟩,h4⟩
 ·exact .inr ⟨h0,es,h1,hs,h2.mono hn hi⟩
theorem BR.some {P:Program} {n:Nat→Prop} {ι:Ren} {b:LB} {im:Im} {w:World} {k:Nat} (h:BR P n ι b im w.heap[k]?):k<w.heap.size:=by
 rcases h with⟨_,_,_,_,h,_⟩|⟨_,_,h,_⟩<;>exact(Array.getElem?_eq_some_iff.1 h).1
theorem Rel.blk {P:Program} {H:LH} {ι:Ren} {w:World} (h:Rel P H ι w) {l:Nat} {b:LB} (hb:H.get l=some b) (h0:(ι l).off=0):CelR P H.D ι b (ι l) w.heap[(ι l).blk]?:=by
 rcases h.br l b hb with h|h
 ·exact h.2
 ·rw [h0]at h;exact absurd h.1 (by decide)
theorem Rel.lt {P:Program} {H:LH} {ι:Ren} {w:World} (h:Rel P H ι w) {l:Nat} {b:LB} (hb:H.get l=some b):(ι l).blk<w.heap.size:=(h.br l b hb).some
theorem Rel.live {P:Program} {H:LH} {ι:Ren} {w:World} (h:Rel P H ι w) {l:Nat} {b:LB} (hb:H.get l=some b):H.D l:=by
 refine⟨?_,fun hh=>?_⟩
 ·rcases Nat.lt_or_ge l H.n with h1|h1
  ·exact h1
  ·rw [h.dom l h1]at hb;cases hb
 ·rw [(h.hol l hh).2]at hb;cases hb
theorem pin_step {P:Program} {H H':LH} {ι ι':Ren} {w w':World} (h:Rel P H ι w) (hc:Change (RW H ι) w w') (hrw: ∀k,RW H' ι' k→RW H ι k∨w.heap.size≤k) (hb:H'.base=H.base) (hg:H'.ng=H.ng): ∀g,g<H'.ng→w'.heap[g]?=H'.base.heap[g]?∧g<w'.heap.size∧ ¬RW H' ι' g:=by
 intro g hg'
 rw [hg]at hg'
 obtain⟨h1,h2,h3⟩:=h.pin g hg'
 refine⟨by rw [hb,hc.block g h2 h3];exact h1,Nat.lt_of_lt_of_le h2 hc.size,fun h4=>?_⟩
 rcases hrw g h4 with h5|h5
 ·exact h3 h5
 ·omega
def Img (H:LH) (ι:Ren) (k:Nat):Prop:= ∃l b,H.get l=some b∧(ι l).blk=k
structure Out (P:Program) (H:LH) (ι:Ren) (w:World) (H':LH) (ι':Ren) (w':World):Prop where
 rel:Rel P H' ι' w'
 n:H.n≤H'.n
 sub: ∀l,H.D l→H'.D l
 same: ∀l,H.D l→ι' l=ι l
 chg:Change (RW H ι) w w'
 rw: ∀k,RW H' ι' k→RW H ι k∨w.heap.size≤k
 img: ∀k,Img H' ι' k→Img H ι k∨w.heap.size≤k
 ng:H'.ng=H.ng
theorem Out.refl {P:Program} {H:LH} {ι:Ren} {w:World} (h:Rel P H ι w):Out P H ι w H ι w:=⟨h,Nat.le_refl _,fun _ h=>h,fun _ _=>rfl,Change.refl _ _,fun _ h=>.inl h,fun _ h=>.inl h,rfl⟩
theorem Out.trans {P:Program} {H H1 H2:LH} {ι ι1 ι2:Ren} {w w1 w2:World} (h:Out P H ι w H1 ι1 w1) (k:Out P H1 ι1 w1 H2 ι2 w2):Out P H ι w H2 ι2 w2:=
 ⟨k.rel,Nat.le_trans h.n k.n,fun l hl=>k.sub l (h.sub l hl),fun l hl=>(k.same l (h.sub l hl)).trans (h.same l hl),h.chg.trans k.chg h.rw,
  fun x hx=>by
   rcases k.rw x hx with h1|h1
   ·exact h.rw x h1
   ·exact .inr (Nat.le_trans h.chg.size h1),
  fun x hx=>by
   rcases k.img x hx with h1|h1
   ·exact h.img x h1
   ·exact .inr (Nat.le_trans h.chg.size h1),k.ng.trans h.ng⟩
def FrR (n:Nat→Prop) (ι:Ren) (N:Nat) (fr:Fr) (tmps:Array Value):Prop:=tmps.size=N∧ ∀t,VR n ι (fr t) (tmps.getD t undef)
theorem FrR.mono {n n':Nat→Prop} {ι ι':Ren} {N:Nat} {fr:Fr} {tmps:Array Value} (h:FrR n ι N fr tmps) (hn: ∀l,n l→n' l) (hi: ∀l,n l→ι' l=ι l):FrR n' ι' N fr tmps:=⟨h.1,fun t=>(h.2 t).mono hn hi⟩
theorem FrR.ev {n:Nat→Prop} {ι:Ren} {N:Nat} {fr:Fr} {a:Act} (h:FrR n ι N fr a.tmps) (x:Operand):VR n ι (ev fr x) (a.eval x):=by
 cases x with
 |tmp t=>exact h.2 t
 |const v=>
  unfold Lg.ev;simp only
  split
  ·exact .flat v ‹_›
  ·exact .any _
 |global g=>exact .any _
 |func f=>exact .flat _ rfl
theorem FrR.put {n:Nat→Prop} {ι:Ren} {N:Nat} {fr fr':Fr} {a:Act} {d:Option Tmp} {v v':Value} (h:FrR n ι N fr a.tmps) (hp:lput N fr d v=some fr') (hv:VR n ι v v'):FrR n ι N fr' (a.put d v').tmps:=by
 cases d with
 |none=>simp only [lput,Option.some.injEq]at hp;subst hp;exact h
 |some d=>
  simp only [lput]at hp
  split at hp
  ·rename_i hd
   simp only [Option.some.injEq]at hp
   subst hp
   refine⟨by simp [Act.put,h.1],fun t=>?_⟩
   have ht:=h.2 t
   simp only [upd,Act.put,Array.getD_eq_getD_getElem?,Array.getElem?_setIfInBounds]at ht⊢
   by_cases e:t=d
   ·subst e;simp [h.1,hd];exact hv
   ·rw [if_neg e,if_neg (fun h=>e h.symm)];exact ht
  ·cases hp
theorem put_defers (a:Act) (d:Option Tmp) (v:Value):(a.put d v).defers=a.defers:=by cases d<;>rfl
theorem FrR.undef (n:Nat→Prop) (ι:Ren) {N:Nat} {fr fr':Fr} {a:Act} {d:Option Tmp} (h:FrR n ι N fr a.tmps) (hp:lput N fr d undef=some fr'):FrR n ι N fr' (a.put d Go.undef).tmps:=h.put hp (.flat _ rfl)
theorem want_eq {n:Nat→Prop} {ι:Ren} {N:Nat} {fr:Fr} {a:Act} {ops:Array Oper} (h:FrR n ι N fr a.tmps) {o:Oper} {b:Bool} (hw:lwant ops fr o=some b):Region.wanted o (yielded ops a.tmps)=b:=by
 unfold lwant at hw
 unfold Region.wanted
 cases hg:o.guard with
 |none=>simp only [hg,Option.some.injEq]at hw⊢;exact hw
 |some g=>
  obtain⟨j,want⟩:=g
  simp only [hg]at hw⊢
  cases hd:(ops[j]?).bind (·.dst)with
  |none=>
   simp only [hd,Option.some.injEq]at hw;subst hw
   unfold yielded;rw [hd];rfl
  |some d=>
   simp only [hd]at hw
   have ht:=h.2 d
   have key: ∀v,fr d=v→flatB v=true→yielded ops a.tmps j=(match v with|.bool b=>some b|_=>none):=by
    intro v hv hf
    rw [hv]at ht
    have:=flat_eq ht hf
    simp only [Array.getD_eq_getD_getElem?]at this
    unfold yielded
    rw [hd]
    simp only [Option.bind_some]
    cases hx:a.tmps[d]? with
    |none=>rw [hx]at this;simp at this;subst this;simp [Go.undef]
    |some z=>rw [hx]at this;simp at this;subst this;cases z<;>rfl
   cases hf:fr d with
   |bool c=>
    simp only [hf,Option.some.injEq]at hw
    rw [key _ hf rfl,←hw]
    cases c<;>cases want<;>rfl
   |_=>
    simp only [hf]at hw
    split at hw
    ·simp only [Option.some.injEq]at hw
     rw [key _ hf ‹_›,←hw];rfl
    ·cases hw
theorem pureVal_run {α:Type} {P:Program} {s:Sem α} {x:α} (h:pureVal P s=some x) (w:World):s.run P w=.ok x w:=by
 induction s with
 |pure a=>simp only [pureVal,Option.some.injEq]at h;subst h;rfl
 |program k ih=>exact ih P h
 |mark m k ih=>exact ih h
 |_=>simp [pureVal]at h
def OpOk (P:Program) (H:LH) (ι:Ren) (o:Oper) (a:Act) (w:World) (v:Value) (H':LH):Prop:=
 ∀(K:Act→World→Prop) (Q:Exit→Act→World→Prop),(∀ι' v' w',Out P H ι w H' ι' w'→VR H'.D ι' v v'→K (a.put o.dst v') w')→o.wp P a w K Q
section
variable {P:Program} {H H':LH} {ι:Ren} {o:Oper} {a:Act} {w:World} {v v':Value} {N:Nat} {fr:Fr}
theorem opok_world {w':World} {ι':Ren} (hrun:(execOp a.eval o).run P w=.ok (.value v') w') (hr:Out P H ι w H' ι' w') (hv:VR H'.D ι' v v'):OpOk P H ι o a w v H':=by
 intro K Q hK
 unfold Oper.wp
 rw [hrun]
 exact hK _ _ _ hr hv
theorem opok_value (hrun:(execOp a.eval o).run P w=.ok (.value v') w) (hr:Rel P H ι w) (hv:VR H.D ι v v'):OpOk P H ι o a w v H:=opok_world hrun (Out.refl hr) hv
theorem opok_skip {w':World} {ι':Ren} (hrun:(execOp a.eval o).run P w=.ok .skip w') (hr:Out P H ι w H' ι' w'):OpOk P H ι o a w undef H':=by
 intro K Q hK
 unfold Oper.wp
 rw [hrun]
 exact hK _ _ _ hr (.flat _ rfl)
theorem vr_ptr {n:Nat→Prop} {l off:Nat} (h:VR n ι (.pointer (some ⟨l,off,none⟩)) v'):(n l∧(ι l).off=0)∧v'=.pointer (some ⟨(ι l).blk,(ι l).off+off,none⟩):=by
 cases h with
 |flat _ hv=>simp [flatB,flat1B,atomB]at hv
 |ptr _ _ hl h0=>exact⟨⟨hl,h0⟩,rfl⟩
theorem vr_agg {n:Nat→Prop} {cs:Array Value} (h:VR n ι (.agg cs) v'): ∃ds,v'=.agg ds∧cs.size=ds.size∧ ∀(i:Nat) (x y:Value),cs[i]?=some x→ds[i]?=some y→VR n ι x y:=by
 cases h with
 |flat _ hv=>
  refine⟨cs,rfl,rfl,fun i x y hx hy=>?_⟩
  rw [hx]at hy
  injection hy with hy
  subst hy
  have hx2:x∈cs.toList:=by simpa using Array.mem_of_getElem? hx
  simp only [flatB,flat1B,List.all_eq_true]at hv
  have:=hv x hx2
  refine .flat _ ?_
  cases x<;>first|exact this|(simp [atomB]at this)
 |agg _ ys hs h=>exact⟨ys,rfl,hs,h⟩
theorem flatB_of_flat1B {x:Value} (h:flat1B x=true):flatB x=true:=by
 cases x<;>first|exact h|(simp [flat1B,atomB]at h)
theorem vr_tuple {n:Nat→Prop} {cs:Array Value} (h:VR n ι (.tuple cs) v'): ∃ds,v'=.tuple ds∧cs.size=ds.size∧ ∀(i:Nat) (x y:Value),cs[i]?=some x→ds[i]?=some y→VR n ι x y:=by
 cases h with
 |flat _ hv=>
  refine⟨cs,rfl,rfl,fun i x y hx hy=>?_⟩
  rw [hx]at hy
  injection hy with hy
  subst hy
  have hx2:x∈cs.toList:=by simpa using Array.mem_of_getElem? hx
  simp only [flatB,List.all_eq_true]at hv
  exact .flat _ (flatB_of_flat1B (hv x hx2))
 |tuple _ ys hs h=>exact⟨ys,rfl,hs,h⟩
theorem vr_cells {n:Nat→Prop} (h:VR n ι v v') (hk:knownB v=true):v.cells.size=v'.cells.size∧ ∀(i:Nat) (x y:Value),v.cells[i]?=some x→v'.cells[i]?=some y→VR n ι x y:=by
 have one: ∀ {u u':Value},VR n ι u u'→(∀cs,u≠.agg cs)→(∀cs,u'≠.agg cs)→u.cells.size=u'.cells.size∧ ∀(i:Nat) (x y:Value),u.cells[i]?=some x→u'.cells[i]?=some y→VR n ι x y:=by
  intro u u' hh h1 h2
  have e1:u.cells=#[u]:=by cases u<;>first|rfl|exact absurd rfl (h1 _)
  have e2:u'.cells=#[u']:=by cases u'<;>first|rfl|exact absurd rfl (h2 _)
  rw [e1,e2]
  refine⟨rfl,fun i x y hx hy=>?_⟩
  match i,hx,hy with
  |0,hx,hy=>
   simp at hx hy
   subst hx hy
   exact hh
 cases h with
 |any=>simp [knownB]at hk
 |flat _ hv=>
  cases v with
  |agg cs=>
   obtain⟨ds,e,hs,hh⟩:=vr_agg (n:=n) (ι:=ι) (.flat (.agg cs) hv)
   injection e with e
   subst e
   exact⟨rfl,hh⟩
  |_=>exact one (.flat _ hv) (by simp) (by simp)
 |agg xs ys hs hh=>exact⟨hs,hh⟩
 |ptr l o hl h0=>exact one (.ptr l o hl h0) (by simp) (by simp)
 |slice l o k c hl h0 hkc=>exact one (.slice l o k c hl h0 hkc) (by simp) (by simp)
 |map l hl h0=>exact one (.map l hl h0) (by simp) (by simp)
 |slice0 l o ad hl h0=>exact one (.slice0 l o ad hl h0) (by simp) (by simp)
 |tuple xs ys hs hh=>exact one (.tuple xs ys hs hh) (by simp) (by simp)
 |func fn a b c d h1 h2 h3 h4=>exact one (.func fn a b c d h1 h2 h3 h4) (by simp) (by simp)
 |yld l hl=>exact one (.yld l hl) (by simp) (by simp)
theorem cell_one {n:Nat→Prop} {x y:Value} (h:VR n ι x y) (hc:cellB x=true):y.oneCell'=true:=by
 cases h with
 |any=>simp [cellB]at hc
 |flat=>cases x<;>first|rfl|(simp [cellB]at hc)
 |ptr=>rfl
 |slice=>rfl
 |slice0=>rfl
 |agg=>simp [cellB]at hc
 |tuple=>simp [cellB]at hc
 |func=>rfl
 |map=>rfl
 |yld=>rfl
theorem Rel.cell (h:Rel P H ι w) {l:Nat} {b:LB} (hb:H.get l=some b) (h0:(ι l).off=0) {i:Nat} {x:Value} (hx:b.cells[i]?=some x):
  ∃y,w.cell? ⟨(ι l).blk,(ι l).off+i,none⟩=some y∧VR H.D ι x y:=by
 obtain⟨arr,t,f,hw,hsz,hc,_⟩:=h.blk hb h0
 obtain⟨y,hy,hv⟩:=hc i x hx
 exact⟨y,by simp [World.cell?,hw,hy],hv⟩
theorem addr_add (b o i:Nat):(⟨b,o,none⟩:Addr).add i=⟨b,o+i,none⟩:=by
 unfold Addr.add;split<;>simp_all
theorem run_isAgg {t:TypeId} {c:Bool} (h:aggB P t=some c) (w:World):(isAgg t).run P w=.ok c w:=by
 unfold aggB at h
 cases hu:P.underlying t with
 |none=>simp [hu]at h
 |some d=>
  simp only [hu,Option.map_some,Option.some.injEq]at h
  unfold isAgg
  rw [Sem.run_bind,run_underlying hu w]
  cases d<;>(simp only [Result.andThen_ok,aggD]at*;subst h;rfl)
theorem run_sizeOf' {t:TypeId} {s:Nat} (h:sz P t=some s) (w:World):(sizeOf t).run P w=.ok s w:=by
 unfold sz at h
 cases hi:P.info? t with
 |none=>simp [hi]at h
 |some i=>simp [hi]at h;simp [sizeOf,typeInfo,hi,h]
theorem run_zero {t:TypeId} {z:Value} (h:zr P t=some z) (w:World):(zeroValue t).run P w=.ok z w:=by
 unfold zr at h
 cases hi:P.info? t with
 |none=>simp [hi]at h
 |some i=>
  simp only [hi,Option.bind_some]at h
  simp [zeroValue,typeInfo,hi,h]
theorem load_sound (h:Rel P H ι w) {t:TypeId} {l off:Nat} (h0:(ι l).off=0) (hl:lload P t l off H=some v):
  ∃v',(∀w':World,w'.heap[(ι l).blk]?=w.heap[(ι l).blk]?→(loadVar t ⟨(ι l).blk,(ι l).off+off,none⟩).run P w'=.ok v' w')∧VR H.D ι v v':=by
 unfold lload at hl
 split at hl
 ·rename_i b hb
  split at hl
  ·rename_i s ha hs
   simp only [lcells,Option.map_eq_some_iff]at hl
   obtain⟨cs,hcs,rfl⟩:=hl
   split at hcs
   ·rename_i hle
    simp only [Option.some.injEq]at hcs
    have hlen:cs.length=s:=by rw [←hcs];simp;omega
    have hget: ∀j x,cs[j]?=some x→b.cells[off+j]?=some x:=by
     intro j x hx
     rw [←hcs,List.getElem?_take]at hx
     split at hx
     ·rw [List.getElem?_drop]at hx;exact hx
     ·cases hx
    have hall: ∀j,j<s→ ∃y,w.cell? ⟨(ι l).blk,(ι l).off+off+j,none⟩=some y∧ ∀x,cs[j]?=some x→VR H.D ι x y:=by
     intro j hj
     have hx:cs[j]?=some (cs[j]'(by omega)):=List.getElem?_eq_getElem (by omega)
     obtain⟨y,hy,hv⟩:=h.cell hb h0 (hget j _ hx)
     exact⟨y,by rw [Nat.add_assoc];exact hy,fun x hx'=>by rw [hx]at hx';injection hx' with hx';rw [←hx'];exact hv⟩
    obtain⟨f,hf⟩: ∃f:Nat→Value,∀j,j<s→w.cell? ⟨(ι l).blk,(ι l).off+off+j,none⟩=some (f j)∧ ∀x,cs[j]?=some x→VR H.D ι x (f j):=by
     classical
     refine⟨fun j=>if hj:j<s then Classical.choose (hall j hj)else undef,fun j hj=>?_⟩
     simp only [dif_pos hj]
     exact Classical.choose_spec (hall j hj)
    have hrun:=fun(w':World) (hw':w'.heap[(ι l).blk]?=w.heap[(ι l).blk]?)=>run_loadCells (P:=P) w' ⟨(ι l).blk,(ι l).off+off,none⟩ s f (fun j hj=>by rw [addr_add,World.cell?_of_block (w:=w) hw'];exact(hf j hj).1)
    refine⟨.agg ((List.range s).map f).toArray,?_,?_⟩
    ·intro w' hw'
     unfold loadVar
     rw [Sem.run_bind,run_isAgg ha]
     simp only [Result.andThen_ok,if_true,Sem.run_bind,run_sizeOf' hs]
     rw [hrun w' hw']
     rfl
    ·refine .agg _ _ (by simp [hlen]) (fun i x y hx hy=>?_)
     simp only [List.getElem?_toArray]at hx
     have hi:i<s:=by rw [←hlen];exact(List.getElem?_eq_some_iff.1 hx).1
     simp [hi]at hy
     subst hy
     exact(hf i hi).2 x hx
   ·cases hcs
  ·rename_i ha
   obtain⟨y,hy,hv⟩:=h.cell hb h0 hl
   refine⟨y,fun w' hw'=>?_,hv⟩
   unfold loadVar
   rw [Sem.run_bind,run_isAgg ha]
   have hy':=(World.cell?_of_block (w:=w) (w':=w') (a:=⟨(ι l).blk,(ι l).off+off,none⟩) hw').trans hy
   simp [load,Sem.run,hy']
  ·cases hl
 ·cases hl
def Ren.add (ι:Ren) (n:Nat) (x:Im):Ren:=fun l=>if l=n then x else ι l
structure NewAt (P:Program) (D:Nat→Prop) (ι:Ren) (b:LB) (w w':World) (im:Im):Prop where
 chg:Change (fun _=>False) w w'
 at_:im.blk=w.heap.size
 br:BR P D ι b im w'.heap[im.blk]?
theorem new_cells {D:Nat→Prop} {b:LB} {arr:Array Value} {s:Nat} (hrw:b.rw=true) (hs:sz P b.elem=some s) (hsz:arr.size=b.cells.length) (hm: ∀n,s≠0→b.cells.length=n*s→n≤maxLen) (hc: ∀(i:Nat) x,b.cells[i]?=some x→ ∃y,arr[i]?=some y∧VR D ι x y) (w:World):NewAt P D ι b w (w.alloc (.cells arr b.elem)) ⟨w.heap.size,0,0⟩:=
 ⟨(Change.refl _ w).alloc _,rfl,.inl ⟨rfl,arr,b.elem,(0,0),heap_alloc_new w _,by simp [hsz],by simpa using hc,fun _=>⟨rfl,.inl ⟨rfl,rfl⟩,s,hs,by simp [hsz],by simpa using hm⟩⟩⟩
theorem rel_lay (h:Rel P H ι w) {b:LB} {im:Im} {l0:Nat} {w':World} {S:Nat→Prop} (hch:Change S w w') (hS: ∀l b',H.get l=some b'→ ¬S (ι l).blk) (hp: ∀g,g<H.ng→ ¬S g) (hk:S im.blk∨w.heap.size≤im.blk) (hbr:BR P H.D ι b im w'.heap[im.blk]?)
  {H':LH} (hget: ∀k,H'.get k=if k=l0 then some b else H.get k) (hD: ∀k,H'.D k↔H.D k∨k=l0) (hfr: ¬H.D l0) (hdom: ∀l,H'.n≤l→H'.get l=none) (hhol: ∀l,H'.hole l→l<H'.n∧H'.get l=none) (hbase:H'.base=H.base) (hng:H'.ng=H.ng):
  Rel P H' (ι.add l0 im) w'∧(∀l,H.D l→H'.D l)∧(∀l,H.D l→(ι.add l0 im) l=ι l)∧(ι.add l0 im) l0=im∧ ∀l b',H'.get l=some b'→(l=l0∧b'=b)∨(H.get l=some b'∧(ι.add l0 im) l=ι l):=by
 have hsame: ∀l,H.D l→(ι.add l0 im) l=ι l:=fun l hl=>by unfold Ren.add;rw [if_neg (fun e:l=l0=>hfr (by rw [←e];exact hl))]
 have hnw:(ι.add l0 im) l0=im:=by simp [Ren.add]
 have hsub: ∀l,H.D l→H'.D l:=fun l hl=>(hD l).2 (.inl hl)
 have key: ∀l b',H'.get l=some b'→(l=l0∧b'=b)∨(H.get l=some b'∧(ι.add l0 im) l=ι l):=fun l b' hb'=>by
  rw [hget]at hb'
  split at hb'
  ·exact .inl ⟨‹_›,(Option.some.inj hb').symm⟩
  ·exact .inr ⟨hb',hsame l (h.live hb')⟩
 have ne: ∀l b',H.get l=some b'→(ι l).blk≠im.blk:=fun l b' hb e=>by
  rcases hk with hk|hk
  ·exact hS l b' hb (e▸hk)
  ·have:=h.lt hb;omega
 refine⟨⟨hdom,hhol,fun l b' hb'=>?_,fun l l' b1 b2 h1 h2 hrw1 hne=>?_,fun g hg=>?_⟩,hsub,hsame,hnw,key⟩
 ·rcases key l b' hb' with⟨rfl,rfl⟩|⟨h1,h2⟩
  ·rw [hnw];exact hbr.mono hsub hsame
  ·rw [h2,hch.block _ (h.lt h1) (hS l b' h1)];exact(h.br l b' h1).mono hsub hsame
 ·rcases key l b1 h1 with⟨rfl,rfl⟩|⟨g1,g2⟩<;>rcases key l' b2 h2 with⟨rfl,rfl⟩|⟨g3,g4⟩
  ·exact absurd rfl hne
  ·rw [hnw,g4];exact(ne l' b2 g3).symm
  ·rw [hnw,g2];exact ne l b1 g1
  ·rw [g2,g4];exact h.sep l l' b1 b2 g1 g3 hrw1 hne
 ·rw [hng]at hg
  obtain⟨e1,e2,e3⟩:=h.pin g hg
  refine⟨by rw [hbase,hch.block g e2 (hp g hg)];exact e1,Nat.lt_of_lt_of_le e2 hch.size,?_⟩
  rintro⟨l,b',hb',hrw',e⟩
  rcases key l b' hb' with⟨rfl,rfl⟩|⟨h1,h2⟩
  ·rw [hnw]at e
   rcases hk with hk|hk
   ·exact hp g hg (e▸hk)
   ·omega
  ·exact e3 ⟨l,b',h1,hrw',by rw [←h2];exact e⟩
theorem rel_laid (h:Rel P H ι w) {b:LB} {im:Im} {l0:Nat} {w':World} (hnew:NewAt P H.D ι b w w' im)
  {H':LH} (hget: ∀k,H'.get k=if k=l0 then some b else H.get k) (hD: ∀k,H'.D k↔H.D k∨k=l0) (hfr: ¬H.D l0) (hdom: ∀l,H'.n≤l→H'.get l=none) (hhol: ∀l,H'.hole l→l<H'.n∧H'.get l=none) (hn:H.n≤H'.n) (hbase:H'.base=H.base) (hng:H'.ng=H.ng):
  Out P H ι w H' (ι.add l0 im) w':=by
 obtain⟨hch,him,hbr⟩:=hnew
 obtain⟨hrel,hsub,hsame,hnw,key⟩:=rel_lay h hch (fun _ _ _ h=>h) (fun _ _ h=>h) (.inr (Nat.le_of_eq him.symm)) hbr hget hD hfr hdom hhol hbase hng
 refine⟨hrel,hn,hsub,hsame,hch.mono (fun _ _ h=>h.elim),?_,?_,hng⟩
 ·rintro k ⟨l,b',hb',hrw',rfl⟩
  rcases key l b' hb' with⟨rfl,rfl⟩|⟨h1,h2⟩
  ·right;rw [hnw,him];exact Nat.le_refl _
  ·left;rw [h2];exact⟨l,b',h1,hrw',rfl⟩
 ·rintro k ⟨l,b',hb',rfl⟩
  rcases key l b' hb' with⟨rfl,rfl⟩|⟨h1,h2⟩
  ·right;rw [hnw,him];exact Nat.le_refl _
  ·left;rw [h2];exact⟨l,b',h1,rfl⟩
theorem Rel.top (h:Rel P H ι w): ¬H.hole H.n:=fun hh=>Nat.lt_irrefl _ (h.hol _ hh).1
theorem D_new (h:Rel P H ι w) {b:LB} (k:Nat):(H.new b).D k↔H.D k∨k=H.n:=by
 have:=h.top
 show k<H.n+1∧ ¬H.hole k↔_
 unfold LH.D
 constructor
 ·rintro⟨h1,h2⟩
  rcases Nat.lt_or_ge k H.n with h3|h3
  ·exact .inl ⟨h3,h2⟩
  ·exact .inr (by omega)
 ·rintro(⟨h1,h2⟩|rfl)
  ·exact⟨by omega,h2⟩
  ·exact⟨by omega,this⟩
theorem dom_new (h:Rel P H ι w) {b:LB} :(∀l,(H.new b).n≤l→(H.new b).get l=none)∧(∀l,(H.new b).hole l→l<(H.new b).n∧(H.new b).get l=none)∧ ¬H.D H.n:=by
 refine⟨fun l hl=>?_,fun l hl=>?_,fun hd=>Nat.lt_irrefl _ hd.1⟩
 ·show(if l=H.n then some b else H.get l)=none
  have:H.n+1≤l:=hl
  rw [if_neg (by omega)]
  exact h.dom l (by omega)
 ·have h1:H.hole l:=hl
  obtain⟨h2,h3⟩:=h.hol l h1
  refine⟨Nat.lt_succ_of_lt h2,?_⟩
  show(if l=H.n then some b else H.get l)=none
  rw [if_neg (by omega),h3]
theorem rel_new (h:Rel P H ι w) {b:LB} {im:Im} {w':World} (hnew:NewAt P H.D ι b w w' im):Out P H ι w (H.new b) (ι.add H.n im) w'∧(H.new b).D H.n∧(ι.add H.n im) H.n=im:=
 let ⟨h1,h2,h3⟩:=dom_new h (b:=b)
 ⟨rel_laid h hnew (fun _=>rfl) (D_new h) h3 h1 h2 (Nat.le_succ _) rfl rfl,(D_new h _).2 (.inr rfl),by simp [Ren.add]⟩
theorem ElOk.free {e t:TypeId} {f:Nat×Nat} {n k:Nat} (h:ElOk P e t f n) (hk:k<n): ¬(f.1≤k∧k<f.2):=by
 rcases h with⟨_,rfl⟩|⟨_,_,rfl|rfl⟩
 ·simp
 ·simp only;omega
 ·simp
theorem rel_setG (h:Rel P H ι w) {l:Nat} {b b':LB} (hb:H.get l=some b) (hrw:b.rw=true) {w':World} (hbr:BR P H.D ι b' (ι l) w'.heap[(ι l).blk]?) (hch:Change (fun k=>k=(ι l).blk) w w'):Out P H ι w (H.set l b') ι w':=by
 have key: ∀m c,(H.set l b').get m=some c→(m=l∧c=b')∨(m≠l∧H.get m=some c):=fun m c hk=>by
  change (if m=l then some b' else H.get m)=some c at hk
  split at hk
  ·exact .inl ⟨‹_›,(Option.some.inj hk).symm⟩
  ·exact .inr ⟨‹_›,hk⟩
 have hrwk: ∀k,RW (H.set l b') ι k→RW H ι k∨w.heap.size≤k:=by
  rintro k ⟨m,c,hk,hc1,rfl⟩
  rcases key m c hk with⟨rfl,rfl⟩|⟨_,h1⟩
  ·exact .inl ⟨m,b,hb,hrw,rfl⟩
  ·exact .inl ⟨m,c,h1,hc1,rfl⟩
 have hch2:Change (RW H ι) w w':=hch.mono (fun k _ hk=>⟨l,b,hb,hrw,hk.symm⟩)
 have himg: ∀k,Img (H.set l b') ι k→Img H ι k∨w.heap.size≤k:=by
  rintro k ⟨m,c,hk,rfl⟩
  rcases key m c hk with⟨rfl,rfl⟩|⟨_,h1⟩
  ·exact .inl ⟨m,b,hb,rfl⟩
  ·exact .inl ⟨m,c,h1,rfl⟩
 refine⟨⟨fun k hk=>?_,fun k hk=>⟨(h.hol k hk).1,?_⟩,fun k c hk=>?_,fun k k' c c' h1 h2 h3 hne=>?_,pin_step h hch2 hrwk rfl rfl⟩,Nat.le_refl _,fun _ h=>h,fun _ _=>rfl,hch2,hrwk,himg,rfl⟩
 ·show(if k=l then some b' else H.get k)=none
  have:=(h.live hb).1
  have hk':H.n≤k:=hk
  rw [if_neg (by omega)]
  exact h.dom k hk
 ·show(if k=l then some b' else H.get k)=none
  rw [if_neg (fun e:k=l=>(h.live hb).2 (by rw [←e];exact hk))]
  exact(h.hol k hk).2
 ·rcases key k c hk with⟨rfl,rfl⟩|⟨hne,h1⟩
  ·exact hbr
  ·rw [hch.block _ (h.lt h1) (h.sep l k b c hb h1 hrw (fun e=>hne e.symm)).symm];exact h.br k c h1
 ·rcases key k c h1 with⟨rfl,rfl⟩|⟨n1,g1⟩<;>rcases key k' c' h2 with⟨rfl,rfl⟩|⟨n2,g2⟩
  ·exact absurd rfl hne
  ·exact h.sep k k' b c' hb g2 hrw hne
  ·exact h.sep k k' c b g1 hb h3 hne
  ·exact h.sep k k' c c' g1 g2 h3 hne
theorem rel_setF (h:Rel P H ι w) {l:Nat} {b b':LB} (hb:H.get l=some b) (h0:(ι l).off=0) (hrw:b.rw=true) (hlen:b'.cells.length=b.cells.length)
  {arr arr':Array Value} {t:TypeId} {f f':Nat×Nat} (hE:ElOk P b'.elem t f' arr'.size) (hw:w.heap[(ι l).blk]?=some (.cells arr t f)) (hsz:arr'.size=arr.size) (hc: ∀(i:Nat) x,b'.cells[i]?=some x→ ∃y,arr'[i]?=some y∧VR H.D ι x y)
  {w':World} (hw':w'.heap[(ι l).blk]?=some (.cells arr' t f')) (hch:Change (fun k=>k=(ι l).blk) w w'):Out P H ι w (H.set l b') ι w':=by
 obtain⟨arr0,t0,f0,hw0,h1,h2,h3⟩:=h.blk hb h0
 obtain⟨g1,g2,s,g4,g5,g6⟩:=h3 hrw
 rw [hw]at hw0
 injection hw0 with hw0
 injection hw0 with e1 e2 e3
 subst e1 e2 e3
 exact rel_setG h hb hrw (.inl ⟨h0,arr',t,f',hw',by rw [hlen,hsz];exact h1,fun i x hx=>by rw [g1,Nat.zero_add];exact hc i x hx,fun _=>⟨g1,hE,s,g4,by rw [hsz,hlen];exact g5,by rw [hlen];exact g6⟩⟩) hch
theorem rel_set (h:Rel P H ι w) {l:Nat} {b b':LB} (hb:H.get l=some b) (h0:(ι l).off=0) (hrw:b.rw=true) (he:b'.elem=b.elem) (hlen:b'.cells.length=b.cells.length)
  {arr arr':Array Value} {t:TypeId} {f:Nat×Nat} (hw:w.heap[(ι l).blk]?=some (.cells arr t f)) (hsz:arr'.size=arr.size) (hc: ∀(i:Nat) x,b'.cells[i]?=some x→ ∃y,arr'[i]?=some y∧VR H.D ι x y)
  {w':World} (hw':w'.heap[(ι l).blk]?=some (.cells arr' t f)) (hch:Change (fun k=>k=(ι l).blk) w w'):Out P H ι w (H.set l b') ι w':=by
 obtain⟨arr0,t0,f0,hw0,h1,h2,h3⟩:=h.blk hb h0
 obtain⟨g1,g2,_⟩:=h3 hrw
 rw [hw]at hw0
 injection hw0 with hw0
 injection hw0 with e1 e2 e3
 subst e1 e2 e3
 exact rel_setF h hb h0 hrw hlen (by rw [he,hsz];exact g2) hw hsz hc hw' hch
theorem run_storeCells_fr {P:Program} (g o:Nat) (t:TypeId) (f:Nat×Nat): ∀(vs:List Value) (i:Nat) (cur:Array Value) (w:World),w.heap[g]?=some (.cells cur t f)→(∀k,k<cur.size→ ¬(f.1≤k∧k<f.2))→o+i+vs.length≤cur.size→(∀v∈vs,v.oneCell'=true)→
  (storeCells ⟨g,o,none⟩ vs i).run P w=.ok () (w.setRow g (cur.toList.take (o+i)++vs++cur.toList.drop (o+i+vs.length)).toArray)
 | [],i,cur,w,hg,_,_,_=>by
  simp only [storeCells,List.append_nil,List.length_nil,Nat.add_zero,List.take_append_drop,Array.toArray_toList]
  rw [setRow_self w g cur t f hg]
  rfl
 |v::rest,i,cur,w,hg,hf,hl,h1=>by
  have hi:o+i<cur.size:=by simp at hl;omega
  have hadd:(⟨g,o,none⟩:Addr).add i=⟨g,o+i,none⟩:=by unfold Addr.add;split<;>simp_all
  have hcell:w.cell? ⟨g,o+i,none⟩=some cur[o+i]:=by simp [World.cell?,hg,hi]
  have hfro:w.frozen? ⟨g,o+i,none⟩=false:=by
   have:=hf _ hi
   obtain⟨a,b⟩:=f
   simp only at this
   simp [World.frozen?,hg]
   omega
  have hst:(store ((⟨g,o,none⟩:Addr).add i) v).run P w=.ok () (w.setRow g (cur.setIfInBounds (o+i) v)):=by
   rw [hadd,run_store P w _ v _ (h1 v (by simp)),hcell]
   simp [hfro,setCell_eq_setRow w g (o+i) cur t f v hg]
  have ih:=run_storeCells_fr (P:=P) g o t f rest (i+1) (cur.setIfInBounds (o+i) v) (w.setRow g (cur.setIfInBounds (o+i) v)) (setRow_heap w g cur _ t _ hg) (by simpa using hf) (by simp at hl⊢;omega) (fun x hx=>h1 x (by simp [hx]))
  simp only [storeCells,Sem.run_bind,hst,Result.andThen_ok,ih,setRow_setRow]
  congr 3
  have e:=list_seg_step cur.toList (o+i) v rest (by simp at hl⊢;omega)
  simpa [Array.toList_setIfInBounds,Nat.add_assoc]using e
theorem splice_length {cs vs:List Value} {o:Nat} (h:o+vs.length≤cs.length):(splice cs o vs).length=cs.length:=by
 simp [splice];omega
theorem splice_get {cs vs:List Value} {o:Nat} (h:o+vs.length≤cs.length) (i:Nat):(splice cs o vs)[i]?=if i<o then cs[i]? else if i<o+vs.length then vs[i-o]? else cs[i]?:=by
 unfold splice
 rw [List.append_assoc,List.getElem?_append,List.length_take,Nat.min_eq_left (by omega)]
 split
 ·rw [List.getElem?_take,if_pos ‹_›]
 ·rw [List.getElem?_append]
  split
  ·rw [if_pos (by omega)]
  ·rw [if_neg (by omega),List.getElem?_drop]
   congr 1;omega
theorem setRow_change {w:World} {g:Nat} (cs:Array Value):Change (fun k=>k=g) w (w.setRow g cs):=by
 refine⟨rfl,rfl,rfl,by simp [World.setRow],fun k hk hne=>?_⟩
 simp only [World.setRow,Array.getElem?_modify]
 rw [if_neg (by omega)]
theorem row_out (h:Rel P H ι w) {l o:Nat} {b:LB} {vs us:List Value} {arr:Array Value} (hb:H.get l=some b) (h0:(ι l).off=0) (hrw:b.rw=true) (hle:o+vs.length≤b.cells.length) (hlen:us.length=vs.length)
  (hv: ∀(i:Nat) x y,vs[i]?=some x→us[i]?=some y→VR H.D ι x y) {t0:TypeId} {f0:Nat×Nat} (hw:w.heap[(ι l).blk]?=some (.cells arr t0 f0)) (hin:o+us.length≤arr.size):
  Out P H ι w (H.set l { b with cells:=splice b.cells o vs }) ι (w.setRow (ι l).blk (splice arr.toList o us).toArray):=by
 obtain⟨arr1,t,f,hw1,h1,h2,h3⟩:=h.blk hb h0
 obtain⟨g1,g2,s,g4,g5,g6⟩:=h3 hrw
 rw [hw]at hw1
 injection hw1 with hw1
 injection hw1 with e1 e2 e3
 subst e1
 have hin':o+us.length≤arr.toList.length:=by simpa using hin
 have hsz:(splice arr.toList o us).toArray.size=arr.size:=by simp [splice_length hin']
 refine rel_set (b':= { b with cells:=splice b.cells o vs }) h hb h0 hrw rfl (splice_length hle) hw hsz (fun i x hx=>?_) ?_ (setRow_change _)
 ·have hx':=hx
  simp only at hx'
  rw [splice_get hle]at hx'
  have ha:=splice_get (cs:=arr.toList) (vs:=us) (o:=o) hin' i
  rw [List.getElem?_toArray,ha]
  by_cases c1:i<o
  ·rw [if_pos c1]at hx'⊢
   obtain⟨y,hy,hv'⟩:=h2 i x hx'
   rw [g1,Nat.zero_add]at hy
   exact⟨y,by simpa using hy,hv'⟩
  ·rw [if_neg c1]at hx'⊢
   by_cases c2:i<o+vs.length
   ·rw [if_pos c2]at hx'
    rw [if_pos (by omega)]
    have:i-o<us.length:=by omega
    exact⟨us[i-o],List.getElem?_eq_getElem this,hv _ _ _ hx' (List.getElem?_eq_getElem this)⟩
   ·rw [if_neg c2]at hx'
    rw [if_neg (by omega)]
    obtain⟨y,hy,hv'⟩:=h2 i x hx'
    rw [g1,Nat.zero_add]at hy
    exact⟨y,by simpa using hy,hv'⟩
 ·simp only [World.setRow,Array.getElem?_modify,hw]
  simp
theorem row_sound (h:Rel P H ι w) {l o:Nat} {b:LB} {vs us:List Value} (hb:H.get l=some b) (h0:(ι l).off=0) (hrw:b.rw=true) (hle:o+vs.length≤b.cells.length) (hlen:us.length=vs.length)
  (hv: ∀(i:Nat) x y,vs[i]?=some x→us[i]?=some y→VR H.D ι x y) (hone: ∀u∈us,u.oneCell'=true):
  ∃w',(storeCells ⟨(ι l).blk,(ι l).off+o,none⟩ us).run P w=.ok () w'∧Out P H ι w (H.set l { b with cells:=splice b.cells o vs }) ι w':=by
 obtain⟨arr,t,f,hw,h1,h2,h3⟩:=h.blk hb h0
 obtain⟨g1,g2,s,g4,g5,g6⟩:=h3 hrw
 rw [g1]at h1⊢
 have hfr: ∀k,k<arr.size→ ¬(f.1≤k∧k<f.2):=fun k hk=>by
  exact g2.free hk
 have hrun:=run_storeCells_fr (P:=P) (ι l).blk (0+o) t f us 0 arr w hw hfr (by omega) hone
 refine⟨_,hrun,?_⟩
 have:=row_out h hb h0 hrw hle hlen hv hw (by omega)
 have e:(arr.toList.take (0+o+0)++us++arr.toList.drop (0+o+0+us.length))=splice arr.toList o us:=by simp [splice]
 rw [e]
 exact this
theorem store_sound (h:Rel P H ι w) {t:TypeId} {l off:Nat} (h0:(ι l).off=0) (hv:VR H.D ι v v') (hl:lstore P t l off v H=some H'):
  ∃w',(storeVar t ⟨(ι l).blk,(ι l).off+off,none⟩ v').run P w=.ok () w'∧Out P H ι w H' ι w':=by
 unfold lstore at hl
 split at hl
 ·rename_i b s hb hs
  split at hl
  ·rename_i hc
   simp only [Bool.and_eq_true,beq_iff_eq,decide_eq_true_eq,List.all_eq_true]at hc
   obtain⟨⟨⟨c1,c2⟩,c3⟩,c4⟩:=hc
   simp only [Option.some.injEq]at hl
   subst hl
   have hk:knownB v=true:=by
    cases v<;>first|rfl|skip
    rename_i r
    have:=c3 (.chan r) (by simp [Value.cells])
    simp [cellB]at this
   obtain⟨k1,k2⟩:=vr_cells hv hk
   obtain⟨w',hr,ho⟩:=row_sound (o:=off) (vs:=v.cells.toList) (us:=v'.cells.toList) h hb h0 c1 c4 (by simp [k1]) (fun i x y hx hy=>k2 i x y (by simpa using hx) (by simpa using hy))
    (fun u hu=>by
     obtain⟨i,hi⟩:=List.getElem?_of_mem hu
     have hlt:i<v.cells.size:=by rw [k1];simpa using(List.getElem?_eq_some_iff.1 hi).1
     have hx:v.cells[i]?=some v.cells[i]:=Array.getElem?_eq_getElem hlt
     exact cell_one (k2 i _ u hx (by simpa using hi)) (c3 _ (by simp)))
   refine⟨w',?_,ho⟩
   unfold storeVar
   have hz:v'.cells.size=s:=by rw [←k1,←c2];simp
   simp only [Sem.run_bind,run_sizeOf' hs,Result.andThen_ok,hz,ne_eq,not_true_eq_false,if_false]
   exact hr
  ·cases hl
 ·cases hl
end
def CallOk (P:Program) (f:FuncId) (args:List Value) (H:LH) (v:Value) (H':LH):Prop:=
 ∀(ι:Ren) (w:World) (args':Array Value),Rel P H ι w→args.length=args'.size→(∀(i:Nat) (x y:Value),args[i]?=some x→args'[i]?=some y→VR H.D ι x y)→
  Calls P f args' w (fun e w'=> ∃ι' v',e=.returned v'∧Out P H ι w H' ι' w'∧VR H'.D ι' v v')
def Entered (P:Program) (f:FuncId):Prop:= ∃fn,P.funcs[f]?=some fn∧fn.body.isSome=true∧fn.name≠ "runtime.NumGoroutine"
def ExtRun (P:Program) (f:FuncId) (args:List Value) (v:Value):Prop:=(∀x∈args,flatB x=true)∧flatB v=true∧ ∀w,(callFunc f args.toArray).run P w=.ok (.value v) w
def Ran (P:Program) (f:FuncId) (args:List Value) (H:LH) (v:Value) (H':LH):Prop:=(Entered P f∧CallOk P f args H v H')∨(H'=H∧ExtRun P f args v)
theorem Ran.call {P:Program} {f:FuncId} {args:List Value} {H H':LH} {v:Value} (h:Ran P f args H v H') (he:Entered P f):CallOk P f args H v H':=by
 rcases h with⟨_,h⟩|⟨_,_,_,h⟩
 ·exact h
 ·obtain⟨fn,hf,hb,hn⟩:=he
  have h1:(fn.name== "runtime.NumGoroutine")=false:=by simpa using hn
  have h2:fn.body.isNone=false:=by cases hq:fn.body<;>simp_all
  have h3:=h default
  unfold callFunc at h3
  have hp:(program).run P default=.ok P default:=rfl
  simp only [Sem.run_bind,hp,Result.andThen_ok,hf,h1,h2,Bool.false_eq_true,if_false,Sem.run_pure]at h3
  injection h3 with h3
  cases h3
def TOk (P:Program) (T:Callee):Prop:= ∀f args H v H',T f args H=some (v,H')→Ran P f args H v H'
section
variable {P:Program} {T:Callee} {H H':LH} {ι:Ren} {o:Oper} {a:Act} {w:World} {v v':Value} {N:Nat} {fr:Fr}
theorem vr_bool {n:Nat→Prop} {b:Bool} (h:VR n ι (.bool b) v'):v'=.bool b:=flat_eq h rfl
theorem vr_int {n:Nat→Prop} {k:IntKind} {i:Int} (h:VR n ι (.int k i) v'):v'=.int k i:=flat_eq h rfl
theorem vr_isNone {n:Nat→Prop} {b:Option Addr} (h:VR n ι (.pointer b) v'): ∃b',v'=.pointer b'∧b'.isNone=b.isNone:=by
 cases h with
 |flat _ hv=>exact⟨b,rfl,rfl⟩
 |ptr _ _ hl=>exact⟨_,rfl,rfl⟩
theorem vr_slice {n:Nat→Prop} {b:Option Addr} {k c:Nat} (h:VR n ι (.slice b k c) v'): ∃b' c',v'=.slice b' k c'∧b'.isNone=b.isNone:=by
 cases h with
 |flat _ hv=>exact⟨b,_,rfl,rfl⟩
 |slice _ _ _ _ hl _=>exact⟨_,_,rfl,rfl⟩
 |slice0 _ _ _ hl=>exact⟨_,_,rfl,rfl⟩
def PureOk (P:Program) (n:Nat→Prop) (ι:Ren) (o:Oper) (a:Act) (v:Value):Prop:= ∃v',VR n ι v v'∧ ∀w:World,(execOp a.eval o).run P w=.ok (.value v') w
def ReadOk (P:Program) (n:Nat→Prop) (ι:Ren) (o:Oper) (a:Act) (w:World) (v:Value):Prop:= ∃v',VR n ι v v'∧ ∀w':World,Change (fun _=>False) w w'→(execOp a.eval o).run P w'=.ok (.value v') w'
theorem pureok {n:Nat→Prop} (hrun: ∀w:World,(execOp a.eval o).run P w=.ok (.value v') w) (hv:VR n ι v v'):PureOk P n ι o a v:=⟨v',hv,hrun⟩
theorem PureOk.read {n:Nat→Prop} (h:PureOk P n ι o a v):ReadOk P n ι o a w v:=let ⟨v',hv,hr⟩:=h;⟨v',hv,fun w' _=>hr w'⟩
theorem ReadOk.opok (h:ReadOk P H.D ι o a w v) (hrel:Rel P H ι w):OpOk P H ι o a w v H:=let ⟨v',hv,hr⟩:=h;opok_value (hr w (Change.refl _ w)) hrel hv
theorem PureOk.opok (h:PureOk P H.D ι o a v) (hrel:Rel P H ι w):OpOk P H ι o a w v H:=h.read.opok hrel
theorem rel_lt (h:Rel P H ι w) {l:Nat} {b:LB} (hb:H.get l=some b):(ι l).blk<w.heap.size:=h.lt hb
theorem move_ok (hfr:FrR H.D ι N fr a.tmps) {x:Operand} (ho:o.op=.move x∨o.op=.assign x):PureOk P H.D ι o a (ev fr x):=by
 refine pureok (v':=a.eval x) (fun w=>?_) (hfr.ev x)
 rcases ho with ho|ho<;>(unfold execOp;simp only [ho];rfl)
theorem pick_ok (hfr:FrR H.D ι N fr a.tmps) {c x y:Operand} {t:Bool} (ho:o.op=.pick c x y) (hc:ev fr c=.bool t):PureOk P H.D ι o a (if t then ev fr x else ev fr y):=by
 have h1:=hfr.ev c
 rw [hc]at h1
 have h2:=vr_bool h1
 refine pureok (v':=if t then a.eval x else a.eval y) (fun w=>?_) ?_
 ·unfold execOp;simp only [ho,h2,asBool,Sem.run_bind,Sem.run_pure,Result.andThen_ok]
 ·cases t
  ·exact hfr.ev y
  ·exact hfr.ev x
theorem load_ok (hrel:Rel P H ι w) (hfr:FrR H.D ι N fr a.tmps) {t:TypeId} {x:Operand} {l off:Nat} (ho:o.op=.load t x) (hx:ev fr x=.pointer (some ⟨l,off,none⟩)) (hl:lload P t l off H=some v):
  ReadOk P H.D ι o a w v:=by
 have h1:=hfr.ev x
 rw [hx]at h1
 obtain⟨⟨_,h0⟩,h2⟩:=vr_ptr h1
 obtain⟨v',hr,hv⟩:=load_sound hrel h0 hl
 have hlt:(ι l).blk<w.heap.size:=by
  unfold lload at hl
  split at hl
  ·exact rel_lt hrel ‹_›
  ·cases hl
 refine⟨v',hv,fun w' hw'=>?_⟩
 unfold execOp;simp only [ho,h2,Instr.loadAt,Instr.sureAddr,Sem.run_bind,Sem.run_pure,Result.andThen_ok,hr w' (hw'.block _ hlt (fun h=>h))]
theorem store_ok (hrel:Rel P H ι w) (hfr:FrR H.D ι N fr a.tmps) {t:TypeId} {x y:Operand} {l off:Nat} (ho:o.op=.store t x y) (hx:ev fr x=.pointer (some ⟨l,off,none⟩)) (hl:lstore P t l off (ev fr y) H=some H'):
  OpOk P H ι o a w undef H':=by
 have h1:=hfr.ev x
 rw [hx]at h1
 obtain⟨⟨_,h0⟩,h2⟩:=vr_ptr h1
 obtain⟨w',hr,hout⟩:=store_sound hrel h0 (hfr.ev y) hl
 refine opok_skip (w':=w') ?_ hout
 unfold execOp;simp only [ho,h2,Instr.storeAt,Instr.sureAddr,Sem.run_bind,Sem.run_pure,Result.andThen_ok,hr]
theorem flat_cells {z:Value} (hz:flatB z=true) (n:Nat→Prop) (ι:Ren) (hk:knownB z=true) {i:Nat} {x:Value} (hx:z.cells[i]?=some x):VR n ι x x:=
 (vr_cells (n:=n) (ι:=ι) (.flat z hz) hk).2 i x x hx hx
theorem flat_known {z:Value} (hz:flatB z=true):knownB z=true:=by
 cases z<;>first|rfl|(simp [flatB,flat1B,atomB]at hz)
theorem nilCheck_ok (hfr:FrR H.D ι N fr a.tmps) {x:Operand} {ad:Addr} (ho:o.op=.nilCheck x) (hx:ev fr x=.pointer (some ad)):PureOk P H.D ι o a (.pointer (some ad)):=by
 have h1:=hfr.ev x
 rw [hx]at h1
 refine pureok (v':=a.eval x) (fun w=>?_) h1
 unfold execOp;simp only [ho]
 generalize a.eval x=y at*
 cases h1 with
 |flat _ hv=>simp [flatB,flat1B,atomB]at hv
 |ptr l off hl _=>rfl
theorem nilCheckF_ok (hfr:FrR H.D ι N fr a.tmps) {x:Operand} {g:FuncId} {c d:Array Value} (ho:o.op=.nilCheck x) (hx:ev fr x=.func (.func g) c d):PureOk P H.D ι o a (.func (.func g) c d):=by
 have h1:=hfr.ev x
 rw [hx]at h1
 refine pureok (v':=a.eval x) (fun w=>?_) h1
 unfold execOp;simp only [ho]
 generalize a.eval x=y at*
 cases h1 with
 |flat _ hv=>rfl
 |func fn _ b _ d h1 h2 h3 h4=>rfl
theorem fieldAddr_ok (hfr:FrR H.D ι N fr a.tmps) {s:TypeId} {x:Operand} {f l off m:Nat} {fs:Array Field} {fd:Field} (ho:o.op=.fieldAddr s x f) (hx:ev fr x=.pointer (some ⟨l,off,none⟩))
  (hu:P.underlying s=some (.struct fs)) (hf:fs[f]?=some fd) (hs:sz P fd.type=some m) (hm:m≠0):PureOk P H.D ι o a (.pointer (some ⟨l,off+fd.offset,none⟩)):=by
 have h1:=hfr.ev x
 rw [hx]at h1
 obtain⟨hl,h2⟩:=vr_ptr h1
 refine pureok (v':=.pointer (some ⟨(ι l).blk,(ι l).off+(off+fd.offset),none⟩)) (fun w=>?_) (.ptr l _ hl.1 hl.2)
 unfold execOp;simp only [ho,h2,Instr.fieldAt,Instr.sureAddr,Sem.run_bind,run_underlying hu,Sem.run_pure,Result.andThen_ok,hf,fieldPlace,run_sizeOf' hs,if_neg hm,addr_add,Nat.add_assoc]
theorem indexAddr_ok (hfr:FrR H.D ι N fr a.tmps) {t e:TypeId} {x i:Operand} {l off n c m:Nat} {kd:IntKind} {k:Int} (ho:o.op=.indexAddr t x i) (hx:ev fr x=.slice (some ⟨l,off,none⟩) n c)
  (hi:ev fr i=.int kd k) (hu:P.underlying t=some (.slice e)) (hs:sz P e=some m) (hk:0≤k∧k<n):PureOk P H.D ι o a (.pointer (some ⟨l,off+k.toNat*m,none⟩)):=by
 have h1:=hfr.ev x
 rw [hx]at h1
 have h2:=hfr.ev i
 rw [hi]at h2
 have h3:=vr_int h2
 generalize hy:a.eval x=y at*
 cases h1 with
 |flat _ hv=>simp [flatB,flat1B,atomB]at hv
 |slice0=>omega
 |slice _ _ _ _ hl h0 hc=>
  refine pureok (v':=.pointer (some ⟨(ι l).blk,(ι l).off+(off+k.toNat*m),none⟩)) (fun w=>?_) (.ptr l _ hl h0)
  unfold execOp;simp only [ho,hy,h3,Instr.indexAt,asIntOf,Sem.run_bind,run_underlying hu,Sem.run_pure,Result.andThen_ok,run_sizeOf' hs,if_pos hk,addr_add,Nat.add_assoc]
theorem extract_ok (hfr:FrR H.D ι N fr a.tmps) {x:Operand} {i:Nat} {vs:Array Value} (ho:o.op=.extract x i) (hx:ev fr x=.tuple vs) (hv:vs[i]?=some v):PureOk P H.D ι o a v:=by
 have h1:=hfr.ev x
 rw [hx]at h1
 obtain⟨ds,h2,h3,h4⟩:=vr_tuple h1
 have hlt:i<ds.size:=by rw [←h3];exact(Array.getElem?_eq_some_iff.1 hv).1
 have h5:=Array.getElem?_eq_getElem hlt
 refine pureok (v':=ds[i]) (fun w=>?_) (h4 i _ _ hv h5)
 unfold execOp;simp only [ho,h2,Instr.extract,Sem.run_bind,h5,Sem.run_pure,Result.andThen_ok]
theorem field_ok (hfr:FrR H.D ι N fr a.tmps) {t:TypeId} {x:Operand} {f:Nat} {cs:Array Value} {fs:Array Field} {fd:Field} (ho:o.op=.field t x f) (hx:ev fr x=.agg cs)
  (hu:P.underlying t=some (.struct fs)) (hf:fs[f]?=some fd)
  (hr:(∃s,aggB P fd.type=some true∧sz P fd.type=some s∧v=.agg (cs.extract fd.offset (fd.offset+s)))∨(aggB P fd.type=some false∧cs[fd.offset]?=some v)):PureOk P H.D ι o a v:=by
 have h1:=hfr.ev x
 rw [hx]at h1
 obtain⟨ds,h2,h3,h4⟩:=vr_agg h1
 rcases hr with⟨s,ha,hs,rfl⟩|⟨ha,hv⟩
 ·refine pureok (v':=.agg (ds.extract fd.offset (fd.offset+s))) (fun w=>?_) (.agg _ _ (by simp [h3]) (fun i p q hp hq=>?_))
  ·unfold execOp;simp only [ho,h2,Instr.field,asAgg,Sem.run_bind,run_underlying hu,hf,Sem.run_pure,Result.andThen_ok,part,run_isAgg ha,if_true,run_sizeOf' hs]
  ·rw [Array.getElem?_extract]at hp hq
   split at hp
   ·rename_i c1
    split at hq
    ·exact h4 _ _ _ hp hq
    ·cases hq
   ·cases hp
 ·have hlt:fd.offset<ds.size:=by rw [←h3];exact(Array.getElem?_eq_some_iff.1 hv).1
  have h5:=Array.getElem?_eq_getElem hlt
  refine pureok (v':=ds[fd.offset]) (fun w=>?_) (h4 _ _ _ hv h5)
  unfold execOp;simp only [ho,h2,Instr.field,asAgg,Sem.run_bind,run_underlying hu,hf,Sem.run_pure,Result.andThen_ok,part,run_isAgg ha,if_false,Bool.false_eq_true,h5]
theorem map_rel (hfr:FrR H.D ι N fr a.tmps) (d:Array Operand): ∀(i:Nat) (p q:Value),(d.map (ev fr))[i]?=some p→(d.map a.eval)[i]?=some q→VR H.D ι p q:=by
 intro i p q hp hq
 rw [Array.getElem?_map]at hp hq
 cases hd:d[i]? with
 |none=>simp [hd]at hp
 |some y=>
  simp only [hd,Option.map_some,Option.some.injEq]at hp hq
  rw [←hp,←hq];exact hfr.ev y
theorem makeFunc_ok (hfr:FrR H.D ι N fr a.tmps) {g:FuncId} {c d:Array Operand} (ho:o.op=.makeFunc (.func g) c d):PureOk P H.D ι o a (.func (.func g) (c.map (ev fr)) (d.map (ev fr))):=by
 refine pureok (v':=.func (.func g) (c.map a.eval) (d.map a.eval)) (fun w=>?_) (.func _ _ _ _ _ (by simp) (by simp) (map_rel hfr c) (map_rel hfr d))
 unfold execOp;simp only [ho,Instr.makeFunc];simp [Sem.run_bind,Sem.run_pure,Result.andThen_ok]
theorem flatEv (hfr:FrR H.D ι N fr a.tmps) {x:Operand} (hx:flatB (ev fr x)=true):a.eval x=ev fr x:=flat_eq (hfr.ev x) hx
theorem pureFlat_spec {s:Sem Value} (h:pureFlat P s=some v):pureVal P s=some v∧flatB v=true:=by
 unfold pureFlat at h
 split at h
 ·split at h
  ·injection h with h;subst h;exact⟨‹_›,‹_›⟩
  ·cases h
 ·cases h
theorem unOp_ok (hfr:FrR H.D ι N fr a.tmps) {op:UnOp} {t:TypeId} {x:Operand} (ho:o.op=.unOp op t x) (hx:flatB (ev fr x)=true) (hv:pureFlat P (Op.unary op (ev fr x))=some v):PureOk P H.D ι o a v:=by
 obtain⟨hv,hf⟩:=pureFlat_spec hv
 refine pureok (v':=v) (fun w=>?_) (.flat _ hf)
 unfold execOp;simp only [ho,flatEv hfr hx,Sem.run_bind,pureVal_run hv,Sem.run_pure,Result.andThen_ok]
theorem convert_ok (hfr:FrR H.D ι N fr a.tmps) {s d:TypeId} {x:Operand} (ho:o.op=.convert s d x) (hx:flatB (ev fr x)=true) (hv:pureFlat P (convert s d (ev fr x))=some v):PureOk P H.D ι o a v:=by
 obtain⟨hv,hf⟩:=pureFlat_spec hv
 refine pureok (v':=v) (fun w=>?_) (.flat _ hf)
 unfold execOp;simp only [ho,flatEv hfr hx,Sem.run_bind,pureVal_run hv,Sem.run_pure,Result.andThen_ok]
theorem bytes_nums: ∀(cs:List Value) (bs:List UInt8),cs.mapM lbyte=some bs→ ∃ns:List Int,cs=ns.map (Value.int .u8)∧bs=ns.map fun n=>UInt8.ofNat n.toNat
 | [],bs,h=>by
  simp only [List.mapM_nil,Option.pure_def,Option.some.injEq]at h
  exact⟨[],rfl,h.symm⟩
 |u::us,bs,h=>by
  simp only [List.mapM_cons,Option.bind_eq_bind,Option.pure_def]at h
  cases hu:lbyte u with
  |none=>simp [hu]at h
  |some x=>
   simp only [hu,Option.bind_some]at h
   cases hus:us.mapM lbyte with
   |none=>simp [hus]at h
   |some xs=>
    simp only [hus,Option.bind_some,Option.some.injEq]at h
    subst h
    obtain⟨ns,rfl,rfl⟩:=bytes_nums us xs hus
    unfold lbyte at hu
    split at hu
    ·rename_i n
     injection hu with hu
     subst hu
     exact⟨n::ns,rfl,rfl⟩
    ·cases hu
theorem push_fold: ∀(ns:List Int) (s:ByteArray),ns.foldl (fun r n=>r.push (UInt8.ofNat n.toNat)) s=⟨s.data++(ns.map fun n=>UInt8.ofNat n.toNat).toArray⟩
 | [],s=>by cases s;simp
 |n::ns,s=>by
  rw [List.foldl_cons,push_fold ns]
  cases s;simp [ByteArray.push]
theorem bstr_ok (hrel:Rel P H ι w) (hfr:FrR H.D ι N fr a.tmps) {s d:TypeId} {x:Operand} (ho:o.op=.convert s d x) (hv:lbstr P s d (ev fr x) H=some v):ReadOk P H.D ι o a w v:=by
 have hx:=hfr.ev x
 unfold lbstr at hv
 split at hv
 ·rename_i e l off n c hs hd e1
  rw [e1]at hx
  split at hv
  ·rename_i he
   split at hv
   ·rename_i b hb
    split at hv
    ·rename_i cs hcs
     obtain⟨bs,hbs,rfl⟩:=Option.map_eq_some_iff.1 hv
     obtain⟨ns,rfl,rfl⟩:=bytes_nums cs bs hbs
     simp only [lcells]at hcs
     split at hcs
     ·rename_i hle
      simp only [Option.some.injEq]at hcs
      have hlen:ns.length=n:=by
       have:=congrArg List.length hcs
       simp at this;omega
      have conv: ∀(ad:Addr) (cp:Nat),(∀w':World,Change (fun _=>False) w w'→(loadCells ad n).run P w'=.ok (ns.map (Value.int .u8)).toArray w')→a.eval x=.slice (some ad) n cp→ReadOk P H.D ι o a w (.string ⟨(ns.map fun n=>UInt8.ofNat n.toNat).toArray⟩):=by
       intro ad cp hl hy
       refine⟨_,.flat _ rfl,fun w' hw'=>?_⟩
       have hr:=run_bytesToString (P:=P) w' ad n cp ns (hl w' hw')
       rw [push_fold]at hr
       unfold execOp;simp only [ho,hy,convert,Sem.run_bind,run_underlying hs,run_underlying hd,run_underlying he,Result.andThen_ok,hr,Sem.run_pure]
       simp
      generalize hy:a.eval x=y at hx
      cases hx with
      |flat _ hf=>simp [flatB,flat1B,atomB]at hf
      |slice0 _ _ ad hl=>
       have h0:ns= []:=List.eq_nil_of_length_eq_zero hlen
       subst h0
       exact conv ad 0 (fun w' _=>rfl) hy
      |slice _ _ _ _ hl h0 hc=>
       refine conv _ _ (fun w' hw'=>?_) hy
       have:=run_loadCells_list (P:=P) w' ⟨(ι l).blk,(ι l).off+off,none⟩ (ns.map (Value.int .u8)) (fun j u hj=>by
        have hj2:b.cells[off+j]?=some u:=by
         rw [←hcs,List.getElem?_take]at hj
         split at hj
         ·rw [List.getElem?_drop]at hj;exact hj
         ·cases hj
        obtain⟨y,hy,hv⟩:=(hrel.cell hb h0 hj2)
        have hu:y=u:=by
         rw [List.getElem?_map]at hj
         cases hn:ns[j]? with
         |none=>simp [hn]at hj
         |some k=>
          simp only [hn,Option.map_some,Option.some.injEq]at hj
          rw [←hj]at hv⊢
          exact flat_eq hv rfl
        rw [addr_add,World.cell?_of_block (w:=w) (hw'.block _ (rel_lt hrel hb) (fun h=>h)),Nat.add_assoc,hy,hu])
       rw [List.length_map,hlen]at this
       exact this
     ·cases hcs
    ·cases hv
   ·cases hv
  ·cases hv
 ·cases hv
theorem index_ok (hfr:FrR H.D ι N fr a.tmps) {t:TypeId} {x i:Operand} (ho:o.op=.index t x i) (hx:flatB (ev fr x)=true) (hi:flatB (ev fr i)=true) (hv:pureFlat P (Instr.index t (ev fr x) (ev fr i))=some v):PureOk P H.D ι o a v:=by
 obtain⟨hv,hf⟩:=pureFlat_spec hv
 refine pureok (v':=v) (fun w=>?_) (.flat _ hf)
 unfold execOp;simp only [ho,flatEv hfr hx,flatEv hfr hi,Sem.run_bind,pureVal_run hv,Sem.run_pure,Result.andThen_ok]
theorem eqGuard_pure {op:BinOp} {t:TypeId} {x y:Value} (X Y:Operand) (hx:x≠.nilIface):eqGuard op t X Y x y=eqGuard op t (.tmp 0) (.tmp 0) x y:=by
 unfold eqGuard
 cases x<;>first|exact absurd rfl hx|(cases y<;>rfl)
theorem eqGuard_ptr {op:BinOp} {t:TypeId} {x y:Value} (X Y:Operand) (hx:x≠.nilIface) (hx2: ∀cs,x≠.agg cs) (w:World):(eqGuard op t X Y x y).run P w=.ok () w:=by
 unfold eqGuard
 cases x<;>first|exact absurd rfl hx|exact absurd rfl (hx2 _)|(cases op<;>rfl)
theorem binOp_run (w:World) {op:BinOp} {t yt:TypeId} {x y:Operand} (ho:o.op=.binOp op t x y yt) {r:Value} (h:(do eqGuard op t x y (a.eval x) (a.eval y);binOp op t (a.eval x) (a.eval y):Sem Value).run P w=.ok r w):(execOp a.eval o).run P w=.ok (.value r) w:=by
 unfold execOp;simp only [ho,Sem.run_bind,Sem.run_pure,Result.andThen_ok]at h⊢
 rw [h];rfl
theorem nil_ok {n:Nat→Prop} {op:BinOp} {t yt:TypeId} {x y:Operand} {q:Bool} (ho:o.op=.binOp op t x y yt) {X Y:Value} (hx:a.eval x=X) (hy:a.eval y=Y) (h1:X≠.nilIface) (h2: ∀cs,X≠.agg cs)
  (hop:op=.eql∨op=.neq) (hq: ∀w:World,(Op.equal t X Y).run P w=.ok q w) (b1:binOp .eql t X Y=(do pure (.bool (←Op.equal t X Y)))) (b2:binOp .neq t X Y=(do pure (.bool (!(←Op.equal t X Y))))):
  PureOk P n ι o a (.bool (if op=.eql then q else !q)):=by
 refine pureok (v':=.bool (if op=.eql then q else !q)) (fun w=>binOp_run w ho ?_) (.flat _ rfl)
 rw [hx,hy,Sem.run_bind,eqGuard_ptr _ _ h1 h2 w]
 rcases hop with rfl|rfl
 ·simp only [Result.andThen_ok,b1,Sem.run_bind,hq w,Sem.run_pure,if_true]
 ·simp only [Result.andThen_ok,b2,Sem.run_bind,hq w,Sem.run_pure];rfl
theorem equal_ptr_l {t e:TypeId} {b:Option Addr} (h:P.underlying t=some (.pointer e)) (w:World):(Op.equal t (.pointer none) (.pointer b)).run P w=.ok b.isNone w:=by
 show(Op.equalIn (9999+1) t _ _).run P w=_
 rw [Op.equalIn,Sem.run_bind,run_underlying h]
 cases b<;>rfl
theorem equal_ptr_r {t e:TypeId} {b:Option Addr} (h:P.underlying t=some (.pointer e)) (w:World):(Op.equal t (.pointer b) (.pointer none)).run P w=.ok b.isNone w:=by
 show(Op.equalIn (9999+1) t _ _).run P w=_
 rw [Op.equalIn,Sem.run_bind,run_underlying h]
 cases b<;>rfl
theorem equal_sl_l {t e:TypeId} {b:Option Addr} {k c k' c':Nat} (h:P.underlying t=some (.slice e)) (w:World):(Op.equal t (.slice none k c) (.slice b k' c')).run P w=.ok b.isNone w:=by
 show(Op.equalIn (9999+1) t _ _).run P w=_
 rw [Op.equalIn,Sem.run_bind,run_underlying h]
 cases b<;>rfl
theorem equal_sl_r {t e:TypeId} {b:Option Addr} {k c k' c':Nat} (h:P.underlying t=some (.slice e)) (w:World):(Op.equal t (.slice b k c) (.slice none k' c')).run P w=.ok b.isNone w:=by
 show(Op.equalIn (9999+1) t _ _).run P w=_
 rw [Op.equalIn,Sem.run_bind,run_underlying h]
 cases b<;>rfl
theorem equal_func {t:TypeId} {a1 a2 a3:_} {g:FuncId} {f c:Array Value} (h:P.underlying t=some (.func a1 a2 a3)) (w:World):(Op.equal t (.func (.func g) f c) .nilFunc).run P w=.ok false w:=by
 show(Op.equalIn (9999+1) t _ _).run P w=_
 rw [Op.equalIn,Sem.run_bind,run_underlying h]
 rfl
theorem vr_fn {n:Nat→Prop} {g:FuncId} {f c:Array Value} {v':Value} (h:VR n ι (.func (.func g) f c) v'): ∃f' c',v'=.func (.func g) f' c':=by
 cases h with
 |flat _ _=>exact⟨_,_,rfl⟩
 |func _ _ b _ d _ _ _ _=>exact⟨_,_,rfl⟩
theorem binOp_ok (hfr:FrR H.D ι N fr a.tmps) {op:BinOp} {t yt:TypeId} {x y:Operand} (ho:o.op=.binOp op t x y yt) (hv:lbin P op t (ev fr x) (ev fr y)=some v):PureOk P H.D ι o a v:=by
 have hx:=hfr.ev x
 have hy:=hfr.ev y
 unfold lbin at hv
 split at hv
 ·rename_i b e1 e2
  rw [e1]at hx
  rw [e2]at hy
  have hx':=flat_eq hx rfl
  obtain⟨b',hy',hn⟩:=vr_isNone hy
  split at hv
  ·rename_i e hu
   injection hv with hv
   subst hv
   have:=nil_ok (q:=b'.isNone) (n:=H.D) (ι:=ι) ho hx' hy' (by simp) (by simp) (.inl rfl) (fun w=>equal_ptr_l hu w) (by cases b'<;>rfl) (by cases b'<;>rfl)
   rw [hn]at this;exact this
  ·rename_i e hu
   injection hv with hv
   subst hv
   have:=nil_ok (q:=b'.isNone) (n:=H.D) (ι:=ι) ho hx' hy' (by simp) (by simp) (.inr rfl) (fun w=>equal_ptr_l hu w) (by cases b'<;>rfl) (by cases b'<;>rfl)
   rw [hn]at this;exact this
  ·cases hv
 ·rename_i e1 e2
  rw [e1]at hx
  rw [e2]at hy
  have hy':=flat_eq hy rfl
  obtain⟨b',hx',hn⟩:=vr_isNone hx
  split at hv
  ·rename_i e hu
   injection hv with hv
   subst hv
   have:=nil_ok (q:=b'.isNone) (n:=H.D) (ι:=ι) ho hx' hy' (by simp) (by simp) (.inl rfl) (fun w=>equal_ptr_r hu w) (by cases b'<;>rfl) (by cases b'<;>rfl)
   rw [hn]at this;exact this
  ·rename_i e hu
   injection hv with hv
   subst hv
   have:=nil_ok (q:=b'.isNone) (n:=H.D) (ι:=ι) ho hx' hy' (by simp) (by simp) (.inr rfl) (fun w=>equal_ptr_r hu w) (by cases b'<;>rfl) (by cases b'<;>rfl)
   rw [hn]at this;exact this
  ·cases hv
 ·rename_i b k c e1 e2
  rw [e1]at hx
  rw [e2]at hy
  obtain⟨x',cx,hx',hnx⟩:=vr_slice hx
  obtain⟨b',cy,hy',hn⟩:=vr_slice hy
  have:x'=none:=by cases x' with|none=>rfl|some=>simp at hnx
  subst this
  split at hv
  ·rename_i e hu
   injection hv with hv
   subst hv
   have:=nil_ok (q:=b'.isNone) (n:=H.D) (ι:=ι) ho hx' hy' (by simp) (by simp) (.inl rfl) (fun w=>equal_sl_l hu w) (by cases b'<;>rfl) (by cases b'<;>rfl)
   rw [hn]at this;exact this
  ·rename_i e hu
   injection hv with hv
   subst hv
   have:=nil_ok (q:=b'.isNone) (n:=H.D) (ι:=ι) ho hx' hy' (by simp) (by simp) (.inr rfl) (fun w=>equal_sl_l hu w) (by cases b'<;>rfl) (by cases b'<;>rfl)
   rw [hn]at this;exact this
  ·cases hv
 ·rename_i e1 e2
  rw [e1]at hx
  rw [e2]at hy
  obtain⟨b',cx,hx',hn⟩:=vr_slice hx
  obtain⟨y',cy,hy',hny⟩:=vr_slice hy
  have:y'=none:=by cases y' with|none=>rfl|some=>simp at hny
  subst this
  split at hv
  ·rename_i e hu
   injection hv with hv
   subst hv
   have:=nil_ok (q:=b'.isNone) (n:=H.D) (ι:=ι) ho hx' hy' (by simp) (by simp) (.inl rfl) (fun w=>equal_sl_r hu w) (by cases b'<;>rfl) (by cases b'<;>rfl)
   rw [hn]at this;exact this
  ·rename_i e hu
   injection hv with hv
   subst hv
   have:=nil_ok (q:=b'.isNone) (n:=H.D) (ι:=ι) ho hx' hy' (by simp) (by simp) (.inr rfl) (fun w=>equal_sl_r hu w) (by cases b'<;>rfl) (by cases b'<;>rfl)
   rw [hn]at this;exact this
  ·cases hv
 ·rename_i g f c e1 e2
  rw [e1]at hx
  rw [e2]at hy
  have hy':=flat_eq hy rfl
  obtain⟨f',c',hx'⟩:=vr_fn hx
  split at hv
  ·rename_i hu
   injection hv with hv
   subst hv
   exact nil_ok (q:=false) (n:=H.D) (ι:=ι) ho hx' hy' (by simp) (by simp) (.inl rfl) (fun w=>equal_func hu w) rfl rfl
  ·rename_i hu
   injection hv with hv
   subst hv
   exact nil_ok (q:=false) (n:=H.D) (ι:=ι) ho hx' hy' (by simp) (by simp) (.inr rfl) (fun w=>equal_func hu w) rfl rfl
  ·cases hv
 ·cases hv
 ·rename_i h0 h1 h2 h3 h4 h5
  split at hv
  ·rename_i hf
   rw [Bool.and_eq_true]at hf
   obtain⟨hv1,hv2⟩:=pureFlat_spec hv
   have ex:=flat_eq hx hf.1
   have ey:=flat_eq hy hf.2
   refine pureok (v':=v) (fun w=>binOp_run w ho ?_) (.flat _ hv2)
   rw [ex,ey,eqGuard_pure x y (fun e=>by first|exact h0 e|exact h1 e|exact h2 e|exact h3 e|exact h4 e|exact h5 e)]
   exact pureVal_run hv1 w
  ·cases hv
end
end Go.Lg
namespace Go.Lg
open Go.Tg Go.RowKit Go.MapKept
theorem keyB_spec {kd:TypeDesc} {k:Value} (h:keyB kd k=true):IsKey kd k∧flatB k=true:=by
 unfold keyB at h
 split at h
 ·simp only [beq_iff_eq]at h;exact⟨h,rfl⟩
 ·exact⟨trivial,rfl⟩
 ·cases h
theorem sameNow_t {kd:TypeDesc} {k x:Value} (hk:IsKey kd k) {r:Bool} (h:Instr.sameNow kd k x=some r):IsKey kd x∧(r=true↔k=x):=by
 have hx:IsKey kd x:=by
  cases kd<;>cases k<;>cases x<;>simp_all [IsKey,Instr.sameNow]
 obtain⟨r',h1,h2⟩:=sameNow_of_keys hk hx
 rw [h]at h1
 cases h1
 exact⟨hx,h2⟩
section
variable {P:Program} {n:Nat→Prop} {ι:Ren} {kd:TypeDesc} {k:Value}
theorem MpL.len: ∀ {cs:List Value} {es:List MapEntry},MpL n ι cs es→cs.length=3*es.length
 | [],[],_=>rfl
 | [],_::_,h=>h.elim
 | [_],_,h=>by simp [MpL]at h
 | [_,_],_,h=>by simp [MpL]at h
 |_::_::_::_,[],h=>h.elim
 |_::_::_::cs,_::es,⟨_,h⟩=>by have:=h.len;simp;omega
theorem find_sound (hk:IsKey kd k): ∀ {cs:List Value} {es:List MapEntry} {i:Nat} {r:Option (Nat×Value)},MpL n ι cs es→lmfind kd k cs i=some r→
  (r=none∧Instr.findNow kd k es i=some none∧ ∀x∈es,x.key≠k)∨ ∃j v e,r=some (i+j,v)∧es[j]?=some e∧Instr.findNow kd k es i=some (some (i+j,e.val))∧VR n ι v e.val∧e.key=k
 | [],[],i,r,_,h=>by
  simp only [lmfind,Option.some.injEq]at h
  exact .inl ⟨h.symm,rfl,by simp⟩
 | [],_::_,_,_,h,_=>h.elim
 | [_],_,_,_,h,_=>by simp [MpL]at h
 | [_,_],_,_,_,h,_=>by simp [MpL]at h
 |_::_::_::_,[],_,_,h,_=>h.elim
 |k'::v::s::cs,e::es,i,r,⟨⟨h1,h2,h3⟩,h4⟩,h=>by
  subst h1
  unfold lmfind at h
  unfold Instr.findNow
  split at h
  ·rename_i hs
   simp only [Option.some.injEq]at h
   exact .inr ⟨0,v,e,h.symm,rfl,by rw [hs];rfl,h2,((sameNow_t hk hs).2.1 rfl).symm⟩
  ·rename_i hs
   have hne:e.key≠k:=fun q=>by have:=(sameNow_t hk hs).2.2 q.symm;cases this
   rw [hs]
   rcases find_sound hk h4 h with⟨g1,g2,g3⟩|⟨j,u,e',g1,g2,g3,g4,g5⟩
   ·refine .inl ⟨g1,g2,fun x hx=>?_⟩
    rcases List.mem_cons.1 hx with rfl|hx
    ·exact hne
    ·exact g3 x hx
   ·rw [show i+1+j=i+(j+1) by omega]at g1 g3
    exact .inr ⟨j+1,u,e',g1,by simpa using g2,g3,g4,g5⟩
  ·cases h
theorem MpL.push {v v':Value} {s:Nat} (hv:VR n ι v v'): ∀ {cs:List Value} {es:List MapEntry},MpL n ι cs es→MpL n ι (cs++ [k,v,.int .i64 s]) (es++ [⟨k,v',s⟩])
 | [],[],_=>⟨⟨rfl,hv,rfl⟩,trivial⟩
 | [],_::_,h=>h.elim
 | [_],_,h=>by simp [MpL]at h
 | [_,_],_,h=>by simp [MpL]at h
 |_::_::_::_,[],h=>h.elim
 |_::_::_::_,_::_,⟨h,h4⟩=>⟨h,h4.push hv⟩
theorem MpL.set {v v':Value} (hv:VR n ι v v'): ∀ {cs:List Value} {es:List MapEntry} {j:Nat} {e:MapEntry},MpL n ι cs es→es[j]?=some e→MpL n ι (cs.set (3*j+1) v) (es.set j { e with val:=v' })
 | [],[],_,_,_,h=>by simp at h
 | [],_::_,_,_,h,_=>h.elim
 | [_],_,_,_,h,_=>by simp [MpL]at h
 | [_,_],_,_,_,h,_=>by simp [MpL]at h
 |_::_::_::_,[],_,_,h,_=>h.elim
 |k'::u::s::cs,e'::es,0,e,⟨⟨h1,h2,h3⟩,h4⟩,he=>by
  simp only [List.getElem?_cons_zero,Option.some.injEq]at he
  subst he
  exact⟨⟨h1,hv,h3⟩,h4⟩
 |k'::u::s::cs,e'::es,j+1,e,⟨h,h4⟩,he=>by
  rw [show 3*(j+1)+1=(3*j+1)+1+1+1 by omega]
  exact⟨h,h4.set hv (by simpa using he)⟩
theorem MpL.cut: ∀ {cs:List Value} {es:List MapEntry} {j:Nat},MpL n ι cs es→j<es.length→MpL n ι (cs.take (3*j)++cs.drop (3*j+3)) (es.eraseIdx j)
 | [],[],_,_,h=>by simp at h
 | [],_::_,_,h,_=>h.elim
 | [_],_,_,h,_=>by simp [MpL]at h
 | [_,_],_,_,h,_=>by simp [MpL]at h
 |_::_::_::_,[],_,h,_=>h.elim
 |_::_::_::cs,_::es,0,⟨_,h4⟩,_=>h4
 |k'::u::s::cs,e'::es,j+1,⟨h,h4⟩,hj=>by
  rw [show 3*(j+1)=3*j+1+1+1 by omega,show 3*j+1+1+1+3=(3*j+3)+1+1+1 by omega]
  exact⟨h,h4.cut (by simpa using hj)⟩
end
section
variable {P:Program} {T:Callee} {H H':LH} {ι:Ren} {o:Oper} {a:Act} {w:World} {v v':Value} {N:Nat} {fr:Fr}
theorem vr_map {n:Nat→Prop} {l:Nat} (h:VR n ι (.map (some l)) v'):v'=.map (some (ι l).blk)∧n l∧(ι l).off=1:=by
 cases h with
 |flat _ hv=>simp [flatB,flat1B,atomB]at hv
 |map _ hl h0=>exact⟨rfl,hl,h0⟩
theorem Rel.map (h:Rel P H ι w) {l:Nat} {b:LB} (hb:H.get l=some b) (h0:(ι l).off=1): ∃es,w.heap[(ι l).blk]?=some (.map es b.elem)∧Stamped es b.elem∧MpL H.D ι b.cells es.toList:=by
 rcases h.br l b hb with⟨h1,_⟩|⟨_,h⟩
 ·rw [h0]at h1;cases h1
 ·exact h
theorem mat_sound (hrel:Rel P H ι w) {t:TypeId} {m m' k:Value} {x:Nat×LB×Option (Nat×Value)} (hm:VR H.D ι m m') (h:lmat P t m k H=some x):
  ∃l b r kt et es,x=(l,b,r)∧m'=.map (some (ι l).blk)∧(ι l).off=1∧P.underlying t=some (.map kt et)∧H.get l=some b∧w.heap[(ι l).blk]?=some (.map es b.elem)∧Stamped es b.elem∧MpL H.D ι b.cells es.toList∧flatB k=true∧ ∃d,P.underlying kt=some d∧IsKey d k∧
   ((r=none∧Instr.findNow d k es.toList 0=some none∧ ∀x∈es.toList,x.key≠k)∨ ∃j v e,r=some (j,v)∧es[j]?=some e∧Instr.findNow d k es.toList 0=some (some (j,e.val))∧VR H.D ι v e.val∧e.key=k):=by
 unfold lmat at h
 split at h
 ·rename_i kt et l hu
  split at h
  ·rename_i kd b hd hb
   split at h
   ·rename_i hk
    obtain⟨hk1,hk2⟩:=keyB_spec hk
    obtain⟨r,hr,rfl⟩:=Option.map_eq_some_iff.1 h
    obtain⟨e1,hl,h0⟩:=vr_map hm
    obtain⟨es,g1,g2,g3⟩:=hrel.map hb h0
    refine⟨l,b,r,kt,et,es,rfl,e1,h0,hu,hb,g1,g2,g3,hk2,kd,hd,hk1,?_⟩
    rcases find_sound hk1 g3 hr with h|⟨j,v,e,q1,q2,q3,q4,q5⟩
    ·exact .inl h
    ·rw [Nat.zero_add]at q1 q3
     exact .inr ⟨j,v,e,q1,by simpa using q2,q3,q4,q5⟩
   ·cases h
  ·cases h
 ·cases h
theorem zero_sound {t:TypeId} {k z:Value} (h:lmzero P t k=some z): ∃kt et d,P.underlying t=some (.map kt et)∧P.underlying kt=some d∧IsKey d k∧flatB k=true∧zr P et=some z∧flatB z=true:=by
 unfold lmzero at h
 split at h
 ·rename_i kt et hu
  split at h
  ·rename_i kd z' hd hz
   split at h
   ·rename_i hc
    rw [Bool.and_eq_true]at hc
    simp only [Option.some.injEq]at h
    subst h
    exact⟨kt,et,kd,hu,hd,(keyB_spec hc.1).1,(keyB_spec hc.1).2,hz,hc.2⟩
   ·cases h
  ·cases h
 ·cases h
theorem vr_pair {n:Nat→Prop} {x y:Value} {b:Bool} (h:VR n ι x y):VR n ι (.tuple #[x,.bool b]) (.tuple #[y,.bool b]):=
 .tuple _ _ rfl (fun i p q hp hq=>by
  match i with
  |0=>simp at hp hq;subst hp hq;exact h
  |1=>simp at hp hq;subst hp hq;exact .flat _ rfl
  |i+2=>simp at hp)
theorem lookup_ok (hrel:Rel P H ι w) (hfr:FrR H.D ι N fr a.tmps) {t:TypeId} {x y:Operand} {ok:Bool} (ho:o.op=.lookup t x y ok) (h:llookup P t (ev fr x) (ev fr y) ok H=some v):ReadOk P H.D ι o a w v:=by
 have hx:=hfr.ev x
 have go: ∀ {u:Value} {b:Bool} (u':Value),VR H.D ι u u'→v=(if ok then .tuple #[u,.bool b]else u)→(∀w',Change (fun _=>False) w w'→(Instr.lookup t (a.eval x) (a.eval y) ok).run P w'=.ok (if ok then .tuple #[u',.bool b]else u') w')→ReadOk P H.D ι o a w v:=by
  intro u b u' hv e hr
  refine⟨if ok then .tuple #[u',.bool b]else u',?_,fun w' hw'=>?_⟩
  ·rw [e];cases ok
   ·exact hv
   ·exact vr_pair hv
  ·unfold execOp;simp only [ho,Sem.run_bind,hr w' hw',Result.andThen_ok,Sem.run_pure]
 unfold llookup at h
 split at h
 ·rename_i l b i u hm
  simp only [Option.some.injEq]at h
  obtain⟨_,_,r,kt,et,es,e,e2,h0,hu,hb,hw,hs,hM,hk,d,hd,hk2,hc⟩:=mat_sound hrel hx hm
  cases e
  have ey:=flatEv hfr hk
  rcases hc with⟨hc,_⟩|⟨j,u',e,hj,he,hf,hv,hkey⟩
  ·cases hc
  ·injection hj with hj
   injection hj with hj1 hj2
   subst hj1 hj2
   refine go (b:=true) _ hv h.symm (fun w' hw'=>?_)
   have hw2:w'.heap[(ι l).blk]?=some (.map es b.elem):=by rw [hw'.block _ (Array.getElem?_eq_some_iff.1 hw).1 (fun h=>h)];exact hw
   cases ok<;>simp [e2,ey,Instr.lookup,run_underlying hu,MapKept.run_getObj_map hw2,MapKept.run_checkKey hd hk2,MapKept.run_findKey hd hf,Result.andThen]
 ·rename_i l b hm
  obtain⟨z,hz,e0⟩:=Option.map_eq_some_iff.1 h
  obtain⟨_,_,r,kt,et,es,e,e2,h0,hu,hb,hw,hs,hM,hk,d,hd,hk2,hc⟩:=mat_sound hrel hx hm
  cases e
  have ey:=flatEv hfr hk
  obtain⟨kt',et',d',hu',_,_,_,hzr,hzf⟩:=zero_sound hz
  rw [hu]at hu'
  cases hu'
  rcases hc with⟨_,hf,_⟩|⟨j,u',e,hj,_⟩
  ·refine go (b:=false) z (.flat _ hzf) e0.symm (fun w' hw'=>?_)
   have hw2:w'.heap[(ι l).blk]?=some (.map es b.elem):=by rw [hw'.block _ (Array.getElem?_eq_some_iff.1 hw).1 (fun h=>h)];exact hw
   cases ok<;>simp [e2,ey,Instr.lookup,run_underlying hu,MapKept.run_getObj_map hw2,MapKept.run_checkKey hd hk2,MapKept.run_findKey hd hf,run_zero hzr,Result.andThen]
  ·cases hj
 ·split at h
  ·rename_i e1
   rw [e1]at hx
   have hx':=flat_eq hx rfl
   obtain⟨z,hz,e0⟩:=Option.map_eq_some_iff.1 h
   obtain⟨kt,et,d,hu,hd,hk2,hk,hzr,hzf⟩:=zero_sound hz
   have ey:=flatEv hfr hk
   refine go (b:=false) z (.flat _ hzf) e0.symm (fun w' hw'=>?_)
   have hf:Instr.findNow d (ev fr y) [] 0=some none:=rfl
   cases ok<;>simp [hx',ey,Instr.lookup,run_underlying hu,MapKept.run_checkKey hd hk2,MapKept.run_findKey hd hf,run_zero hzr,Result.andThen]
  ·cases h
theorem map_change {r:Nat} {o':Obj} :Change (fun k=>k=r) w { w with heap:=w.heap.setIfInBounds r o' } :=by
 refine⟨rfl,rfl,rfl,by simp,fun k hk hne=>?_⟩
 simp only [Array.getElem?_setIfInBounds]
 rw [if_neg (fun h=>hne h.symm)]
theorem map_set (hrel:Rel P H ι w) {l:Nat} {b b':LB} {es es':Array MapEntry} (hb:H.get l=some b) (h0:(ι l).off=1) (hrw:b.rw=true) (hw:w.heap[(ι l).blk]?=some (.map es b.elem)) (hs:Stamped es' b'.elem) (hM:MpL H.D ι b'.cells es'.toList):
  Out P H ι w (H.set l b') ι { w with heap:=w.heap.setIfInBounds (ι l).blk (.map es' b'.elem) } :=
 rel_setG hrel hb hrw (.inr ⟨h0,es',(MapKept.heap_set hw).1,hs,hM⟩) map_change
theorem put_ok (hrel:Rel P H ι w) (hfr:FrR H.D ι N fr a.tmps) {t:TypeId} {x y z:Operand} (ho:o.op=.mapUpdate t x y z) (h:lmput P t (ev fr x) (ev fr y) (ev fr z) H=some H'):OpOk P H ι o a w undef H':=by
 have hx:=hfr.ev x
 unfold lmput at h
 split at h
 ·rename_i l b r hm
  split at h
  ·rename_i hrw
   simp only [Option.some.injEq]at h
   obtain⟨_,_,_,kt,et,es,e,e2,h0,hu,hb,hw,hs,hM,hk,d,hd,hk2,hc⟩:=mat_sound hrel hx hm
   cases e
   have ey:=flatEv hfr hk
   subst h
   rcases hc with⟨rfl,hf,hno⟩|⟨j,u',e,rfl,he,hf,hv,hkey⟩
   ·refine opok_skip (ι':=ι) ?_ (map_set (b':= { b with cells:=b.cells++ [ev fr y,ev fr z,.int .i64 b.elem],elem:=b.elem+1 }) (es':=es.push { key:=ev fr y,val:=a.eval z,born:=b.elem }) hrel hb h0 hrw hw (stamped_push hs hno) (by simpa using hM.push (hfr.ev z)))
    unfold execOp
    simp [ho,e2,ey,Instr.mapUpdate,run_underlying hu,MapKept.run_getObj_map hw,MapKept.run_checkKey hd hk2,MapKept.run_findKey hd hf,MapKept.run_setObj_map _ hw,Result.andThen]
   ·have he':es.toList[j]?=some e:=by simpa using he
    have hkey2: ∀e',es[j]?=some e'→({ e' with key:=ev fr y,val:=a.eval z } :MapEntry).key=e'.key:=fun e' he''=>by rw [he]at he'';cases he'';exact hkey.symm
    refine opok_skip (ι':=ι) ?_ (map_set (b':= { b with cells:=b.cells.set (3*j+1) (ev fr z) }) (es':=es.modify j fun e=> { e with key:=ev fr y,val:=a.eval z }) hrel hb h0 hrw hw (stamped_modify hs _ _ (fun _ _=>rfl) (fun e' _ he''=>hkey2 e' he'')) ?_)
    ·unfold execOp
     simp [ho,e2,ey,Instr.mapUpdate,run_underlying hu,MapKept.run_getObj_map hw,MapKept.run_checkKey hd hk2,MapKept.run_findKey hd hf,he,hkey,MapKept.run_keyThatStays hk2,MapKept.run_setObj_map _ hw,Result.andThen]
    ·have:=hM.set (hfr.ev z) he'
     have e3:(es.modify j fun e=> { e with key:=ev fr y,val:=a.eval z }).toList=es.toList.set j { e with val:=a.eval z } :=by
      apply List.ext_getElem?
      intro i
      rw [Array.getElem?_toList,Array.getElem?_modify,List.getElem?_set]
      by_cases c:j=i
      ·subst c
       obtain⟨this,h2⟩:=Array.getElem?_eq_some_iff.1 he
       simp [he,this,hkey,h2]
      ·simp [c]
     rw [e3];exact this
  ·cases h
 ·cases h
theorem del_ok (hrel:Rel P H ι w) {t kt' ty:TypeId} {m m' k k':Value} (hm:VR H.D ι m m') (hk':VR H.D ι k k') (h:lmdel P t m k H=some H'):
  ∃w',(Builtin.delete_ #[t,kt'] ty #[m',k']).run P w=.ok (.tuple #[]) w'∧Out P H ι w H' ι w':=by
 unfold lmdel at h
 split at h
 ·rename_i l b i u hmat
  split at h
  ·rename_i hrw
   simp only [Option.some.injEq]at h
   subst h
   obtain⟨_,_,_,kt,et,es,e,e2,h0,hu,hb,hw,hs,hM,hk,d,hd,hk2,hc⟩:=mat_sound hrel hm hmat
   cases e
   have ey:=flat_eq hk' hk
   rcases hc with⟨hc,_⟩|⟨j,u',e,hj,he,hf,hv,hkey⟩
   ·cases hc
   ·injection hj with hj
    injection hj with hj1 hj2
    subst hj1 hj2
    have hlt:i<es.size:=(Array.getElem?_eq_some_iff.1 he).1
    refine⟨_,?_,map_set (b':= { b with cells:=b.cells.take (3*i)++b.cells.drop (3*i+3) }) (es':=es.eraseIdxIfInBounds i) hrel hb h0 hrw hw (stamped_erase hs _) ?_⟩
    ·simp [e2,ey,Builtin.delete_,run_underlying hu,MapKept.run_getObj_map hw,MapKept.run_checkKey hd hk2,MapKept.run_findKey hd hf,MapKept.run_setObj_map _ hw,Result.andThen]
    ·have:=hM.cut (j:=i) (by simpa using hlt)
     have e3:(es.eraseIdxIfInBounds i).toList=es.toList.eraseIdx i:=by
      unfold Array.eraseIdxIfInBounds
      rw [dif_pos hlt];simp
     rw [e3];exact this
  ·cases h
 ·rename_i l b hmat
  simp only [Option.some.injEq]at h
  subst h
  obtain⟨_,_,_,kt,et,es,e,e2,h0,hu,hb,hw,hs,hM,hk,d,hd,hk2,hc⟩:=mat_sound hrel hm hmat
  cases e
  have ey:=flat_eq hk' hk
  rcases hc with⟨_,hf,_⟩|⟨j,u',e,hj,_⟩
  ·refine⟨w,?_,Out.refl hrel⟩
   have e4:({ w with heap:=w.heap.setIfInBounds (ι l).blk (.map es b.elem) } :World)=w:=by
    have hlt:=(Array.getElem?_eq_some_iff.1 hw).1
    have:w.heap.setIfInBounds (ι l).blk (.map es b.elem)=w.heap:=by
     apply Array.ext
     ·simp
     ·intro i h1 h2
      have e5:(w.heap.setIfInBounds (ι l).blk (.map es b.elem))[i]?=w.heap[i]?:=by
       rw [Array.getElem?_setIfInBounds]
       by_cases c:(ι l).blk=i
       ·subst c;rw [if_pos rfl,if_pos hlt,hw]
       ·rw [if_neg c]
      rw [Array.getElem?_eq_getElem h1,Array.getElem?_eq_getElem h2]at e5
      exact Option.some.inj e5
    rw [this]
   simp [e2,ey,Builtin.delete_,run_underlying hu,MapKept.run_getObj_map hw,MapKept.run_checkKey hd hk2,MapKept.run_findKey hd hf,MapKept.run_setObj_map _ hw,Result.andThen,e4]
  ·cases hj
 ·cases h
theorem new_map {D:Nat→Prop} (w:World):NewAt P D ι ⟨[],0,true⟩ w (w.alloc (.map #[] 0)) ⟨w.heap.size,1,0⟩:=
 ⟨(Change.refl _ w).alloc _,rfl,.inr ⟨rfl,#[],heap_alloc_new w _,stamped_empty 0,trivial⟩⟩
end
end Go.Lg
namespace Go.Lg
open Go.Tg Go.RowKit
section
variable {P:Program} {T:Callee} {H H':LH} {ι:Ren} {o:Oper} {a:Act} {w:World} {v v':Value} {N:Nat} {fr:Fr}
theorem run_bound (hfr:FrR H.D ι N fr a.tmps) {d k y:Nat} {x:Option Operand} {code:BoundsCode} (hb:lbound fr d x=some k) (hk:k≤y):
  (match x.map a.eval with|some v=>Instr.sliceBound v y code|none=>pure d:Sem Nat).run P w=.ok k w:=by
 unfold lbound at hb
 cases x with
 |none=>simp only [Option.some.injEq]at hb;subst hb;rfl
 |some x=>
  simp only [Option.map_some]at hb⊢
  split at hb
  ·rename_i kd i e
   split at hb
   ·injection hb with hb
    have h1:=hfr.ev x
    rw [e]at h1
    rw [vr_int h1]
    simp only [Instr.sliceBound,asIntOf,Sem.run_bind,Sem.run_pure,Result.andThen_ok]
    rw [if_pos (by omega),hb];rfl
   ·cases hb
  ·cases hb
theorem run_bounds (hfr:FrR H.D ι N fr a.tmps) {i j n c:Nat} {lo hi:Option Operand} {sl:Bool} (h1:lbound fr 0 lo=some i) (h2:lbound fr n hi=some j) (hij:i≤j) (hjc:j≤c):
  (Instr.sliceBounds sl n c (lo.map a.eval) (hi.map a.eval) none).run P w=.ok (i,j,c) w:=by
 unfold Instr.sliceBounds
 have r2:=fun code=>run_bound (P:=P) (w:=w) (code:=code) hfr h2 hjc
 have r1:=fun code=>run_bound (P:=P) (w:=w) (code:=code) hfr h1 hij
 cases hi with
 |none=>
  have e2:n=j:=by simpa [lbound]using h2
  cases lo with
  |none=>
   have e1:0=i:=by simpa [lbound]using h1
   subst e1 e2
   simp [Sem.run_bind]
  |some x=>
   simp only [Option.map_some]at r1
   subst e2
   simp [Sem.run_bind,r1]
 |some y=>
  simp only [Option.map_some]at r2
  cases lo with
  |none=>
   have e1:0=i:=by simpa [lbound]using h1
   subst e1
   simp [Sem.run_bind,r2]
  |some x=>
   simp only [Option.map_some]at r1
   simp [Sem.run_bind,r2,r1]
theorem slice_ok (hfr:FrR H.D ι N fr a.tmps) {t:TypeId} {x:Operand} {lo hi:Option Operand} (ho:o.op=.slice t x lo hi none) (hv:lslice P t (ev fr x) fr lo hi=some v):PureOk P H.D ι o a v:=by
 have hx:=hfr.ev x
 unfold lslice at hv
 split at hv
 ·rename_i s hu e
  rw [e]at hx
  have hx':=flat_eq hx rfl
  split at hv
  ·rename_i i j hi1 hj1
   split at hv
   ·rename_i hij
    injection hv with hv
    subst hv
    refine pureok (v':=.string (s.extract i j)) (fun w=>?_) (.flat _ rfl)
    unfold execOp;simp only [ho,hx',Instr.sliceAt,Instr.slice,Sem.run_bind,run_underlying hu,Result.andThen_ok,Sem.run_pure,Option.map_none,Option.isSome_none,Bool.false_eq_true,if_false,run_bounds hfr hi1 hj1 hij.1 hij.2]
   ·cases hv
  ·cases hv
 ·rename_i e ad n c hu ex
  rw [ex]at hx
  split at hv
  ·rename_i i j s hi1 hj1 hs
   split at hv
   ·rename_i hij
    generalize hy:a.eval x=y at hx
    have hrun: ∀(w:World) (ad':Option Addr) (c':Nat),y=.slice ad' n c'→n≤c'→(execOp a.eval o).run P w=.ok (.value (.slice (if c'=i then ad' else ad'.map (·.add (i*s))) (j-i) (c'-i))) w:=by
     intro w ad' c' e hc
     unfold execOp;simp only [ho,hy,e,Instr.sliceAt,Instr.slice,Sem.run_bind,run_underlying hu,Result.andThen_ok,Sem.run_pure,Option.map_none,run_bounds hfr hi1 hj1 hij.1 (Nat.le_trans hij.2 hc),run_sizeOf' hs]
    split at hv
    ·rename_i l off
     injection hv with hv
     subst hv
     cases hx with
     |flat _ hf=>simp [flatB,flat1B,atomB]at hf
     |slice _ _ _ _ hl hz hc=>
      refine pureok (fun w=>hrun w _ _ rfl (by omega)) ?_
      by_cases he:c+(ι l).slack=i
      ·have e1:j-i=0:=by omega
       have e2:c-i=0:=by omega
       have e3:c+(ι l).slack-i=0:=by omega
       rw [if_pos he,e1,e2,e3]
       exact .slice0 l _ _ hl hz
      ·rw [if_neg he,Option.map_some,addr_add,Nat.add_assoc,show c+(ι l).slack-i=(c-i)+(ι l).slack by omega]
       exact .slice l _ _ _ hl hz (by omega)
     |slice0 _ _ ad hl hz=>
      refine pureok (fun w=>hrun w _ _ rfl (Nat.le_refl _)) ?_
      have e1:i=0:=by omega
      have e2:j=0:=by omega
      subst e1 e2
      rw [if_pos rfl]
      exact .slice0 l _ _ hl hz
    ·injection hv with hv
     subst hv
     have hf:n=0∧c=0∧y=.slice none 0 0:=by
      cases hx with
      |flat _ hf=>
       simp only [flatB,flat1B,atomB,Bool.and_eq_true,beq_iff_eq]at hf
       exact⟨hf.1,hf.2,by rw [hf.1,hf.2]⟩
     obtain⟨rfl,rfl,rfl⟩:=hf
     refine pureok (fun w=>hrun w none 0 rfl (Nat.le_refl _)) ?_
     have e1:i=0:=by omega
     have e2:j=0:=by omega
     subst e1 e2
     exact .flat _ rfl
    ·cases hv
   ·cases hv
  ·cases hv
 ·cases hv
def ArrR (n:Nat→Prop) (ι:Ren) (xs ys:Array Value):Prop:=xs.size=ys.size∧ ∀(i:Nat) (x y:Value),xs[i]?=some x→ys[i]?=some y→VR n ι x y
theorem ArrR.set {n:Nat→Prop} {xs ys:Array Value} (h:ArrR n ι xs ys) {k:Nat} {x y:Value} (hv:VR n ι x y):ArrR n ι (xs.setIfInBounds k x) (ys.setIfInBounds k y):=by
 refine⟨by simp [h.1],fun i p q hp hq=>?_⟩
 rw [Array.getElem?_setIfInBounds]at hp hq
 split at hp
 ·rename_i e
  rw [if_pos e]at hq
  split at hp
  ·split at hq
   ·injection hp with hp;injection hq with hq;rw [←hp,←hq];exact hv
   ·cases hq
  ·cases hp
 ·rename_i e
  rw [if_neg e]at hq
  exact h.2 i p q hp hq
theorem fold_rel {n:Nat→Prop} (off:Nat): ∀(us vs:List Value) (k:Nat) (xs ys:Array Value),us.length=vs.length→(∀(i:Nat) (x y:Value),us[i]?=some x→vs[i]?=some y→VR n ι x y)→ArrR n ι xs ys→
  ArrR n ι ((us.zipIdx k).foldl (fun cs (p:Value×Nat)=>cs.setIfInBounds (off+p.2) p.1) xs) ((vs.zipIdx k).foldl (fun cs (p:Value×Nat)=>cs.setIfInBounds (off+p.2) p.1) ys)
 | [],[],_,_,_,_,_,h=>h
 | [],_::_,_,_,_,hl,_,_=>by simp at hl
 |_::_,[],_,_,_,hl,_,_=>by simp at hl
 |u::us,v::vs,k,xs,ys,hl,hv,h=>by
  simp only [List.zipIdx_cons,List.foldl_cons]
  exact fold_rel off us vs (k+1) _ _ (by simpa using hl) (fun i x y hx hy=>hv (i+1) x y (by simpa using hx) (by simpa using hy)) (h.set (hv 0 u v rfl rfl))
theorem fill_rel {n:Nat→Prop} {place:Nat→Option (Nat×Nat)} : ∀(ps qs:List (Nat×Value)) (xs ys cs:Array Value),ps.length=qs.length→(∀(i:Nat) (p q:Nat×Value),ps[i]?=some p→qs[i]?=some q→p.1=q.1∧VR n ι p.2 q.2∧knownB p.2=true)→
  ArrR n ι xs ys→Instr.fill place xs ps=some cs→ ∃ds,Instr.fill place ys qs=some ds∧ArrR n ι cs ds
 | [],[],xs,ys,cs,_,_,h,hf=>by
  simp only [Instr.fill,Option.some.injEq]at hf⊢;subst hf;exact⟨ys,rfl,h⟩
 | [],_::_,_,_,_,hl,_,_,_=>by simp at hl
 |_::_,[],_,_,_,hl,_,_,_=>by simp at hl
 |(i,u)::ps,(j,x)::qs,xs,ys,cs,hl,hv,h,hf=>by
  obtain⟨e,hvr,hk⟩:=hv 0 _ _ rfl rfl
  simp only at e hvr hk
  subst e
  obtain⟨k1,k2⟩:=vr_cells hvr hk
  simp only [Instr.fill]at hf⊢
  cases hp:place i with
  |none=>simp [hp]at hf
  |some pl=>
   obtain⟨off,size⟩:=pl
   simp only [hp]at hf⊢
   rw [←k1,←h.1]
   split at hf
   ·cases hf
   ·rename_i hc
    rw [if_neg hc]
    refine fill_rel ps qs _ _ cs (by simpa using hl) (fun i p q hp hq=>hv (i+1) p q (by simpa using hp) (by simpa using hq)) ?_ hf
    have:=fold_rel (n:=n) (ι:=ι) off u.cells.toList x.cells.toList 0 xs ys (by simp [k1]) (fun i p q hp hq=>k2 i p q (by simpa using hp) (by simpa using hq)) h
    rw [←Array.foldl_toList,←Array.foldl_toList,Array.toList_zipIdx,Array.toList_zipIdx]
    exact this
theorem parts_rel (hfr:FrR H.D ι N fr a.tmps) {parts:Array (Nat×Operand)} (hk:(parts.toList.map fun p=>(p.1,ev fr p.2)).all (fun p=>knownB p.2)=true):
  ∀(i:Nat) (p q:Nat×Value),(parts.toList.map fun p=>(p.1,ev fr p.2))[i]?=some p→(parts.map fun(i,x)=>(i,a.eval x)).toList[i]?=some q→p.1=q.1∧VR H.D ι p.2 q.2∧knownB p.2=true:=by
 intro i p q hp hq
 have hk':=(List.all_eq_true.1 hk) p (List.mem_of_getElem? hp)
 rw [Array.toList_map]at hq
 rw [List.getElem?_map]at hp hq
 cases hx:parts.toList[i]? with
 |none=>simp [hx]at hp
 |some y=>
  simp only [hx,Option.map_some,Option.some.injEq]at hp hq
  rw [←hp]at hk'⊢
  rw [←hq]
  exact⟨rfl,hfr.ev y.2,hk'⟩
theorem build_ok (hfr:FrR H.D ι N fr a.tmps) {t:TypeId} {parts:Array (Nat×Operand)} (ho:o.op=.build t parts) (hv:lbuild P t (parts.toList.map fun p=>(p.1,ev fr p.2))=some v):PureOk P H.D ι o a v:=by
 unfold lbuild at hv
 split at hv
 ·rename_i hc
  rw [Bool.and_eq_true]at hc
  obtain⟨hk,hz⟩:=hc
  split at hv
  ·rename_i fs hu
   obtain⟨cs,hcs,rfl⟩:=Option.map_eq_some_iff.1 hv
   unfold Program.built at hcs
   unfold zr at hz
   cases hi:P.info? t with
   |none=>simp [hi]at hcs
   |some it=>
    simp only [hi,hu,Option.bind_some]at hcs hz
    split at hcs
    ·rename_i z places hz1 hpl
     rw [hz1]at hz
     simp only [Option.any_some]at hz
     obtain⟨ds,hds,hr⟩:=fill_rel (ι:=ι) (n:=H.D) _ (parts.map fun(i,x)=>(i,a.eval x)).toList z.cells z.cells cs (by simp) (parts_rel hfr hk)
      ⟨rfl,fun i x y hx hy=>by rw [hx]at hy;injection hy with hy;rw [←hy];exact flat_cells hz _ _ (flat_known hz) hx⟩ hcs
     refine pureok (v':=.agg ds) (fun w=>?_) (.agg _ _ hr.1 hr.2)
     have hb:P.built t (parts.map fun(i,x)=>(i,a.eval x)).toList=some ds:=by
      unfold Program.built;simp only [hi,hu,hz1,hpl];exact hds
     unfold execOp;simp only [ho,Sem.run_bind,run_build w t _ ds hb,Sem.run_pure,Result.andThen_ok]
    ·cases hcs
  ·cases hv
 ·cases hv
theorem rel_kill (h:Rel P H ι w) (l:Nat):Rel P (H.kill l) ι w:=by
 have hrwk: ∀k,RW (H.kill l) ι k→RW H ι k∨w.heap.size≤k:=by
  rintro k ⟨m,b,hk,hb,rfl⟩
  change (if m=l then none else H.get m)=some b at hk
  split at hk
  ·cases hk
  ·exact .inl ⟨m,b,hk,hb,rfl⟩
 refine⟨fun k hk=>?_,fun k hk=>⟨(h.hol k hk).1,?_⟩,fun k b hb=>?_,fun k k' b b' h1 h2=>?_,pin_step h (Change.refl _ _) hrwk rfl rfl⟩
 ·show(if k=l then none else H.get k)=none
  split
  ·rfl
  ·exact h.dom k hk
 ·show(if k=l then none else H.get k)=none
  split
  ·rfl
  ·exact(h.hol k hk).2
 ·change (if k=l then none else H.get k)=some b at hb
  split at hb
  ·cases hb
  ·exact h.br k b hb
 ·change (if k=l then none else H.get k)=some b at h1
  change (if k'=l then none else H.get k')=some b' at h2
  split at h1
  ·cases h1
  ·split at h2
   ·cases h2
   ·exact h.sep k k' b b' h1 h2
theorem rel_growF (h:Rel P H ι w) {b:LB} {arr:Array Value} {g slack s:Nat} {tt:TypeId} {ff:Nat×Nat} {w':World} {row:Option Nat} (hrw:b.rw=true) (hs:sz P tt=some s) (hE:ElOk P b.elem tt ff arr.size) (hg:w'.heap[g]?=some (.cells arr tt ff))
  (hsz:arr.size=b.cells.length+slack*s) (hm: ∀n,s≠0→b.cells.length=n*s→n+slack≤maxLen) (hc: ∀(i:Nat) x,b.cells[i]?=some x→ ∃y,arr[i]?=some y∧VR H.D ι x y)
  (hgr:w.grownBy w' row) (hrow: ∀l b',H.get l=some b'→row≠some (ι l).blk) (hpin: ∀g,g<H.ng→row≠some g) (hgn:row=some g∨g=w.heap.size):
  Rel P (H.new b) (ι.add H.n ⟨g,0,slack⟩) w':=by
 obtain⟨d1,d2,d3⟩:=dom_new h (b:=b)
 exact(rel_lay (S:=fun k=>row=some k) h ⟨hgr.os,hgr.tape,hgr.output,hgr.size,fun k hk hne=>hgr.block k hk (fun e=>hne e.symm)⟩ hrow hpin (hgn.imp id fun e=>Nat.le_of_eq e.symm)
  (.inl ⟨rfl,arr,tt,ff,hg,by simp only;omega,by simpa using hc,fun _=>⟨rfl,hE,s,hs,hsz,hm⟩⟩) (fun _=>rfl) (D_new h) d3 d1 d2 rfl rfl).1
theorem rel_grow (h:Rel P H ι w) {b:LB} {arr:Array Value} {g slack s:Nat} {w':World} {row:Option Nat} (hrw:b.rw=true) (hs:sz P b.elem=some s) (hg:w'.heap[g]?=some (.cells arr b.elem (0,0)))
  (hsz:arr.size=b.cells.length+slack*s) (hm: ∀n,s≠0→b.cells.length=n*s→n+slack≤maxLen) (hc: ∀(i:Nat) x,b.cells[i]?=some x→ ∃y,arr[i]?=some y∧VR H.D ι x y)
  (hgr:w.grownBy w' row) (hrow: ∀l b',H.get l=some b'→row≠some (ι l).blk) (hpin: ∀g,g<H.ng→row≠some g) (hgn:row=some g∨g=w.heap.size):
  Rel P (H.new b) (ι.add H.n ⟨g,0,slack⟩) w':=rel_growF h hrw hs (.inl ⟨rfl,rfl⟩) hg hsz hm hc hgr hrow hpin hgn
theorem lesz_spec {e:TypeId} {s:Nat} (h:lesz P e=some s): ∃i z,P.info? e=some i∧i.zero=some z∧i.size=s∧z.cells.size=s∧0<s∧i.bytes≤1048576∧sz P e=some s:=by
 unfold lesz at h
 cases hi:P.info? e with
 |none=>simp [hi]at h
 |some i=>
  simp only [hi]at h
  cases hz:i.zero with
  |none=>simp [hz]at h
  |some z=>
   simp only [hz]at h
   split at h
   ·rename_i hc
    injection h with h
    subst h
    exact⟨i,z,rfl,hz,rfl,hc.1,hc.2.1,hc.2.2,by simp [sz,hi]⟩
   ·cases h
theorem src_sound0 (hrel:Rel P H ι w) {y y':Value} {s m:Nat} {new:List Value} (hs0:0<s) (hy:VR H.D ι y y') (h:lsrc s y H=some (m,new)):
  (m=0∧new= []∧ ∃b c,y'=.slice b 0 c)∨(0<m∧new.length=m*s∧ ∃(ad:Addr) (c:Nat) (us:List Value),y'=.slice (some ad) m c∧us.length=m*s∧(∀(j:Nat) (u:Value),us[j]?=some u→w.cell? (ad.add j)=some u)∧
   ∀(j:Nat) (x u:Value),new[j]?=some x→us[j]?=some u→VR H.D ι x u):=by
 unfold lsrc at h
 split at h
 ·simp only [Option.some.injEq,Prod.mk.injEq]at h
  obtain⟨rfl,rfl⟩:=h
  exact .inl ⟨rfl,rfl,none,0,flat_eq hy rfl⟩
 ·rename_i l off k c
  split at h
  ·rename_i b hb
   simp only [lcells,Option.map_eq_some_iff,Prod.mk.injEq]at h
   obtain⟨cs,hcs,rfl,rfl⟩:=h
   split at hcs
   ·rename_i hle
    simp only [Option.some.injEq]at hcs
    have hlen:cs.length=k*s:=by rw [←hcs];simp;omega
    rcases Nat.eq_zero_or_pos k with h0|h0
    ·subst h0
     left
     refine⟨rfl,List.eq_nil_of_length_eq_zero (by simpa using hlen),?_⟩
     obtain⟨b',c',e,_⟩:=vr_slice hy
     exact⟨b',c',e⟩
    ·right
     refine⟨h0,hlen,?_⟩
     cases hy with
     |flat _ hf=>simp [flatB,flat1B,atomB]at hf
     |slice0=>omega
     |slice _ _ _ _ hl hz hc=>
      have hget: ∀(j:Nat) x,cs[j]?=some x→b.cells[off+j]?=some x:=by
       intro j x hx
       rw [←hcs,List.getElem?_take]at hx
       split at hx
       ·rw [List.getElem?_drop]at hx;exact hx
       ·cases hx
      have hall: ∀j,j<k*s→ ∃y,w.cell? ⟨(ι l).blk,(ι l).off+off+j,none⟩=some y∧ ∀x,cs[j]?=some x→VR H.D ι x y:=by
       intro j hj
       have hx:cs[j]?=some (cs[j]'(by omega)):=List.getElem?_eq_getElem (by omega)
       obtain⟨y,hy,hv⟩:=hrel.cell hb hz (hget j _ hx)
       exact⟨y,by rw [Nat.add_assoc];exact hy,fun x hx'=>by rw [hx]at hx';injection hx' with hx';rw [←hx'];exact hv⟩
      obtain⟨f,hf⟩: ∃f:Nat→Value,∀j,j<k*s→w.cell? ⟨(ι l).blk,(ι l).off+off+j,none⟩=some (f j)∧ ∀x,cs[j]?=some x→VR H.D ι x (f j):=by
       classical
       refine⟨fun j=>if hj:j<k*s then Classical.choose (hall j hj)else undef,fun j hj=>?_⟩
       simp only [dif_pos hj]
       exact Classical.choose_spec (hall j hj)
      refine⟨_,_,(List.range (k*s)).map f,rfl,by simp,fun j u hu=>?_,fun j x u hx hu=>?_⟩
      ·rw [List.getElem?_map]at hu
       rcases Nat.lt_or_ge j (k*s)with hj|hj
       ·rw [List.getElem?_range hj]at hu
        simp only [Option.map_some,Option.some.injEq]at hu
        rw [addr_add,←hu];exact(hf j hj).1
       ·rw [List.getElem?_eq_none (by simpa using hj)]at hu;simp at hu
      ·rw [List.getElem?_map]at hu
       rcases Nat.lt_or_ge j (k*s)with hj|hj
       ·rw [List.getElem?_range hj]at hu
        simp only [Option.map_some,Option.some.injEq]at hu
        rw [←hu];exact(hf j hj).2 x hx
       ·rw [List.getElem?_eq_none (by simpa using hj)]at hu;simp at hu
   ·cases hcs
  ·cases h
 ·cases h
theorem src_sound (hrel:Rel P H ι w) {t u e:TypeId} {y y':Value} {s m:Nat} {new:List Value} (hs0:0<s) (ht:P.underlying t=some (.slice e)) (hy:VR H.D ι y y') (h:(if t=u then lsrc s y H else lsrcS P u e s y)=some (m,new)):
  (m=0∧new= []∧Src P s u y' 0 [] w)∨(0<m∧new.length=m*s∧ ∃(us:List Value),AppSrc P t u e s y' m us w∧us.length=m*s∧
   ∀(j:Nat) (x u:Value),new[j]?=some x→us[j]?=some u→VR H.D ι x u):=by
 split at h
 ·rename_i htu
  subst htu
  rcases src_sound0 hrel hs0 hy h with⟨h1,h2,b,c,rfl⟩|⟨h1,h2,ad,c,us,rfl,h3,h4,h5⟩
  ·refine .inl ⟨h1,h2,?_⟩
   cases b with
   |none=>exact Src.ofNil w ht c
   |some ad=>exact Src.ofSlice w ht ad 0 c [] (by simp) (fun j u hj=>by simp at hj) (fun u hu=>by cases hu)
  ·exact .inr ⟨h1,h2,us,.inl ⟨rfl,ad,c,rfl,h3,h4⟩,h3,h5⟩
 ·unfold lsrcS at h
  split at h
  ·rename_i bs z hu hz
   split at h
   ·rename_i hc
    obtain⟨rfl,rfl,hb⟩:=hc
    simp only [Option.some.injEq,Prod.mk.injEq]at h
    obtain⟨rfl,rfl⟩:=h
    have ey:=flat_eq hy rfl
    subst ey
    rcases Nat.eq_zero_or_pos bs.size with h0|h0
    ·refine .inl ⟨h0,List.eq_nil_of_length_eq_zero (by rw [Lib.strCells_length,h0]),?_⟩
     have:=Src.ofString w hu bs
     have e2:byteCells bs= []:=List.eq_nil_of_length_eq_zero (by rw [byteCells_length,h0])
     rw [h0,e2]at this
     exact this
    ·refine .inr ⟨h0,by rw [Lib.strCells_length,Nat.mul_one],Lib.strCells bs,.inr ⟨hu,rfl,?_,bs,rfl,rfl,rfl⟩,by rw [Lib.strCells_length,Nat.mul_one],fun j x u hx hu'=>?_⟩
     ·unfold zr at hz
      unfold byts at hb
      cases hi:P.info? e with
      |none=>rw [hi]at hz;cases hz
      |some i=>rw [hi]at hz hb;exact⟨i,rfl,by simpa using hz,by simpa using hb⟩
     ·rw [hx]at hu';injection hu' with hu';subst hu'
      have hm:=List.mem_of_getElem? hx
      simp only [Lib.strCells,List.mem_map]at hm
      obtain⟨q,_,rfl⟩:=hm
      exact .flat _ rfl
   ·cases h
  ·cases h
theorem grow_out {H0:LH} (hrel:Rel P H0 ι w) {e:TypeId} {s k cap g:Nat} {olds news xs us:List Value} {w':World} {row:Option Nat} (hs:sz P e=some s) (hs0:0<s)
  (hol:olds.length+news.length=k*s) (hxl:xs.length=olds.length) (hul:us.length=news.length)
  (hxs: ∀(j:Nat) (x u:Value),olds[j]?=some x→xs[j]?=some u→VR H0.D ι x u) (hus: ∀(j:Nat) (x u:Value),news[j]?=some x→us[j]?=some u→VR H0.D ι x u)
  (hown:w'.ownsRow 0 e s (.slice (some ⟨g,0,none⟩) k cap) k (xs++us)) (hgr:w.grownBy w' row) (hrow: ∀l b',H0.get l=some b'→row≠some (ι l).blk) (hpin: ∀g,g<H0.ng→row≠some g) (hgn:row=some g∨g=w.heap.size):
  Rel P (H0.new ⟨olds++news,e,true⟩) (ι.add H0.n ⟨g,0,cap-k⟩) w'∧VR (H0.new ⟨olds++news,e,true⟩).D (ι.add H0.n ⟨g,0,cap-k⟩) (.slice (some ⟨H0.n,0,none⟩) k k) (.slice (some ⟨g,0,none⟩) k cap):=by
 rcases hown.2 with⟨hx0,_⟩|⟨g',cap',cur,hx0,_,hh,hnc,hcm,hcs,htake⟩
 ·cases hx0
 ·simp only [Value.slice.injEq,Option.some.injEq,Addr.mk.injEq]at hx0
  obtain⟨⟨rfl,_⟩,_,rfl⟩:=hx0
  refine⟨rel_grow (b:=⟨olds++news,e,true⟩) (arr:=cur) (g:=g) (slack:=cap-k) (s:=s) hrel rfl hs hh ?_ ?_ ?_ hgr hrow hpin hgn,?_⟩
  ·rw [hcs];show cap*s=(olds++news).length+(cap-k)*s
   rw [List.length_append,hol,←Nat.add_mul];congr 1;omega
  ·intro n _ hn
   have hn':k*s=n*s:=by rw [←hol,←List.length_append];exact hn
   have:=Nat.eq_of_mul_eq_mul_right hs0 hn'
   omega
  ·intro j x hx
   have hx':(olds++news)[j]?=some x:=hx
   have hlt:j<k*s:=by rw [←hol,←List.length_append];exact(List.getElem?_eq_some_iff.1 hx').1
   have hlt2:j<(xs++us).length:=by rw [List.length_append,hxl,hul,hol];exact hlt
   have h1:(cur.toList.take (k*s))[j]?=some (xs++us)[j]:=by rw [htake];exact List.getElem?_eq_getElem hlt2
   rw [List.getElem?_take,if_pos hlt]at h1
   refine⟨(xs++us)[j],by simpa using h1,?_⟩
   have h2:(xs++us)[j]?=some (xs++us)[j]:=List.getElem?_eq_getElem hlt2
   rw [List.getElem?_append]at hx' h2
   rw [hxl]at h2
   split at hx'
   ·rw [if_pos ‹_›]at h2;exact hxs j _ _ hx' h2
   ·rw [if_neg ‹_›]at h2;exact hus _ _ _ hx' h2
  ·have:=VR.slice (n:=(H0.new ⟨olds++news,e,true⟩).D) (ι:=ι.add H0.n ⟨g,0,cap-k⟩) H0.n 0 k k ((D_new hrel H0.n).2 (.inr rfl)) (by simp [Ren.add]) (Nat.le_refl _)
   have hcc:k+(cap-k)=cap:=by omega
   simpa [Ren.add,hcc]using this
theorem grow_whole {H0:LH} (hrel0:Rel P H0 ι w) (hsub: ∀l b,H0.get l=some b→H.get l=some b) (hn:H0.n=H.n) (hh:H0.hole=H.hole) (hng:H0.ng=H.ng) {b0:LB} {g:Nat} {im:Im} {w':World} {row:Option Nat} (hrel:Rel P (H0.new b0) (ι.add H0.n im) w') (him:im.blk=g)
  (hgr:w.grownBy w' row) (hrow: ∀k,row=some k→RW H ι k) (hgn:row=some g∨g=w.heap.size):Out P H ι w (H0.new b0) (ι.add H0.n im) w':=by
 have hD: ∀l,H.D l→H0.D l:=fun l hl=>by unfold LH.D at hl⊢;rw [hn,hh];exact hl
 refine⟨hrel,by show H.n≤H0.n+1;omega,fun l hl=>(D_new hrel0 l).2 (.inl (hD l hl)),fun l hl=>by unfold Ren.add;rw [if_neg (fun e=>by have:=(hD l hl).1;omega)],⟨hgr.os,hgr.tape,hgr.output,hgr.size,fun k hk hne=>hgr.block k hk (fun e=>hne (hrow k e.symm))⟩,?_,?_,hng⟩
 ·rintro k ⟨l,b',hb',hrw',rfl⟩
  change (if l=H0.n then some b0 else H0.get l)=some b' at hb'
  split at hb'
  ·rename_i e2;subst e2
   simp only [Ren.add,if_true,him]
   rcases hgn with hg|hg
   ·exact .inl (hrow g hg)
   ·exact .inr (by omega)
  ·rename_i hne;left
   refine⟨l,b',hsub l b' hb',hrw',?_⟩
   unfold Ren.add;rw [if_neg hne]
 ·rintro k ⟨l,b',hb',rfl⟩
  change (if l=H0.n then some b0 else H0.get l)=some b' at hb'
  split at hb'
  ·rename_i e2;subst e2
   simp only [Ren.add,if_true,him]
   rcases hgn with hg|hg
   ·obtain⟨l1,b1,g1,_,g3⟩:=hrow g hg
    exact .inl ⟨l1,b1,g1,g3⟩
   ·exact .inr (by omega)
  ·rename_i hne;left
   refine⟨l,b',hsub l b' hb',?_⟩
   unfold Ren.add;rw [if_neg hne]
theorem run_append_empty {t u ty e:TypeId} {i:TypeInfo} {z:Value} (hu:P.underlying t=some (.slice e)) (hi:P.info? e=some i) (hz:i.zero=some z) (b:Addr)
  (y:Value) (m:Nat) (us:List Value) (hl:us.length=m*i.size) (hs:AppSrc P t u e i.size y m us w) (hone: ∀u∈us,u.oneCell'=true) (h0:0<m) (hm:m≤1048576) (hb:i.bytes≤1048576):
  (Builtin.append_ #[t,u] ty #[.slice (some b) 0 0,y]).run P w=(Builtin.append_ #[t,u] ty #[.slice none 0 0,y]).run P w:=by
 have hmb:=Nat.mul_le_mul hm hb
 have hf:Builtin.nextslicecap (0+m) 0*i.bytes≤281474976710656:=growslice_fits (by omega) (by rw [Nat.zero_add];omega)
 have hsrc:Src P i.size u y m us w:=by
  rcases hs with⟨rfl,ad,c,rfl,h1,h2⟩|⟨h1,h2,_,bs,rfl,rfl,rfl⟩
  ·exact Src.ofSlice w hu ad m c us h1 h2 hone
  ·rw [h2];exact Src.ofString w h1 bs
 rw [run_append_grow_src (P:=P) w t u ty e i z hu hi hz (some b) 0 0 [] (run_firstCells_some w.drew i.size 0 b 0 0 [] (by simp) (fun j v hj=>by simp at hj)) y m us hsrc (by omega) (by omega) hf,
  run_append_grow_src (P:=P) w t u ty e i z hu hi hz none 0 0 [] (run_firstCells_none w.drew i.size 0 0 0) y m us hsrc (by omega) (by omega) hf]
theorem run_append_mk {t u ty e t0:TypeId} {i:TypeInfo} {z:Value} {f:Nat×Nat} (hu:P.underlying t=some (.slice e)) (hi:P.info? e=some i) (hz:i.zero=some z) (hs1:i.size=1) (hzs:z.cells.size=1)
  {g n slack m:Nat} {arr:Array Value} {y:Value} {us:List Value} (hw:w.heap[g]?=some (.cells arr t0 f)) (hf: ∀k,k<arr.size→ ¬(f.1≤k∧k<f.2)) (hsz:arr.size=n+slack) (hcm:n+slack≤maxLen)
  (hs:AppSrc P t u e 1 y m us w) (hl:us.length=m) (hone: ∀u∈us,u.oneCell'=true) (hm:n+m≤1048576) (hb:i.bytes≤1048576):
  ∃g' cap w' arr' t' f',(Builtin.append_ #[t,u] ty #[.slice (some ⟨g,0,none⟩) n (n+slack),y]).run P w=.ok (.slice (some ⟨g',0,none⟩) (n+m) cap) w'∧w'.heap[g']?=some (.cells arr' t' f')∧
   ((t'=t0∧f'=f∧arr'.size=arr.size)∨(t'=e∧f'=(0,0)))∧arr'.size=cap∧n+m≤cap∧cap≤maxLen∧arr'.toList.take (n+m)=arr.toList.take n++us∧w.grownBy w' (some g)∧(some g=some g'∨g'=w.heap.size):=by
 have hsrc:Src P i.size u y m us w:=by
  rw [hs1]
  rcases hs with⟨rfl,ad,c,rfl,h1,h2⟩|⟨h1,h2,_,bs,rfl,rfl,rfl⟩
  ·exact Src.ofSlice w hu ad m c us h1 h2 hone
  ·exact Src.ofString w h1 bs
 by_cases hroom:m≤slack
 ·have hst:=run_storeCells_fr (P:=P) g n t0 f us 0 arr w hw hf (by omega) hone
  simp only [Nat.add_zero]at hst
  have hr:(Builtin.append_ #[t,u] ty #[.slice (some ⟨g,0,none⟩) n (n+slack),y]).run P w=.ok (.slice (some ⟨g,0,none⟩) (n+m) (n+slack)) (w.setRow g (arr.toList.take n++us++arr.toList.drop (n+us.length)).toArray):=by
   have hroom':n+m≤n+slack:=by omega
   have hc1:=hsrc.cells
   rw [hs1]at hc1
   rcases hsrc.kind with⟨e',hk⟩|hk<;>simp [Builtin.append_,run_underlying hu,run_underlying hk,sizeOf,typeInfo,hi,hsrc.len,hroom',hc1,Addr.add_lit,hs1,hst,hroom]
  refine⟨g,_,_,_,t0,f,hr,setRow_heap w g arr _ t0 _ hw,.inl ⟨rfl,rfl,?_⟩,?_,by omega,hcm,?_,⟨rfl,rfl,rfl,by simp,fun k _ hk=>setRow_other w g k _ (fun e=>hk (by rw [e]))⟩,.inl rfl⟩
  ·simp only [List.size_toArray,List.length_append,List.length_take,List.length_drop,Array.length_toList];omega
  ·simp only [List.size_toArray,List.length_append,List.length_take,List.length_drop,Array.length_toList];omega
  ·have hlen:(arr.toList.take n++us).length=n+m:=by rw [List.length_append,List.length_take,Array.length_toList,hl];omega
   show((arr.toList.take n++us)++arr.toList.drop (n+us.length)).take (n+m)=_
   rw [←hlen]
   exact List.take_left
 ·have hcell: ∀(j:Nat) (v:Value),(arr.toList.take n)[j]?=some v→w.drew.cell? ((⟨g,0,none⟩:Addr).add j)=some v:=fun j v hj=>by
   rw [List.getElem?_take]at hj
   split at hj
   ·rw [addr_add]
    show w.cell? _=_
    rw [Array.getElem?_toList]at hj
    simp [World.cell?,hw,hj]
   ·cases hj
  have holds:=run_firstCells_some (P:=P) w.drew i.size n ⟨g,0,none⟩ n (n+slack) (arr.toList.take n) (by rw [List.length_take,Array.length_toList,hs1];omega) hcell
  have hbm:(n+m)*i.bytes≤140737488355328:=by
   have:=Nat.mul_le_mul hm hb
   omega
  have hr:=run_append_grow_src (P:=P) w t u ty e i z hu hi hz (some ⟨g,0,none⟩) n (n+slack) (arr.toList.take n) holds y m us hsrc (by omega) (by omega) (growslice_fits (by omega) hbm)
  have hge:=grownCap_ge w (n+m) (n+slack) e
  have hcm2:grownCap w (n+m) (n+slack) e≤maxLen:=grownCap_le_maxLen w (n+m) (n+slack) e (by simp only [maxLen];omega)
  have hlen:(arr.toList.take n++us).length=n+m:=by rw [List.length_append,List.length_take,Array.length_toList,hl];omega
  refine⟨w.heap.size,_,_,_,e,(0,0),hr,heap_alloc_new w.drew _,.inr ⟨rfl,rfl⟩,?_,hge,hcm2,?_,⟨rfl,rfl,rfl,by simp,fun k hk _=>heap_alloc_old w.drew _ hk⟩,.inr rfl⟩
  ·simp only [Array.size_append,List.size_toArray,size_zeroCells,hzs,hlen,Nat.mul_one]
   omega
  ·simp only [Array.toList_append]
   rw [←hlen]
   exact List.take_left
theorem appM_sound (hrel:Rel P H ι w) {t u ty e:TypeId} {i:TypeInfo} {z:Value} {s m n c l o:Nat} {b:LB} {x' y' v:Value} {new:List Value} (hu:P.underlying t=some (.slice e)) (hi:P.info? e=some i) (hz:i.zero=some z) (e1:i.size=s) (hzs:z.cells.size=s) (hbytes:i.bytes≤1048576) (hsz:sz P e=some s)
  (hS:(m=0∧new= []∧Src P s u y' 0 [] w)∨(0<m∧new.length=m*s∧ ∃(us:List Value),AppSrc P t u e s y' m us w∧us.length=m*s∧ ∀(j:Nat) (x u:Value),new[j]?=some x→us[j]?=some u→VR H.D ι x u))
  (hone: ∀us:List Value,us.length=m*s→new.length=m*s→(∀(j:Nat) (x u:Value),new[j]?=some x→us[j]?=some u→VR H.D ι x u)→ ∀u∈us,u.oneCell'=true)
  (hx:VR H.D ι (.slice (some ⟨l,o,none⟩) n c) x') (hb:H.get l=some b) (h:lappM P e s l o n c b m new H=some (v,H')):
  ∃v' w' ι',(Builtin.append_ #[t,u] ty #[x',y']).run P w=.ok v' w'∧Out P H ι w H' ι' w'∧VR H'.D ι' v v':=by
 unfold lappM at h
 split at h
 case isFalse=>cases h
 rename_i hcond
 obtain⟨hrw,hel,rfl,rfl,hclen,rfl,hn0,hm0,hmx⟩:=hcond
 simp only [Option.some.injEq,Prod.mk.injEq]at h
 obtain⟨rfl,rfl⟩:=h
 unfold maxElems at hmx
 rcases hS with⟨h0,_⟩|⟨_,hlen,us,hcells,hul,huv⟩
 ·omega
 have hone':=hone us hul hlen huv
 rw [Nat.mul_one]at hul hlen
 have hz0:(ι l).off=0:=by
  cases hx with
  |flat _ hf=>simp [flatB,flat1B,atomB]at hf
  |slice _ _ _ _ _ h _=>exact h
  |slice0 _ _ _ _ h=>exact h
 obtain⟨arr,t0,f0,hw0,hsz0,hcell0,hrwf⟩:=hrel.blk hb hz0
 obtain⟨g1,ge,s',g4,g5,g6⟩:=hrwf hrw
 have hs':s'=1:=by
  rcases ge with⟨h,_⟩|⟨_,h,_⟩
  ·rw [h,hel,sz_MK]at g4;cases g4
  ·rw [h]at g4;injection g4 with g4;exact g4.symm
 subst hs'
 obtain rfl:x'=.slice (some ⟨(ι l).blk,0,none⟩) n (n+(ι l).slack):=by
  cases hx with
  |flat _ hf=>simp [flatB,flat1B,atomB]at hf
  |slice _ _ _ _ _ _=>rw [g1]
  |slice0 _ _ ad _=>omega
 have hcapm:n+(ι l).slack≤maxLen:=g6 n (by omega) (by omega)
 have hlt:H.D l:=hrel.live hb
 obtain⟨g,cap,w',arr',t',f',hr,hh,hk,hcs,hnc,hcm,htake,hgr,hg⟩:=run_append_mk (P:=P) (w:=w) (ty:=ty) hu hi hz e1 hzs hw0 (fun k hk=>ge.free hk) (by omega) hcapm hcells hul hone' hmx hbytes
 have hsub: ∀k b',(H.kill l).get k=some b'→k≠l∧H.get k=some b':=fun k b' hk=>by
  change (if k=l then none else H.get k)=some b' at hk
  split at hk
  ·cases hk
  ·exact⟨‹_›,hk⟩
 have hEl:ElOk P (MK P e) t' f' arr'.size:=by
  rcases hk with⟨rfl,rfl,hsa⟩|⟨rfl,rfl⟩
  ·rw [hsa,←hel];exact ge
  ·exact .inr ⟨rfl,hsz,.inr rfl⟩
 have hst:sz P t'=some 1:=by
  rcases hk with⟨rfl,rfl,hsa⟩|⟨rfl,rfl⟩
  ·exact g4
  ·exact hsz
 have hrel2:Rel P ((H.kill l).new ⟨b.cells++new,MK P e,true⟩) (ι.add (H.kill l).n ⟨g,0,cap-(n+m)⟩) w':=by
  refine rel_growF (b:=⟨b.cells++new,MK P e,true⟩) (arr:=arr') (g:=g) (slack:=cap-(n+m)) (s:=1) (rel_kill hrel l) rfl hst hEl hh ?_ ?_ ?_ hgr (fun k b' hk e=>?_) (fun g0 hg0 e=>?_) hg
  ·show arr'.size=(b.cells++new).length+(cap-(n+m))*1
   rw [List.length_append];omega
  ·intro q _ hq
   have hq':(b.cells++new).length=q*1:=hq
   rw [List.length_append]at hq'
   omega
  ·intro j x hx
   have hx':(b.cells++new)[j]?=some x:=hx
   have hlt3:j<n+m:=by
    have:=(List.getElem?_eq_some_iff.1 hx').1
    rw [List.length_append]at this;omega
   have hat:(arr.toList.take n++us)[j]?=some ((arr.toList.take n++us)[j]'(by rw [List.length_append,List.length_take,Array.length_toList];omega)):=List.getElem?_eq_getElem _
   generalize ((arr.toList.take n++us)[j]'(by rw [List.length_append,List.length_take,Array.length_toList];omega))=y0 at hat
   refine⟨y0,?_,?_⟩
   ·rw [←htake,List.getElem?_take,if_pos hlt3]at hat
    rw [←Array.getElem?_toList];exact hat
   ·have hln:(arr.toList.take n).length=n:=by rw [List.length_take,Array.length_toList];omega
    rw [List.getElem?_append]at hx' hat
    rw [hln]at hat
    rw [hclen]at hx'
    split at hx'
    ·rename_i hj
     rw [if_pos hj,List.getElem?_take,if_pos hj]at hat
     obtain⟨y,hy,hv⟩:=hcell0 j x hx'
     rw [g1,Nat.zero_add]at hy
     rw [Array.getElem?_toList,hy]at hat
     injection hat with hat
     rw [←hat];exact hv
    ·rename_i hj
     rw [if_neg hj]at hat
     exact huv _ _ _ hx' hat
  ·obtain⟨hne,hk'⟩:=hsub k b' hk
   injection e with e
   exact hrel.sep l k b b' hb hk' hrw (fun e=>hne e.symm) e
  ·injection e with e
   exact(hrel.pin g0 hg0).2.2 ⟨l,b,hb,hrw,e⟩
 refine⟨_,w',_,hr,grow_whole (H0:=H.kill l) (rel_kill hrel l) (fun k b' hk=>(hsub k b' hk).2) rfl rfl rfl hrel2 rfl hgr (fun k e=>by injection e with e;exact⟨l,b,hb,hrw,e⟩) hg,?_⟩
 have:=VR.slice (n:=((H.kill l).new ⟨b.cells++new,MK P e,true⟩).D) (ι:=ι.add (H.kill l).n ⟨g,0,cap-(n+m)⟩) (H.kill l).n 0 (n+m) (n+m) ((D_new (rel_kill hrel l) _).2 (.inr rfl)) (by simp [Ren.add]) (Nat.le_refl _)
 have hcc:n+m+(cap-(n+m))=cap:=by omega
 show VR _ _ (.slice (some ⟨(H.kill l).n,0,none⟩) (n+m) (n+m)) _
 simpa [Ren.add,hcc]using this
theorem append_sound (hrel:Rel P H ι w) {t u ty:TypeId} {x y x' y':Value} (hx:VR H.D ι x x') (hy:VR H.D ι y y') (h:lappend P t u x y H=some (v,H')):
  ∃v' w' ι',(Builtin.append_ #[t,u] ty #[x',y']).run P w=.ok v' w'∧Out P H ι w H' ι' w'∧VR H'.D ι' v v':=by
 unfold lappend at h
 split at h
 case h_2=>cases h
 rename_i e hu
 split at h
 case h_2=>cases h
 rename_i s hs
 obtain⟨i,z,hi,hz,e1,hzs,hs0,hbytes,hsz⟩:=lesz_spec hs
 split at h
 case h_2=>cases h
 rename_i m new hsrc
 have hS:=src_sound hrel hs0 hu hy hsrc
 have ez: ∀ {ad:Option Addr} {n c:Nat},n≤c→Src P s u y' 0 [] w→(Builtin.append_ #[t,u] ty #[.slice ad n c,y']).run P w=.ok (.slice ad n c) w:=fun hn hs'=>run_append_nothing (P:=P) w t u ty e i hu hi _ _ _ hn _ (by rw [e1];exact hs')
 split at h
 case isFalse=>cases h
 rename_i hcell
 have hone: ∀us:List Value,us.length=m*s→new.length=m*s→(∀(j:Nat) (x u:Value),new[j]?=some x→us[j]?=some u→VR H.D ι x u)→ ∀u∈us,u.oneCell'=true:=fun us hul hlen huv u hu'=>by
  obtain⟨j,hj⟩:=List.getElem?_of_mem hu'
  have hlt:j<new.length:=by rw [hlen,←hul];exact(List.getElem?_eq_some_iff.1 hj).1
  exact cell_one (huv j _ u (List.getElem?_eq_getElem hlt) hj) ((List.all_eq_true.1 hcell) _ (List.getElem_mem hlt))
 split at h
 ·have hx':=flat_eq hx rfl
  subst hx'
  split at h
  ·rename_i hm
   subst hm
   simp only [Option.some.injEq,Prod.mk.injEq]at h
   obtain⟨rfl,rfl⟩:=h
   rcases hS with⟨_,_,hz0⟩|⟨h0,_⟩
   ·exact⟨_,w,ι,ez (Nat.le_refl _) hz0,Out.refl hrel,.flat _ rfl⟩
   ·omega
  ·rename_i hm
   split at h
   case isFalse=>cases h
   rename_i hmx
   simp only [Option.some.injEq,Prod.mk.injEq]at h
   obtain⟨rfl,rfl⟩:=h
   rcases hS with⟨h0,_⟩|⟨_,hlen,us,hcells,hul,huv⟩
   ·omega
   unfold maxElems at hmx
   have hb2:(0+m)*i.bytes≤140737488355328:=by
    have:=Nat.mul_le_mul (show 0+m≤1048576 by omega) hbytes
    omega
   obtain⟨g,cap,w',hr,hown,hgr,hg⟩:=run_append2x (P:=P) w t u ty e i z s i.bytes hu hi hz e1 rfl hzs hs0 (.slice none 0 0) 0 [] (World.ownsRow_nil w 0 e s) y' m us hcells (hone us hul hlen huv) (by omega) (by simp only [maxLen];omega) hb2
   simp only [Nat.zero_add]at hr hown
   have hg':(none:Option Nat)=some g∨g=w.heap.size:=by simpa [Value.ownBlock]using hg
   obtain⟨h1,h2⟩:=grow_out (olds:= []) (xs:= []) (row:=none) hrel hsz hs0 (by simpa using hlen) rfl (by rw [hul,hlen]) (by simp) huv hown hgr (fun _ _ _ h=>by cases h) (fun _ _ h=>by cases h) hg'
   exact⟨_,w',_,hr,grow_whole (H0:=H) hrel (fun _ _ h=>h) rfl rfl rfl h1 rfl hgr (fun _ h=>by cases h) hg',h2⟩
 ·rename_i l off n c
  split at h
  case h_2=>cases h
  rename_i b hb
  split at h
  case isFalse=>exact appM_sound hrel hu hi hz e1 hzs hbytes hsz hS hone hx hb h
  rename_i hcond
  obtain⟨hrw,rfl,rfl,hclen,hnc⟩:=hcond
  have hzo:(ι l).off=0:=by
   cases hx with
   |flat _ hf=>simp [flatB,flat1B,atomB]at hf
   |slice _ _ _ _ _ hq _=>exact hq
   |slice0 _ _ _ _ hq=>exact hq
  obtain⟨arr,t0,f0,hw0,hsz0,hcell0,hrwf⟩:=hrel.blk hb hzo
  obtain⟨g1,ge,s',g4,g5,g6⟩:=hrwf hrw
  obtain⟨rfl,rfl⟩:t0=b.elem∧f0=(0,0):=by
   rcases ge with h|⟨h,_⟩
   ·exact h
   ·rw [h,sz_MK]at hsz;cases hsz
  have es:s'=s:=by rw [hsz]at g4;injection g4 with g4;exact g4.symm
  subst es
  have hlt:H.D l:=hrel.live hb
  have hX:x'=.slice (some ⟨(ι l).blk,0,none⟩) n (c+(ι l).slack)∨(n=0∧c=0∧ ∃ad,x'=.slice (some ad) 0 0):=by
   cases hx with
   |flat _ hf=>simp [flatB,flat1B,atomB]at hf
   |slice _ _ _ _ _ _=>left;rw [g1]
   |slice0 _ _ ad _=>right;exact⟨rfl,rfl,ad,rfl⟩
  split at h
  ·rename_i hm
   subst hm
   simp only [Option.some.injEq,Prod.mk.injEq]at h
   obtain⟨rfl,rfl⟩:=h
   rcases hS with⟨_,_,hz0⟩|⟨h0,_⟩
   ·rcases hX with rfl|⟨rfl,rfl,ad,rfl⟩
    ·exact⟨_,w,ι,ez (by omega) hz0,Out.refl hrel,hx⟩
    ·exact⟨_,w,ι,ez (Nat.le_refl _) hz0,Out.refl hrel,hx⟩
   ·omega
  rename_i hm
  rcases hS with⟨h0,_⟩|⟨hm0,hlen,us,hcells,hul,huv⟩
  ·omega
  have hone':=hone us hul hlen huv
  split at h
  ·rename_i hroom
   simp only [Option.some.injEq,Prod.mk.injEq]at h
   obtain⟨rfl,rfl⟩:=h
   rcases hX with rfl|⟨rfl,rfl,ad,rfl⟩
   ·have hns:(n+m)*s'≤c*s':=Nat.mul_le_mul_right _ hroom
    rw [Nat.add_mul]at hns
    have hin:n*s'+us.length≤arr.size:=by rw [hul];omega
    have hr:=run_append_roomx (P:=P) w t u ty b.elem i hu hi (ι l).blk n (c+(ι l).slack) arr hw0 y' m us (by rw [e1];exact hcells) hone' (by omega) (by rw [e1];exact hin)
    have ho:=row_out (vs:=new) (us:=us) (o:=n*s') hrel hb hzo hrw (by rw [hlen];omega) (by rw [hul,hlen]) huv hw0 hin
    rw [e1]at hr
    refine⟨_,_,ι,hr,ho,?_⟩
    have:=VR.slice (n:=H.D) (ι:=ι) l 0 (n+m) c hlt hzo hroom
    rw [g1]at this
    exact this
   ·omega
  ·rename_i hroom
   split at h
   case isFalse=>cases h
   rename_i hgrow
   obtain⟨rfl,hmx⟩:=hgrow
   simp only [Option.some.injEq,Prod.mk.injEq]at h
   obtain⟨rfl,rfl⟩:=h
   unfold maxElems at hmx
   have hb2:(n+m)*i.bytes≤140737488355328:=by
    have:=Nat.mul_le_mul hmx hbytes
    omega
   have hsub: ∀k b',(H.kill l).get k=some b'→k≠l∧H.get k=some b':=fun k b' hk=>by
    change (if k=l then none else H.get k)=some b' at hk
    split at hk
    ·cases hk
    ·exact⟨‹_›,hk⟩
   rcases hX with rfl|⟨rfl,_,ad,rfl⟩
   ·have hcapm:n+(ι l).slack≤maxLen:=g6 n (by omega) hclen
    have hown:w.ownsRow 0 b.elem s' (.slice (some ⟨(ι l).blk,0,none⟩) n (n+(ι l).slack)) n (arr.toList.take (n*s')):=
     ⟨by simp;omega,.inr ⟨(ι l).blk,_,arr,rfl,Nat.zero_le _,hw0,by omega,hcapm,by rw [g5,hclen,Nat.add_mul],rfl⟩⟩
    obtain⟨g,cap,w',hr,hown',hgr,hg⟩:=run_append2x (P:=P) w t u ty b.elem i z s' i.bytes hu hi hz e1 rfl hzs hs0 _ n _ hown y' m us hcells hone' (by omega) (by simp only [maxLen];omega) hb2
    have hg':some (ι l).blk=some g∨g=w.heap.size:=by simpa [Value.ownBlock]using hg
    have hgr':w.grownBy w' (some (ι l).blk):=by simpa [Value.ownBlock]using hgr
    obtain⟨h1,h2⟩:=grow_out (H0:=H.kill l) (olds:=b.cells) (news:=new) (row:=some (ι l).blk) (rel_kill hrel l) hsz hs0 (by rw [hclen,hlen,Nat.add_mul]) (by rw [List.length_take,Array.length_toList];omega) (by rw [hul,hlen])
     (fun j x u hx hu'=>by
      rw [List.getElem?_take]at hu'
      split at hu'
      ·obtain⟨y,hy,hv⟩:=hcell0 j x hx
       rw [g1,Nat.zero_add]at hy
       rw [Array.getElem?_toList,hy]at hu'
       injection hu' with hu'
       rw [←hu'];exact hv
      ·cases hu') huv hown' hgr' (fun k b' hk e=>by
       obtain⟨hne,hk'⟩:=hsub k b' hk
       injection e with e
       exact hrel.sep l k b b' hb hk' hrw (fun e=>hne e.symm) e) (fun g0 hg0 e=>by
       injection e with e
       exact(hrel.pin g0 hg0).2.2 ⟨l,b,hb,hrw,e⟩) hg'
    exact⟨_,w',_,hr,grow_whole (H0:=H.kill l) (rel_kill hrel l) (fun k b' hk=>(hsub k b' hk).2) rfl rfl rfl h1 rfl hgr' (fun k e=>by injection e with e;exact⟨l,b,hb,hrw,e⟩) hg',h2⟩
   ·obtain⟨g,cap,w',hr,hown,hgr,hg⟩:=run_append2x (P:=P) w t u ty b.elem i z s' i.bytes hu hi hz e1 rfl hzs hs0 (.slice none 0 0) 0 [] (World.ownsRow_nil w 0 b.elem s') y' m us hcells hone' (by omega) (by simp only [maxLen];omega) hb2
    rw [←run_append_empty hu hi hz ad y' m us (by rw [e1];exact hul) (by rw [e1];exact hcells) hone' hm0 (by omega) hbytes]at hr
    have hg':(none:Option Nat)=some g∨g=w.heap.size:=by simpa [Value.ownBlock]using hg
    have hb0:b.cells= []:=List.eq_nil_of_length_eq_zero (by rw [hclen];simp)
    obtain⟨h1,h2⟩:=grow_out (H0:=H.kill l) (olds:=b.cells) (news:=new) (xs:= []) (row:=none) (rel_kill hrel l) hsz hs0 (by rw [hclen,hlen,Nat.add_mul]) (by rw [hb0]) (by rw [hul,hlen]) (by simp) huv hown hgr (fun _ _ _ h=>by cases h) (fun _ _ h=>by cases h) hg'
    exact⟨_,w',_,hr,grow_whole (H0:=H.kill l) (rel_kill hrel l) (fun k b' hk=>(hsub k b' hk).2) rfl rfl rfl h1 rfl hgr (fun _ h=>by cases h) hg',h2⟩
 ·cases h
end
def allocB:Op→Bool
 |.box _ _|.alloc _|.buildSlice _ _ _|.makeSlice _ _ _|.makeMap _ none=>true
 |_=>false
section
variable {P:Program} {T:Callee} {N:Nat} {fr:Fr} {HS H H':LH} {o:Oper} {a:Act} {w:World} {v:Value} {ι:Ren}
theorem one_row {m n:Nat} (h0:m≠0) (h:m=n*m):n≤maxLen:=by
 have:n=1:=by
  rcases Nat.eq_zero_or_pos n with h1|h1
  ·subst h1;omega
  ·rcases Nat.lt_or_ge 1 n with h2|h2
   ·have:=Nat.mul_le_mul_right m h2
    omega
   ·omega
 subst this;simp [maxLen]
theorem alloc_at (hfr:FrR HS.D ι N fr a.tmps) (h:lop P T o fr H=some (v,H')) (hk:allocB o.op=true): ∃b,H'=H.new b∧ ∀w:World,∃w1 im v',(execOp a.eval o).run P w=.ok (.value v') w1∧NewAt P HS.D ι b w w1 im∧
  ∀(D':Nat→Prop) (ι':Ren),D' H.n→ι' H.n=im→VR D' ι' v v':=by
 unfold lop at h
 split at h<;>try (rename_i ho;rw [ho]at hk;cases hk;done)
 ·rename_i e x ho
  split at h
  ·rename_i hc
   simp only [Option.some.injEq,Prod.mk.injEq]at h;obtain⟨rfl,rfl⟩:=h
   simp only [Bool.and_eq_true,beq_iff_eq]at hc
   obtain⟨k1,k2⟩:=vr_cells (hfr.ev x) hc.1
   refine⟨_,rfl,fun w=>⟨_,_,.pointer (some ⟨w.heap.size,0,none⟩),?_,new_cells (b:=⟨(ev fr x).cells.toList,e,true⟩) (arr:=(a.eval x).cells) rfl hc.2 (by simp [k1]) (fun n h0 h1=>one_row h0 (by simpa using h1)) (fun i y hy=>?_) w,fun D' ι' h1 h2=>?_⟩⟩
   ·unfold execOp;simp only [ho,Instr.box,newVar,newRow,newObj,Sem.run_bind,Sem.run_pure,Result.andThen_ok];rfl
   ·have hy':(ev fr x).cells[i]?=some y:=by simpa using hy
    have hlt:i<(a.eval x).cells.size:=by rw [←k1];exact(Array.getElem?_eq_some_iff.1 hy').1
    exact⟨_,Array.getElem?_eq_getElem hlt,k2 i _ _ hy' (Array.getElem?_eq_getElem hlt)⟩
   ·have:=VR.ptr (n:=D') (ι:=ι') H.n 0 h1 (by rw [h2])
    simpa [h2]using this
  ·cases h
 ·rename_i e ho
  split at h
  ·rename_i z hz
   split at h
   ·rename_i hc
    simp only [Option.some.injEq,Prod.mk.injEq]at h;obtain⟨rfl,rfl⟩:=h
    simp only [Bool.and_eq_true,beq_iff_eq]at hc
    refine⟨_,rfl,fun w=>⟨_,_,.pointer (some ⟨w.heap.size,0,none⟩),?_,new_cells (b:=⟨z.cells.toList,e,true⟩) (arr:=z.cells) rfl hc.2 (by simp) (fun n h0 h1=>one_row h0 (by simpa using h1)) (fun i y hy=>?_) w,fun D' ι' h1 h2=>?_⟩⟩
    ·unfold execOp;simp only [ho,Instr.alloc,Sem.run_bind,run_zero hz,newVar,newRow,newObj,Sem.run_pure,Result.andThen_ok];rfl
    ·have hy':z.cells[i]?=some y:=by simpa using hy
     exact⟨y,hy',flat_cells hc.1 _ _ (flat_known hc.1) hy'⟩
    ·have:=VR.ptr (n:=D') (ι:=ι') H.n 0 h1 (by rw [h2])
     simpa [h2]using this
   ·cases h
  ·cases h
 ·rename_i t len parts ho
  unfold lbuildSlice at h
  split at h
  ·rename_i e hu
   split at h
   ·rename_i s z hs hz
    split at h
    ·rename_i hc
     simp only [Bool.and_eq_true,decide_eq_true_eq,beq_iff_eq]at hc
     obtain⟨⟨⟨⟨hf,hs0⟩,hlen⟩,hzs⟩,hk⟩:=hc
     split at h
     ·rename_i cs hcs
      split at h
      ·rename_i hsize
       simp only [Option.some.injEq,Prod.mk.injEq]at h
       obtain⟨rfl,rfl⟩:=h
       have hz0: ∀(i:Nat) (x y:Value),((Array.range (len*s)).map fun j=>z.cells[j%z.cells.size]!)[i]?=some x→((Array.range (len*s)).map fun j=>z.cells[j%z.cells.size]!)[i]?=some y→VR HS.D ι x y:=by
        intro i x y hx hy
        rw [hx]at hy;injection hy with hy;rw [←hy]
        rw [Array.getElem?_map]at hx
        cases hr:(Array.range (len*s))[i]? with
        |none=>simp [hr]at hx
        |some j=>
         simp only [hr,Option.map_some,Option.some.injEq]at hx
         have hm:j%z.cells.size<z.cells.size:=Nat.mod_lt _ (by omega)
         rw [getElem!_pos z.cells _ hm]at hx
         exact flat_cells hf _ _ (flat_known hf) (i:=j%z.cells.size) (by rw [Array.getElem?_eq_getElem hm,hx])
       obtain⟨ds,hds,hr⟩:=fill_rel (ι:=ι) (n:=HS.D) _ (parts.map fun(i,x)=>(i,a.eval x)).toList _ _ cs (by simp) (parts_rel hfr hk) ⟨rfl,hz0⟩ hcs
       refine⟨_,rfl,fun w=>⟨_,_,.slice (some ⟨w.heap.size,0,none⟩) len len,?_,new_cells (b:=⟨cs.toList,e,true⟩) (arr:=ds) rfl hs (by simp [hr.1]) (fun n h0 h1=>?_) (fun i x hx=>?_) w,fun D' ι' h1 h2=>?_⟩⟩
       ·unfold execOp
        simp only [ho,Instr.buildSlice,Sem.run_bind,run_underlying hu,Result.andThen_ok,run_sizeOf' hs]
        rw [if_neg (by omega)]
        by_cases h0:len*s=0
        ·have:((Array.range (len*s)).map fun j=>z.cells[j%z.cells.size]!)=((Array.range (len*s)).map fun j=>(#[]:Array Value)[j%(#[]:Array Value).size]!):=by rw [h0];simp
         rw [this]at hds
         simp only [h0,if_true,Sem.run_bind,Sem.run_pure,Result.andThen_ok]at hds⊢
         rw [hds]
         simp only [newRow,newObj,Sem.run_bind,Result.andThen_ok,Sem.run_pure];rfl
        ·simp only [if_neg h0,Sem.run_bind,run_zero hz,Sem.run_pure,Result.andThen_ok]
         rw [hds]
         simp only [newRow,newObj,Sem.run_bind,Result.andThen_ok,Sem.run_pure];rfl
       ·have h1':len*s=n*s:=by rw [←hsize];simpa using h1
        have:len=n:=Nat.eq_of_mul_eq_mul_right hs0 h1'
        have hle:len*1≤len*s:=Nat.mul_le_mul_left _ hs0
        simp only [maxLen];omega
       ·have hx':cs[i]?=some x:=by simpa using hx
        have hlt:i<ds.size:=by rw [←hr.1];exact(Array.getElem?_eq_some_iff.1 hx').1
        exact⟨_,Array.getElem?_eq_getElem hlt,hr.2 i _ _ hx' (Array.getElem?_eq_getElem hlt)⟩
       ·have:=VR.slice (n:=D') (ι:=ι') H.n 0 len len h1 (by rw [h2]) (Nat.le_refl _)
        simpa [h2]using this
      ·cases h
     ·cases h
    ·cases h
   ·cases h
  ·cases h
 ·rename_i t x y ho
  unfold lmake at h
  split at h
  ·rename_i e k1 l k2 c hu hx hy
   split at h
   ·rename_i it hi
    split at h
    ·rename_i z hz
     split at h
     ·rename_i hc
      simp only [Bool.and_eq_true,decide_eq_true_eq,beq_iff_eq]at hc
      obtain⟨⟨⟨⟨⟨⟨hf,hs0⟩,hl0⟩,hlc⟩,hcs⟩,hby⟩,hzs⟩:=hc
      simp only [Option.some.injEq,Prod.mk.injEq]at h
      obtain⟨rfl,rfl⟩:=h
      have hs:sz P e=some it.size:=by unfold sz;rw [hi];rfl
      have hzr:zr P e=some z:=by unfold zr;rw [hi];exact hz
      have ex:a.eval x=.int k1 l:=by have:=hfr.ev x;rw [hx]at this;exact flat_eq this rfl
      have ey:a.eval y=.int k2 c:=by have:=hfr.ev y;rw [hy]at this;exact flat_eq this rfl
      have hcm:c.toNat≤1048576:=Nat.le_trans (Nat.le_mul_of_pos_right _ hs0) hcs
      refine⟨_,rfl,fun w=>⟨_,_,.slice (some ⟨w.heap.size,0,none⟩) l.toNat c.toNat,?_,new_cells (b:=⟨((Array.range (c.toNat*it.size)).map fun j=>z.cells[j%z.cells.size]!).toList,e,true⟩) (arr:=(Array.range (c.toNat*it.size)).map fun j=>z.cells[j%z.cells.size]!) rfl hs (by simp) (fun n h0 h1=>?_) (fun i x hx=>?_) w,fun D' ι' h1 h2=>?_⟩⟩
      ·unfold execOp
       have w1:IntKind.i64.wrap l=l:=IntWalk.i64_in _ ⟨by omega,by omega⟩
       have w2:IntKind.i64.wrap c=c:=IntWalk.i64_in _ ⟨by omega,by omega⟩
       have hbc:c.toNat*it.bytes≤1048576*1048576:=Nat.mul_le_mul hcm hby
       have hbc':(it.bytes:Int)*c≤2^48:=by
        have e1:(it.bytes:Int)*c=((c.toNat*it.bytes:Nat):Int):=by rw [Int.natCast_mul,Int.toNat_of_nonneg (by omega),Int.mul_comm]
        rw [e1]
        have:((c.toNat*it.bytes:Nat):Int)≤((1048576*1048576:Nat):Int):=Int.ofNat_le.2 hbc
        omega
       have hroom: ¬(c.toNat*it.bytes>roomBytes):=by unfold roomBytes;omega
       have h1: ¬(c<0):=by omega
       have h2: ¬(l<0):=by omega
       have h3: ¬(c<l):=by omega
       have h4: ¬(281474976710656<(it.bytes:Int)*c):=by omega
       by_cases h0:c.toNat*it.size=0
       ·simp [ho,ex,ey,Instr.makeSlice,Sem.run_bind,run_underlying hu,asInt,asIntOf,typeInfo,hi,w1,w2,h1,h2,h3,h4,askRoom,hroom,run_sizeOf' hs,h0,newRow,newObj,show Array.range 0=#[] from rfl]
        rfl
       ·simp [ho,ex,ey,Instr.makeSlice,Sem.run_bind,run_underlying hu,asInt,asIntOf,typeInfo,hi,w1,w2,h1,h2,h3,h4,askRoom,hroom,run_sizeOf' hs,h0,run_zero hzr,newRow,newObj]
        rfl
      ·have h1':c.toNat*it.size=n*it.size:=by simpa using h1
       have:c.toNat=n:=Nat.eq_of_mul_eq_mul_right hs0 h1'
       simp only [maxLen];omega
      ·have hx':((Array.range (c.toNat*it.size)).map fun j=>z.cells[j%z.cells.size]!)[i]?=some x:=by rw [←Array.getElem?_toList];exact hx
       refine⟨x,hx',?_⟩
       rw [Array.getElem?_map]at hx'
       cases hr:(Array.range (c.toNat*it.size))[i]? with
       |none=>simp [hr]at hx'
       |some j=>
        simp only [hr,Option.map_some,Option.some.injEq]at hx'
        have hm:j%z.cells.size<z.cells.size:=Nat.mod_lt _ (by omega)
        rw [getElem!_pos z.cells _ hm]at hx'
        exact flat_cells hf _ _ (flat_known hf) (i:=j%z.cells.size) (by rw [Array.getElem?_eq_getElem hm,hx'])
      ·have:=VR.slice (n:=D') (ι:=ι') H.n 0 l.toNat c.toNat h1 (by rw [h2]) (by omega)
       simpa [h2]using this
     ·cases h
    ·cases h
   ·cases h
  ·cases h
 ·rename_i t ho
  simp only [Option.some.injEq,Prod.mk.injEq]at h;obtain⟨rfl,rfl⟩:=h
  refine⟨_,rfl,fun w=>⟨_,_,.map (some w.heap.size),?_,new_map w,fun D' ι' h1 h2=>?_⟩⟩
  ·unfold execOp;simp [ho,Instr.makeMap]
  ·have:=VR.map (n:=D') (ι:=ι') H.n h1 (by rw [h2])
   simpa [h2]using this
 ·obtain⟨u,hu,_⟩:=Option.map_eq_some_iff.1 h
  generalize o.op=op at hu hk
  cases op<;>first|(cases hk;done)|(cases hu;done)
theorem bytes_at {D:Nat→Prop} {x:Operand} (hx0:VR D ι (ev fr x) (a.eval x)) {s d:TypeId} (ho:o.op=.convert s d x) (hv:lbytes P s d (ev fr x) H=some (v,H')): ∃b,H'=H.new b∧ ∀w:World,∃w1 im v',(execOp a.eval o).run P w=.ok (.value v') w1∧NewAt P D ι b w w1 im∧
  ∀(D':Nat→Prop) (ι':Ren),D' H.n→ι' H.n=im→VR D' ι' v v':=by
 unfold lbytes at hv
 split at hv
 ·rename_i e bs hs hd hx
  split at hv
  ·rename_i he
   split at hv
   case isFalse=>cases hv
   rename_i hsz1
   simp only [Option.some.injEq,Prod.mk.injEq]at hv
   obtain⟨rfl,rfl⟩:=hv
   rw [hx]at hx0
   have h2:=flat_eq hx0 rfl
   refine⟨_,rfl,fun w=>?_⟩
   have hcap:=grownCap_ge w bs.size 0 e
   refine⟨Lib.bytesWorld w e bs,⟨w.heap.size,0,grownCap w bs.size 0 e-bs.size⟩,.slice (some ⟨w.heap.size,0,none⟩) bs.size (grownCap w bs.size 0 e),?_,⟨?_,rfl,.inl ⟨rfl,Lib.bytesCells w e bs,e,_,Lib.bytesWorld_at_new w e bs,by simp [Lib.bytesCells,Lib.strCells_length],fun i y hy=>?_,fun hr=>⟨rfl,.inr ⟨rfl,hsz1,.inl rfl⟩,1,hsz1,by simp [Lib.bytesCells,Lib.strCells_length],fun n _ hn=>?_⟩⟩⟩,fun D' ι' h1 h2=>?_⟩
   ·unfold execOp
    simp only [ho,h2,Sem.run_bind,Lib.run_convert_string_bytes w s d e bs hs hd he,Result.andThen_ok,Sem.run_pure]
   ·refine⟨?_,?_,?_,by rw [Lib.bytesWorld_size];omega,fun k hk _=>Lib.bytesWorld_at_old w e bs k hk⟩<;>(unfold Lib.bytesWorld World.freeze;split<;>rfl)
   ·have hi:i<(Lib.strCells bs).length:=(List.getElem?_eq_some_iff.1 hy).1
    rw [Lib.strCells_length]at hi
    unfold Lib.strCells at hy
    rw [List.getElem?_map]at hy
    obtain⟨c,hc,rfl⟩:=Option.map_eq_some_iff.1 hy
    refine⟨_,?_,.flat _ rfl⟩
    rw [Nat.zero_add]
    unfold Lib.bytesCells
    rw [Array.getElem?_append_left (by simpa using hi),Array.getElem?_map,←Array.getElem?_toList,hc];rfl
   ·have hl:bs.size≤maxLen:=by simpa using hr
    have:=grownCap_le_maxLen w bs.size 0 e hl
    simp only [Lib.strCells_length,Nat.mul_one]at hn⊢
    omega
   ·have:=VR.slice (n:=D') (ι:=ι') H.n 0 bs.size bs.size h1 (by rw [h2]) (Nat.le_refl _)
    rw [h2]at this
    simp only [Nat.add_zero]at this
    rw [show bs.size+(grownCap w bs.size 0 e-bs.size)=grownCap w bs.size 0 e by omega]at this
    exact this
  ·cases hv
 ·cases hv
theorem new_ok (hrel:Rel P H ι w) (h: ∃b,H'=H.new b∧ ∀w:World,∃w1 im v',(execOp a.eval o).run P w=.ok (.value v') w1∧NewAt P H.D ι b w w1 im∧ ∀(D':Nat→Prop) (ι':Ren),D' H.n→ι' H.n=im→VR D' ι' v v'):OpOk P H ι o a w v H':=by
 obtain⟨b,rfl,hw⟩:=h
 obtain⟨w1,im,v',hrun,hnew,hvr⟩:=hw w
 obtain⟨h1,h2,h3⟩:=rel_new hrel hnew
 exact opok_world hrun h1 (hvr _ _ h2 h3)
end
section
variable {P:Program} {T:Callee} {H H' H1:LH} {ι:Ren} {o:Oper} {a:Act} {w:World} {v v':Value} {N:Nat} {fr fr':Fr}
theorem args_rel (hfr:FrR H.D ι N fr a.tmps) (args:Array Operand):(args.toList.map (ev fr)).length=(args.map a.eval).size∧ ∀(i:Nat) (x y:Value),(args.toList.map (ev fr))[i]?=some x→(args.map a.eval)[i]?=some y→VR H.D ι x y:=by
 refine⟨by simp,fun i x y hx hy=>?_⟩
 rw [List.getElem?_map,Array.getElem?_toList]at hx
 rw [Array.getElem?_map]at hy
 cases h:args[i]? with
 |none=>simp [h]at hx
 |some z=>
  simp only [h,Option.map_some,Option.some.injEq]at hx hy
  rw [←hx,←hy];exact hfr.ev z
theorem builtin_read (hrel:Rel P H ι w) {b:Builtin} {ats:List TypeId} {args:List Value} {args':Array Value} {ty:TypeId} {cs:Array Bool} (hl:args.length=args'.size) (hb:b≠.append∧b≠.delete∧b≠.clear)
  (hv: ∀(i:Nat) (x y:Value),args[i]?=some x→args'[i]?=some y→VR H.D ι x y) (h:lbuiltin P b ats args H=some (v,H')):
  H'=H∧ ∃v',VR H.D ι v v'∧ ∀w':World,Change (fun _=>False) w w'→(builtin b ats.toArray ty cs args').run P w'=.ok (.value v') w':=by
 unfold lbuiltin at h
 split at h
 ·rename_i t x
  obtain⟨y,rfl⟩: ∃y,args'=#[y]:=by
   obtain⟨l⟩:=args'
   match l,hl with
   | [y],_=>exact⟨y,rfl⟩
  have hxy:=hv 0 x y rfl rfl
  split at h
  ·rename_i s hu
   simp only [Option.some.injEq,Prod.mk.injEq]at h
   obtain⟨rfl,rfl⟩:=h
   have:=flat_eq hxy rfl
   subst this
   exact⟨rfl,_,.flat _ rfl,fun w _=>by simp [builtin,Builtin.len_,Sem.run_bind,run_underlying hu,goInt]⟩
  ·rename_i b' n c hu
   simp only [Option.some.injEq,Prod.mk.injEq]at h
   obtain⟨rfl,rfl⟩:=h
   obtain⟨b2,c2,rfl,_⟩:=vr_slice hxy
   exact⟨rfl,_,.flat _ rfl,fun w _=>by simp [builtin,Builtin.len_,Sem.run_bind,run_underlying hu,goInt]⟩
  ·rename_i hu
   simp only [Option.some.injEq,Prod.mk.injEq]at h
   obtain⟨rfl,rfl⟩:=h
   have:=flat_eq hxy rfl
   subst this
   exact⟨rfl,_,.flat _ rfl,fun w _=>by simp [builtin,Builtin.len_,Sem.run_bind,run_underlying hu,goInt]⟩
  ·rename_i l hu
   obtain⟨b,hb,h⟩:=Option.map_eq_some_iff.1 h
   simp only [Prod.mk.injEq]at h
   obtain⟨rfl,rfl⟩:=h
   obtain⟨rfl,hl,h0⟩:=vr_map hxy
   obtain⟨es,g1,g2,g3⟩:=hrel.map hb h0
   have e:b.cells.length/3=es.size:=by have:=g3.len;simp at this;omega
   refine⟨rfl,_,.flat _ rfl,fun w' hw'=>?_⟩
   have hw2:w'.heap[(ι l).blk]?=some (.map es b.elem):=by rw [hw'.block _ (Array.getElem?_eq_some_iff.1 g1).1 (fun h=>h)];exact g1
   simp [builtin,Builtin.len_,Sem.run_bind,run_underlying hu,goInt,MapKept.run_getObj_map hw2,e]
  ·cases h
 ·exact absurd rfl hb.2.1
 ·exact absurd rfl hb.2.2
 ·exact absurd rfl hb.1
 all_goals first
  |(rename_i k x k' y
    simp only [Option.some.injEq,Prod.mk.injEq]at h
    obtain⟨rfl,rfl⟩:=h
    obtain⟨x',y',rfl⟩: ∃x' y',args'=#[x',y']:=by
     obtain⟨l⟩:=args'
     match l,hl with
     | [y,z],_=>exact⟨y,z,rfl⟩
    have e1:=flat_eq (hv 0 _ x' rfl rfl) rfl
    have e2:=flat_eq (hv 1 _ y' rfl rfl) rfl
    subst e1 e2
    exact⟨rfl,_,.flat _ rfl,fun w _=>by simp [builtin,Builtin.min_,Builtin.min2,Builtin.max_,Builtin.max2,Sem.run_bind]⟩)
  |cases h
theorem clear_run {ι:Ren} {w:World} (hrel:Rel P H ι w) {t:TypeId} {v x':Value} (hv:VR H.D ι v x') (h:lclr P t v H=some H1):
  ∃w1,(∀(ty:TypeId) (cs:Array Bool),(builtin .clear #[t] ty cs #[x']).run P w=.ok (.value (.tuple #[])) w1)∧Out P H ι w H1 ι w1:=by
 unfold lclr at h
 split at h
 ·rename_i e ad n c hu
  split at h
  ·rename_i hn
   simp only [Option.some.injEq]at h
   subst h hn
   obtain⟨b2,c2,rfl,_⟩:=vr_slice hv
   exact⟨w,fun ty cs=>by cases b2<;>simp [builtin,Builtin.clear_,Sem.run_bind,run_underlying hu],Out.refl hrel⟩
  ·rename_i hn
   split at h
   ·rename_i l off z hz
    split at h
    ·rename_i b hb
     split at h
     ·rename_i hc
      obtain⟨hrw,hall,hle⟩:=hc
      simp only [Option.some.injEq]at h
      subst h
      obtain⟨n,rfl⟩: ∃m,n=m+1:=⟨n-1,by omega⟩
      have hcell: ∀x∈(Builtin.zeroCells z.cells (n+1)).toList,cellB x=true∧flatB x=true:=fun x hx=>by
       have:=List.all_eq_true.1 hall x hx
       simpa using this
      have hvr: ∀(i:Nat) x y,(Builtin.zeroCells z.cells (n+1)).toList[i]?=some x→(Builtin.zeroCells z.cells (n+1)).toList[i]?=some y→VR H.D ι x y:=fun i x y hx hy=>by
       rw [hx]at hy
       injection hy with hy
       subst hy
       exact .flat _ (hcell _ (List.mem_of_getElem? hx)).2
      have hz0:(ι l).off=0:=by
       cases hv with
       |flat _ hf=>simp [flatB,flat1B,atomB]at hf
       |slice _ _ _ _ _ hq _=>exact hq
      obtain⟨w1,hr,ho⟩:=row_sound (o:=off) hrel hb hz0 hrw hle rfl hvr (fun u hu'=>cell_one (VR.flat (n:=H.D) (ι:=ι) u (hcell u hu').2) (hcell u hu').1)
      refine⟨w1,fun ty cs=>?_,ho⟩
      have hX: ∃c2,x'=.slice (some ⟨(ι l).blk,(ι l).off+off,none⟩) (n+1) c2:=by
       cases hv with
       |flat _ hf=>simp [flatB,flat1B,atomB]at hf
       |slice _ _ _ _ _ _=>exact⟨_,rfl⟩
      obtain⟨c2,rfl⟩:=hX
      simp [builtin,Builtin.clear_,Sem.run_bind,run_underlying hu,run_zero hz,hr]
     ·cases h
    ·cases h
   ·cases h
 ·rename_i hu
  simp only [Option.some.injEq]at h
  subst h
  have:=flat_eq hv rfl
  subst this
  exact⟨w,fun ty cs=>by simp [builtin,Builtin.clear_,Sem.run_bind,run_underlying hu],Out.refl hrel⟩
 ·rename_i l hu
  split at h
  ·rename_i b hb
   split at h
   ·rename_i hrw
    simp only [Option.some.injEq]at h
    subst h
    obtain⟨rfl,hl,h0⟩:=vr_map hv
    obtain⟨es,g1,g2,g3⟩:=hrel.map hb h0
    exact⟨_,fun ty cs=>by simp [builtin,Builtin.clear_,Sem.run_bind,run_underlying hu,MapKept.run_getObj_map g1,MapKept.run_setObj_map _ g1],map_set (b':= { b with cells:= [] }) (es':=#[]) hrel hb h0 hrw g1 (MapKept.stamped_empty _) trivial⟩
   ·cases h
  ·cases h
 ·cases h
theorem builtin_run (hrel:Rel P H ι w) {b:Builtin} {ats:List TypeId} {args:List Value} {args':Array Value} {ty:TypeId} {cs:Array Bool} (hl:args.length=args'.size)
  (hv: ∀(i:Nat) (x y:Value),args[i]?=some x→args'[i]?=some y→VR H.D ι x y) (h:lbuiltin P b ats args H=some (v,H')):
  ∃v' w' ι',(builtin b ats.toArray ty cs args').run P w=.ok (.value v') w'∧Out P H ι w H' ι' w'∧VR H'.D ι' v v':=by
 by_cases hb:b≠.append∧b≠.delete∧b≠.clear
 ·obtain⟨rfl,v',h1,h2⟩:=builtin_read (ty:=ty) (cs:=cs) hrel hl hb hv h
  exact⟨v',w,ι,h2 w (Change.refl _ w),Out.refl hrel,h1⟩
 have two:args.length=2→ ∃x' y',args'=#[x',y']:=fun h2=>by
  obtain⟨l⟩:=args'
  rw [h2]at hl
  match l,hl with
  | [y,z],_=>exact⟨y,z,rfl⟩
 unfold lbuiltin at h
 split at h
 ·exact absurd ⟨by simp,by simp,by simp⟩ hb
 ·rename_i t u x y
  obtain⟨x',y',rfl⟩:=two rfl
  obtain⟨H1,h1,h2⟩:=Option.map_eq_some_iff.1 h
  simp only [Prod.mk.injEq]at h2
  obtain⟨rfl,rfl⟩:=h2
  obtain⟨w',hr,ho⟩:=del_ok (kt':=u) (ty:=ty) hrel (hv 0 x x' rfl rfl) (hv 1 y y' rfl rfl) h1
  exact⟨.tuple #[],w',ι,by simp only [builtin,Sem.run_bind,hr,Result.andThen_ok,Sem.run_pure],ho,.flat _ rfl⟩
 ·rename_i t x
  obtain⟨x',rfl⟩: ∃x',args'=#[x']:=by
   obtain⟨l⟩:=args'
   match l,hl with
   | [y],_=>exact⟨y,rfl⟩
  obtain⟨H1,h1,h2⟩:=Option.map_eq_some_iff.1 h
  simp only [Prod.mk.injEq]at h2
  obtain⟨rfl,rfl⟩:=h2
  obtain⟨w1,hr,ho⟩:=clear_run hrel (hv 0 x x' rfl rfl) h1
  exact⟨.tuple #[],w1,ι,hr ty cs,ho,.flat _ rfl⟩
 ·rename_i t u x y
  obtain⟨x',y',rfl⟩:=two rfl
  obtain⟨v',w',ι',hr,ho,hvr⟩:=append_sound (ty:=ty) hrel (hv 0 x x' rfl rfl) (hv 1 y y' rfl rfl) h
  exact⟨v',w',ι',by simp only [builtin,Sem.run_bind,hr,Result.andThen_ok,Sem.run_pure],ho,hvr⟩
 all_goals first
  |(cases h;done)
  |exact absurd ⟨by simp,by simp,by simp⟩ hb
theorem builtin_ok (hrel:Rel P H ι w) (hfr:FrR H.D ι N fr a.tmps) {c:Call} {b:Builtin} (ho:o.op=.call c) (hc:c.callee=.builtin b) (h:lbuiltin P b c.argTypes.toList (c.args.toList.map (ev fr)) H=some (v,H')):OpOk P H ι o a w v H':=by
 obtain⟨h1,h2⟩:=args_rel hfr c.args
 obtain⟨v',w',ι',hr,hout,hvr⟩:=builtin_run (ty:=o.type) (cs:=c.args.map fun|.const _=>true|_=>false) hrel h1 h2 h
 refine opok_world (v':=v') ?_ hout hvr
 unfold execOp
 simp only [ho,resolve,hc,Sem.run_bind,Sem.run_pure,Result.andThen_ok,invoke]
 exact hr
theorem enter_run {g:FuncId} (hg:Entered P g) (args:Array Value):(callFunc g args).run P w=.ok (.enter g args) w:=by
 obtain⟨fn,hf,hb,hn⟩:=hg
 unfold callFunc
 have h1:(fn.name== "runtime.NumGoroutine")=false:=by simpa using hn
 have h2:fn.body.isNone=false:=by cases hq:fn.body<;>simp_all
 have hp:(program).run P w=.ok P w:=rfl
 simp only [Sem.run_bind,hp,Result.andThen_ok,hf,h1,h2,Bool.false_eq_true,if_false,Sem.run_pure]
theorem callee_run (hfr:FrR H.D ι N fr a.tmps) {c:Call} {f:Operand} (ho:o.op=.call c) (hc:c.callee=.value f) {g:FuncId} {first captured:Array Value} (hf:ev fr f=.func (.func g) first captured) (hg:Entered P g):
  ∃fst' cap',(execOp a.eval o).run P w=.ok (.enter g (fst'++c.args.map a.eval++cap')) w∧(first.size=fst'.size∧ ∀(i:Nat) (x y:Value),first[i]?=some x→fst'[i]?=some y→VR H.D ι x y)∧captured.size=cap'.size∧ ∀(i:Nat) (x y:Value),captured[i]?=some x→cap'[i]?=some y→VR H.D ι x y:=by
 have h1:=hfr.ev f
 rw [hf]at h1
 have h2: ∃fst' cap',a.eval f=.func (.func g) fst' cap'∧(first.size=fst'.size∧ ∀(i:Nat) (x y:Value),first[i]?=some x→fst'[i]?=some y→VR H.D ι x y)∧captured.size=cap'.size∧ ∀(i:Nat) (x y:Value),captured[i]?=some x→cap'[i]?=some y→VR H.D ι x y:=by
  generalize a.eval f=y at h1
  cases h1 with
  |flat _ hv=>
   have e0:first.size=0∧captured.size=0:=by simpa [flatB,flat1B,atomB]using hv
   have e1:first=#[]:=Array.eq_empty_of_size_eq_zero e0.1
   have e2:captured=#[]:=Array.eq_empty_of_size_eq_zero e0.2
   subst e1 e2
   exact⟨_,_,rfl,⟨rfl,fun i x y hx _=>by simp at hx⟩,rfl,fun i x y hx _=>by simp at hx⟩
  |func _ _ b _ d g1 g2 g3 g4=>exact⟨b,d,rfl,⟨g1,g3⟩,g2,g4⟩
 obtain⟨fst',cap',e,h3,h4⟩:=h2
 refine⟨fst',cap',?_,h3,h4⟩
 unfold execOp
 simp only [ho,resolve,hc,e,Deferred.ofValue,Sem.run_bind,Sem.run_pure,Result.andThen_ok,invoke]
 exact enter_run hg _
theorem arr_flat {D:Nat→Prop} {b d:Array Value} (hs:b.size=d.size) (hb: ∀x∈b.toList,flatB x=true) (hr: ∀(i:Nat) (x y:Value),b[i]?=some x→d[i]?=some y→VR D ι x y):d=b:=by
 apply Array.ext
 ·exact hs.symm
 ·intro i h3 h4
  exact flat_eq (hr i _ _ (Array.getElem?_eq_getElem h4) (Array.getElem?_eq_getElem h3)) (hb _ (by simp))
theorem callee_ext (hfr:FrR H.D ι N fr a.tmps) {c:Call} {f:Operand} (ho:o.op=.call c) (hc:c.callee=.value f) {g:FuncId} {first captured:Array Value} (hf:ev fr f=.func (.func g) first captured) {v:Value}
  (hx:ExtRun P g (first.toList++c.args.toList.map (ev fr)++captured.toList) v):(execOp a.eval o).run P w=.ok (.value v) w:=by
 obtain⟨hx1,hx2,hx3⟩:=hx
 have h1:=hfr.ev f
 rw [hf]at h1
 have h2:a.eval f=.func (.func g) first captured:=by
  generalize a.eval f=y at h1
  cases h1 with
  |flat _ hv=>rfl
  |func _ _ b _ d g1 g2 g3 g4=>
   rw [arr_flat g1 (fun x hx=>hx1 x (by simp at hx⊢;exact .inl hx)) g3,arr_flat g2 (fun x hx=>hx1 x (by simp at hx⊢;exact .inr (.inr hx))) g4]
 have h3:c.args.map a.eval=c.args.map (ev fr):=by
  apply Array.ext
  ·simp
  ·intro i h3 h4
   simp only [Array.getElem_map]
   refine flat_eq (hfr.ev _) (hx1 _ (List.mem_append_left _ (List.mem_append_right _ ?_)))
   refine List.mem_map.2 ⟨c.args[i]'(by simpa using h4),by simp,rfl⟩
 have h4:=hx3 w
 unfold execOp
 simp only [ho,resolve,hc,h2,Deferred.ofValue,Sem.run_bind,Sem.run_pure,Result.andThen_ok,invoke]
 rw [show(first++c.args.map a.eval++captured:Array Value)=(first.toList++c.args.toList.map (ev fr)++captured.toList).toArray by rw [h3];apply Array.ext';simp]
 exact h4
theorem app_rel {n:Nat→Prop} {xs ys:List Value} {us vs:Array Value} (h1:xs.length=us.size) (h2:ys.length=vs.size) (g1: ∀(i:Nat) (x y:Value),xs[i]?=some x→us[i]?=some y→VR n ι x y) (g2: ∀(i:Nat) (x y:Value),ys[i]?=some x→vs[i]?=some y→VR n ι x y):
  (xs++ys).length=(us++vs).size∧ ∀(i:Nat) (x y:Value),(xs++ys)[i]?=some x→(us++vs)[i]?=some y→VR n ι x y:=by
 refine⟨by simp [h1,h2],fun i x y hx hy=>?_⟩
 rw [List.getElem?_append]at hx
 rw [Array.getElem?_append]at hy
 rw [h1]at hx
 split at hx
 ·rw [if_pos ‹_›]at hy;exact g1 i x y hx hy
 ·rw [if_neg ‹_›]at hy;exact g2 _ x y hx hy
theorem call_ok (hT:TOk P T) (hrel:Rel P H ι w) (hfr:FrR H.D ι N fr a.tmps) {c:Call} {f:Operand} (ho:o.op=.call c) (hc:c.callee=.value f) (h:lcallee P T (ev fr f) (c.args.toList.map (ev fr)) H=some (v,H')):OpOk P H ι o a w v H':=by
 unfold lcallee at h
 split at h
 ·rename_i g first captured hf
  rcases hT _ _ _ _ _ h with⟨hg,hcall⟩|⟨rfl,hx⟩
  rotate_left
  ·exact opok_value (callee_ext hfr ho hc hf hx) hrel (.flat _ hx.2.1)
  obtain⟨fst',cap',hr,⟨k0,k3⟩,k1,k2⟩:=callee_run (w:=w) hfr ho hc hf hg
  obtain⟨h1,h2⟩:=args_rel hfr c.args
  obtain⟨m3,m4⟩:=app_rel (xs:=first.toList) (by rw [Array.length_toList];exact k0) h1 (fun i x y hx hy=>k3 i x y (by simpa using hx) hy) h2
  obtain⟨m1,m2⟩:=app_rel (ys:=captured.toList) m3 (by rw [Array.length_toList];exact k1) m4 (fun i x y hx hy=>k2 i x y (by simpa using hx) hy)
  intro K Q hK
  unfold Oper.wp
  rw [hr,Oper.upon_enter]
  refine(hcall ι w _ hrel m1 m2).mono ?_
  rintro e w' ⟨ι',v',rfl,hout,hvr⟩
  exact hK ι' v' w' hout hvr
 ·cases h
def readB:Op→Bool
 |.store _ _ _|.box _ _|.alloc _|.buildSlice _ _ _|.makeSlice _ _ _|.makeMap _ _|.mapUpdate _ _ _ _|.call _=>false
 |_=>true
theorem pure_ok (hfr:FrR H.D ι N fr a.tmps) (h:lpure P o.op fr=some v):PureOk P H.D ι o a v:=by
 unfold lpure at h
 split at h
 ·rename_i x ho
  simp only [Option.some.injEq]at h;subst h
  exact move_ok hfr (.inl ho)
 ·rename_i x ho
  simp only [Option.some.injEq]at h;subst h
  exact move_ok hfr (.inr ho)
 ·rename_i c x y ho
  split at h
  ·simp only [Option.some.injEq]at h;subst h
   exact pick_ok hfr ho ‹_›
  ·cases h
 ·rename_i x ho
  split at h
  ·rename_i hx
   simp only [Option.some.injEq]at h;subst h
   exact nilCheck_ok hfr ho hx
  ·rename_i hx
   simp only [Option.some.injEq]at h;subst h
   exact nilCheckF_ok hfr ho hx
  ·cases h
 ·rename_i s x f ho
  split at h
  ·rename_i hx hu
   split at h
   ·rename_i hf
    split at h
    ·rename_i hs
     split at h
     ·cases h
     ·rename_i hm
      simp only [Option.some.injEq]at h;subst h
      exact fieldAddr_ok hfr ho hx hu hf hs hm
    ·cases h
   ·cases h
  ·cases h
 ·rename_i t x i ho
  split at h
  ·rename_i hx hi hu
   split at h
   ·rename_i hs
    split at h
    ·rename_i hk
     simp only [Option.some.injEq]at h;subst h
     exact indexAddr_ok hfr ho hx hi hu hs hk
    ·cases h
   ·cases h
  ·cases h
 ·rename_i t x lo hi ho
  exact slice_ok hfr ho h
 ·rename_i t x f ho
  split at h
  ·rename_i hu hx
   split at h
   ·rename_i hf
    split at h
    ·rename_i ha hs
     simp only [Option.some.injEq]at h;subst h
     exact field_ok hfr ho hx hu hf (.inl ⟨_,ha,hs,rfl⟩)
    ·rename_i ha
     exact field_ok hfr ho hx hu hf (.inr ⟨ha,h⟩)
    ·cases h
   ·cases h
  ·cases h
 ·rename_i x i ho
  split at h
  ·rename_i hx
   exact extract_ok hfr ho hx h
  ·cases h
 ·rename_i t parts ho
  exact build_ok hfr ho h
 ·rename_i g first captured ho
  simp only [Option.some.injEq]at h;subst h
  exact makeFunc_ok hfr ho
 ·rename_i op t x y yt ho
  exact binOp_ok hfr ho h
 ·rename_i op t x ho
  split at h
  ·exact unOp_ok hfr ho ‹_› h
  ·cases h
 ·rename_i t x i ho
  split at h
  ·rename_i hc
   rw [Bool.and_eq_true]at hc
   exact index_ok hfr ho hc.1 hc.2 h
  ·cases h
 ·cases h
theorem lop_read (hrel:Rel P H ι w) (hfr:FrR H.D ι N fr a.tmps) (h:lop P T o fr H=some (v,H')) (hk:readB o.op=true):H'=H∧ReadOk P H.D ι o a w v:=by
 unfold lop at h
 split at h<;>try (rename_i ho;rw [ho]at hk;cases hk;done)
 ·rename_i t x ho
  split at h
  ·rename_i hx
   simp only [Option.map_eq_some_iff,Prod.mk.injEq]at h
   obtain⟨u,hu,rfl,rfl⟩:=h
   exact⟨rfl,load_ok hrel hfr ho hx hu⟩
  ·cases h
 ·rename_i t x y ok ho
  simp only [Option.map_eq_some_iff,Prod.mk.injEq]at h
  obtain⟨u,hu,rfl,rfl⟩:=h
  exact⟨rfl,lookup_ok hrel hfr ho hu⟩
 ·rename_i s d x ho
  split at h<;>(simp only [Option.map_eq_some_iff,Prod.mk.injEq]at h;obtain⟨u,hu,rfl,rfl⟩:=h)
  ·exact⟨rfl,(convert_ok hfr ho ‹_› hu).read⟩
  ·exact⟨rfl,bstr_ok hrel hfr ho hu⟩
 ·simp only [Option.map_eq_some_iff,Prod.mk.injEq]at h
  obtain⟨u,hu,rfl,rfl⟩:=h
  exact⟨rfl,(pure_ok hfr hu).read⟩
theorem lop_ok (hT:TOk P T) (hrel:Rel P H ι w) (hfr:FrR H.D ι N fr a.tmps) (h:lop P T o fr H=some (v,H')):OpOk P H ι o a w v H':=by
 cases hk:readB o.op
 case true=>
  obtain⟨rfl,hr⟩:=lop_read hrel hfr h hk
  exact hr.opok hrel
 cases ha:allocB o.op
 case true=>exact new_ok hrel (alloc_at hfr h ha)
 unfold lop at h
 split at h<;>try (rename_i ho;first|(rw [ho]at hk;cases hk;done)|(rw [ho]at ha;cases ha;done))
 ·rename_i t x y ho
  split at h
  ·rename_i hx
   simp only [Option.map_eq_some_iff,Prod.mk.injEq]at h
   obtain⟨u,hu,rfl,rfl⟩:=h
   exact store_ok hrel hfr ho hx hu
  ·cases h
 ·rename_i t x y z ho
  simp only [Option.map_eq_some_iff,Prod.mk.injEq]at h
  obtain⟨u,hu,rfl,rfl⟩:=h
  exact put_ok hrel hfr ho hu
 ·rename_i c ho
  split at h
  ·exact call_ok hT hrel hfr ho ‹_› h
  ·exact builtin_ok hrel hfr ho ‹_› h
  ·cases h
 ·obtain⟨u,hu,e⟩:=Option.map_eq_some_iff.1 h
  simp only [Prod.mk.injEq]at e
  obtain⟨rfl,rfl⟩:=e
  exact(pure_ok hfr hu).opok hrel
theorem freeze_heap {w:World} {g k:Nat} {arr:Array Value} {e:TypeId} (hw:w.heap[g]?=some (.cells arr e (0,0))):(w.freeze ⟨g,k,none⟩ 1).heap[g]?=some (.cells arr e (k,k+1)):=by
 unfold World.freeze
 rw [if_neg (by decide)]
 simp [Array.getElem?_modify,hw]
theorem freeze_change {w:World} {g k:Nat} :Change (fun j=>j=g) w (w.freeze ⟨g,k,none⟩ 1):=by
 unfold World.freeze
 rw [if_neg (by decide)]
 refine⟨rfl,rfl,rfl,by simp,fun j hj hne=>?_⟩
 simp only [Array.getElem?_modify]
 rw [if_neg (fun h=>hne h.symm)]
theorem run_mark {w:World} {g n c:Nat} {arr:Array Value} {s e:TypeId} (hs:P.underlying s=some (.slice e)) (he:P.underlying e=some (.int .u8)) (hw:w.heap[g]?=some (.cells arr e (0,0))):
  (convert s s (.slice (some ⟨g,0,none⟩) n c)).run P w=.ok (.slice (some ⟨g,0,none⟩) n c) (w.freeze ⟨g,arr.size,none⟩ 1):=by
 have hsh:w.shape? g=some (e,arr.size):=by unfold World.shape?;rw [hw]
 simp [convert,run_underlying hs,run_underlying he,markStringish,hsh]
theorem mark_ok (hrel:Rel P H ι w) (hfr:FrR H.D ι N fr a.tmps) {s d:TypeId} {x:Operand} (ho:o.op=.convert s d x) (hv:lmark P s d (ev fr x) H=some (v,H')):OpOk P H ι o a w v H':=by
 have hx0:=hfr.ev x
 unfold lmark at hv
 split at hv
 case h_2=>cases hv
 rename_i e l n c hs hx
 split at hv
 case h_2=>cases hv
 rename_i b hb
 split at hv
 case h_2=>cases hv
 rename_i he
 split at hv
 case isFalse=>cases hv
 rename_i hcond
 obtain⟨rfl,hrw,hel,hz,hn⟩:=hcond
 simp only [Option.some.injEq,Prod.mk.injEq]at hv
 obtain⟨rfl,rfl⟩:=hv
 rw [hx]at hx0⊢
 have hz0:(ι l).off=0:=by
  generalize a.eval x=y at hx0
  cases hx0 with
  |flat _ hf=>simp [flatB,flat1B,atomB]at hf
  |slice _ _ _ _ _ hq _=>exact hq
  |slice0 _ _ _ _ hq=>exact hq
 obtain⟨arr,t0,f0,hw,h1,h2,h3⟩:=hrel.blk hb hz0
 obtain⟨g1,g2,s',g4,g5,g6⟩:=h3 hrw
 obtain⟨rfl,rfl⟩:=g2.plain (by rw [hel];exact hz)
 rw [hel]at hw
 have hx1:a.eval x=.slice (some ⟨(ι l).blk,0,none⟩) n (c+(ι l).slack):=by
  generalize a.eval x=y at hx0
  cases hx0 with
  |flat _ hf=>simp [flatB,flat1B,atomB]at hf
  |slice _ _ _ _ _ _=>rw [g1]
  |slice0 _ _ ad _=>omega
 have hvr:VR H.D ι (.slice (some ⟨l,0,none⟩) n c) (.slice (some ⟨(ι l).blk,0,none⟩) n (c+(ι l).slack)):=hx1▸hx0
 have hrun:(execOp a.eval o).run P w=.ok (.value (.slice (some ⟨(ι l).blk,0,none⟩) n (c+(ι l).slack))) (w.freeze ⟨(ι l).blk,arr.size,none⟩ 1):=by
  unfold execOp
  simp only [ho,hx1,Sem.run_bind,run_mark hs he hw,Result.andThen_ok,Sem.run_pure]
 refine opok_world hrun (rel_setF (b':=⟨b.cells,MK P e,true⟩) hrel hb hz0 hrw rfl (.inr ⟨rfl,hz,.inl rfl⟩) hw rfl (fun i y hy=>?_) (freeze_heap hw) freeze_change) hvr
 obtain⟨y',q1,q2⟩:=h2 i y hy
 rw [g1,Nat.zero_add]at q1
 exact⟨y',q1,q2⟩
theorem lopB_ok (hT:TOk P T) (hrel:Rel P H ι w) (hfr:FrR H.D ι N fr a.tmps) (h:lopB P T o fr H=some (v,H')):OpOk P H ι o a w v H':=by
 unfold lopB at h
 split at h
 ·rename_i s d x ho
  split at h
  ·rename_i r hr
   injection h with h
   subst h
   unfold lbytesM at hr
   split at hr
   ·rename_i r2 hr2
    injection hr with hr
    subst hr
    exact new_ok hrel (bytes_at (hfr.ev x) ho hr2)
   ·exact mark_ok hrel hfr ho hr
  ·exact lop_ok hT hrel hfr h
 ·exact lop_ok hT hrel hfr h
theorem lops_ok (hT:TOk P T) {all:Array Oper} : ∀(os:List Oper) (fr:Fr) (H:LH) (ι:Ren) (a:Act) (w:World),lops none P T N all os fr H=some (fr',H')→Rel P H ι w→FrR H.D ι N fr a.tmps→
  ∀Q:Exit→Act→World→Prop,(∀ι' a' w',Out P H ι w H' ι' w'→FrR H'.D ι' N fr' a'.tmps→a'.defers=a.defers→Q .normal a' w')→wpList P all Q os a w
 | [],fr,H,ι,a,w,h,hrel,hfr,Q,hQ=>by
  simp only [lops,Option.some.injEq,Prod.mk.injEq]at h
  obtain⟨rfl,rfl⟩:=h
  exact hQ ι a w (Out.refl hrel) hfr rfl
 |o::os,fr,H,ι,a,w,h,hrel,hfr,Q,hQ=>by
  unfold lops at h
  unfold wpList
  split at h
  ·rename_i hw
   rw [if_pos (want_eq hfr hw)]
   left
   split at h
   ·rename_i v H1 hop
    split at h
    ·rename_i fr1 hput
     refine lopB_ok hT hrel hfr hop _ _ (fun ι' v' w' hout hvr=>?_)
     refine lops_ok hT os fr1 H1 ι' _ w' h hout.rel ((hfr.mono hout.sub hout.same).put hput hvr) Q (fun ι2 a2 w2 ho2 hf2 hd2=>?_)
     exact hQ ι2 a2 w2 (hout.trans ho2) hf2 (by rw [hd2,put_defers])
    ·cases h
   ·cases h
  ·rename_i hw
   rw [if_neg (by rw [want_eq hfr hw];simp)]
   split at h
   ·rename_i fr1 hput
    exact lops_ok hT os fr1 H ι _ w h hrel (hfr.undef _ _ hput) Q (fun ι2 a2 w2 ho2 hf2 hd2=>hQ ι2 a2 w2 ho2 hf2 (by rw [hd2,put_defers]))
   ·cases h
  ·cases h
theorem rel_change (h:Rel P H ι w) {w':World} (hc:Change (fun _=>False) w w'):Rel P H ι w':=
 ⟨h.dom,h.hol,fun l b hb=>by rw [hc.block _ (h.lt hb) (fun h=>h)];exact h.br l b hb,h.sep,pin_step h (hc.mono fun _ _ hf=>hf.elim) (fun _ hk=>.inl hk) rfl rfl⟩
end
section
variable {P:Program} {ops:Array Oper} {md:Region.Mode} {Q:Exit→Act→World→Prop}
theorem countP_lt {p q:Nat→Bool} : ∀ {l:List Nat},(∀x∈l,p x=true→q x=true)→ ∀ {y},y∈l→q y=true→p y=false→l.countP p<l.countP q
 | [],_,y,hy,_,_=>by cases hy
 |a::l,h,y,hy,h1,h2=>by
  rw [List.countP_cons,List.countP_cons]
  have hle:l.countP p≤l.countP q:=List.countP_mono_left (fun x hx=>h x (List.mem_cons_of_mem _ hx))
  rcases List.mem_cons.1 hy with rfl|hy
  ·simp [h1,h2];omega
  ·have h3:=countP_lt (fun x hx=>h x (List.mem_cons_of_mem _ hx)) hy h1 h2
   have h4:=h a (List.mem_cons_self ..)
   cases hp:p a<;>cases hq:q a<;>simp_all<;>omega
def undone (ops:Array Oper) (listed:Array Bool):Nat:=(List.range ops.size).countP fun i=>!listed.getD i true
theorem getD_set_self {listed:Array Bool} {i:Nat} :(listed.setIfInBounds i true).getD i true=true:=by
 rcases Nat.lt_or_ge i listed.size with h|h
 ·simp [h]
 ·simp [Array.getElem?_eq_none h]
theorem undone_set {listed:Array Bool} {i:Nat} (hi:i<ops.size) (h:listed.getD i true=false):undone ops (listed.setIfInBounds i true)<undone ops listed:=by
 refine countP_lt (fun x _ hx=>?_) (List.mem_range.2 hi) (by rw [h];rfl) (by rw [getD_set_self];rfl)
 by_cases e:i=x
 ·subst e;rw [h];rfl
 ·rw [getD_set_ne true e]at hx;exact hx
theorem ready_lt {listed:Array Bool} {i:Nat} (h:i∈Region.ready md ops listed):i<ops.size∧listed.getD i true=false:=by
 obtain⟨h1,o,ho,_⟩:=mem_ready.1 h
 exact⟨(Array.getElem?_eq_some_iff.1 ho).1,h1⟩
theorem wpAny_inv {Inv:Array Bool→Act→World→Prop} (hstep: ∀listed a w,Inv listed a w→ ∀i∈Region.ready md ops listed,wpOp P ops Q i (Inv (listed.setIfInBounds i true)) a w)
  (hdone: ∀listed a w,Inv listed a w→Region.ready md ops listed= []→Q .normal a w): ∀(fuel:Nat) (listed:Array Bool) (a:Act) (w:World),undone ops listed≤fuel→Inv listed a w→wpAny P md ops Q fuel listed a w
 |0,listed,a,w,hu,h=>by
  have hr:Region.ready md ops listed= []:=by
   rw [List.eq_nil_iff_forall_not_mem]
   intro i hi
   obtain⟨h1,h2⟩:=ready_lt hi
   have:=undone_set h1 h2
   omega
  exact⟨hr,hdone _ _ _ h hr⟩
 |fuel+1,listed,a,w,hu,h=>⟨hdone listed a w h,fun i hi=>wpOp_mono (fun a' w' h'=>wpAny_inv hstep hdone fuel _ a' w' (by
   obtain⟨h1,h2⟩:=ready_lt hi
   have:=undone_set h1 h2
   omega) h') (hstep listed a w h i hi)⟩
end
section
variable {P:Program} {L:Loud} {T:Callee} {N n:Nat} {ops:Array Oper} {H0 H H' H1:LH} {st:Nat→Fr×LH} {fr fr':Fr} {o:Oper} {v:Value} {ι0:Ren} {w0:World}
theorem lbound_congr {d:Nat} {x:Option Operand} (h: ∀y,x=some y→ev fr y=ev fr' y):lbound fr d x=lbound fr' d x:=by
 cases x with
 |none=>rfl
 |some y=>unfold lbound;simp only [h y rfl]
theorem lop_congr (h: ∀x∈o.op.operands,ev fr x=ev fr' x):lop P T o fr H=lop P T o fr' H:=by
 obtain⟨dst,op,ty,pos,after,guard⟩:=o
 have pairs: ∀ps:Array (Nat×Operand),(∀x∈ps.toList.map (·.2),ev fr x=ev fr' x)→ps.toList.map (fun p=>(p.1,ev fr p.2))=ps.toList.map (fun p=>(p.1,ev fr' p.2)):=fun ps hp=>
  List.map_congr_left (fun p hm=>by rw [hp p.2 (List.mem_map.2 ⟨p,hm,rfl⟩)])
 cases op<;>simp only [Op.operands]at h
 case move x=>simp only [lop,lpure];rw [h x (by simp)]
 case assign x=>simp only [lop,lpure];rw [h x (by simp)]
 case pick c x y=>simp only [lop,lpure];rw [h x (by simp),h y (by simp),h c (by simp)]
 case box e x=>simp only [lop,lpure];rw [h x (by simp)]
 case load t x=>simp only [lop,lpure];rw [h x (by simp)]
 case store t x y=>simp only [lop,lpure];rw [h x (by simp),h y (by simp)]
 case nilCheck x=>simp only [lop,lpure];rw [h x (by simp)]
 case fieldAddr t x f=>simp only [lop,lpure];rw [h x (by simp)]
 case field t x f=>simp only [lop,lpure];rw [h x (by simp)]
 case indexAddr t x y=>simp only [lop,lpure];rw [h x (by simp),h y (by simp)]
 case index t x y=>simp only [lop,lpure];rw [h x (by simp),h y (by simp)]
 case binOp op t x y yt=>simp only [lop,lpure];rw [h x (by simp),h y (by simp)]
 case unOp op t x=>simp only [lop,lpure];rw [h x (by simp)]
 case lookup t x y ok=>simp only [lop];rw [h x (by simp),h y (by simp)]
 case mapUpdate t x y z=>simp only [lop];rw [h x (by simp),h y (by simp),h z (by simp)]
 case makeMap t r=>cases r<;>rfl
 case convert s d x=>simp only [lop,lpure];rw [h x (by simp)]
 case extract x i=>simp only [lop,lpure];rw [h x (by simp)]
 case build t ps=>simp only [lop,lpure];rw [pairs ps (by simpa using h)]
 case buildSlice t n ps=>simp only [lop,lpure];rw [pairs ps (by simpa using h)]
 case makeSlice t x y=>simp only [lop,lpure];rw [h x (by simp),h y (by simp)]
 case slice t x lo hi mx=>
  cases mx with
  |some m=>rfl
  |none=>
   simp only [lop,lpure]
   have e1:=h x (by simp)
   have e2: ∀d,lbound fr d lo=lbound fr' d lo:=fun d=>lbound_congr (fun y hy=>h y (by simp [hy]))
   have e3: ∀d,lbound fr d hi=lbound fr' d hi:=fun d=>lbound_congr (fun y hy=>h y (by simp [hy]))
   unfold lslice
   simp only [e1,e2,e3]
 case makeFunc f first captured=>
  cases f with
  |func g=>
   simp only [lop,lpure]
   rw [Array.map_congr_left (f:=ev fr) (xs:=captured) (fun x hx=>h x (by simp [hx])),Array.map_congr_left (f:=ev fr) (xs:=first) (fun x hx=>h x (by simp [hx]))]
  |_=>rfl
 case call c=>
  obtain⟨callee,args,ts⟩:=c
  have e:args.toList.map (ev fr)=args.toList.map (ev fr'):=List.map_congr_left (fun x hx=>h x (by simp [Call.operands];exact .inr (by simpa using hx)))
  cases callee with
  |value f=>simp only [lop,lpure];rw [e,h f (by simp [Call.operands])]
  |builtin b=>simp only [lop,lpure];rw [e]
  |invoke x y=>rfl
 all_goals rfl
theorem map_same {x:Option Value} (h:(x.map fun v=>(v,H))=some (v,H')):H'=H∧x=some v:=by
 obtain⟨u,hu,e⟩:=Option.map_eq_some_iff.1 h
 simp only [Prod.mk.injEq]at e
 exact⟨e.2.symm,by rw [hu,e.1]⟩
theorem lop_readH (h:lop P T o fr H=some (v,H')) (hk:readB o.op=true):H'=H:=by
 unfold lop at h
 split at h<;>(try (rename_i ho;rw [ho]at hk;cases hk;done))<;>(try split at h)<;>first|(cases h;done)|exact(map_same h).1
theorem lbuiltin_any {b:Builtin} {ts:List TypeId} {args:List Value} (hb:b≠.append∧b≠.delete∧b≠.clear) (h:lbuiltin P b ts args H=some (v,H')):H'=H∧(b≠.len→lbuiltin P b ts args H1=some (v,H1)):=by
 unfold lbuiltin at h
 split at h
 ·refine⟨?_,fun h=>absurd rfl h⟩
  split at h<;>first|(cases h;done)|(simp only [Option.some.injEq,Prod.mk.injEq]at h;exact h.2.symm)|(obtain⟨u,_,e⟩:=Option.map_eq_some_iff.1 h;simp only [Prod.mk.injEq]at e;exact e.2.symm)
 ·exact absurd rfl hb.2.1
 ·exact absurd rfl hb.2.2
 ·exact absurd rfl hb.1
 all_goals first
  |(cases h;done)
  |(simp only [Option.some.injEq,Prod.mk.injEq]at h;obtain⟨rfl,rfl⟩:=h;exact⟨rfl,fun _=>rfl⟩)
def dstOf (ops:Array Oper) (j:Nat):Option Tmp:=(ops[j]?).bind (·.dst)
theorem set_iff {listed:Array Bool} {i j:Nat} :(listed.setIfInBounds i true).getD j true=true↔listed.getD j true=true∨i=j:=by
 by_cases e:i=j
 ·subst e;simp [getD_set_self]
 ·rw [getD_set_ne true e];simp [e]
theorem lwant_congr (h: ∀t∈Oper.looksAt ops o,fr t=fr' t):lwant ops fr o=lwant ops fr' o:=by
 unfold lwant
 cases hg:o.guard with
 |none=>rfl
 |some g=>
  obtain⟨j,want⟩:=g
  simp only
  cases hd:(ops[j]?).bind (·.dst)with
  |none=>rfl
  |some d=>
   simp only
   rw [h d (by simp [Oper.looksAt,hg,hd])]
theorem ev_congr (h: ∀t∈Oper.looksAt ops o,fr t=fr' t): ∀x∈o.op.operands,ev fr x=ev fr' x:=by
 intro x hx
 cases x with
 |tmp t=>
  refine h t ?_
  unfold Oper.looksAt
  refine List.mem_append_left _ (List.mem_filterMap.2 ⟨.tmp t,by simpa using hx,rfl⟩)
 |_=>rfl
theorem getD_ft {listed:Array Bool} {k:Nat} (h:listed.getD k false=true):listed.getD k true=true:=by
 rcases Nat.lt_or_ge k listed.size with h'|h'
 ·simp [h']at h⊢;exact h
 ·simp [Array.getElem?_eq_none h']
theorem getD_tf {listed:Array Bool} {k:Nat} (hk:k<listed.size) (h:listed.getD k true=true):listed.getD k false=true:=by
 simp [hk]at h⊢;exact h
theorem not_true_false {listed:Array Bool} {k:Nat} :listed.getD k true=true∨listed.getD k true=false:=by cases listed.getD k true<;>simp
theorem out_change (hrel:Rel P H0 ι0 w0) {w':World} (hw':Change (fun _=>False) w0 w'):Out P H0 ι0 w0 H0 ι0 w':=
 ⟨rel_change hrel hw',Nat.le_refl _,fun _ h=>h,fun _ _=>rfl,hw'.mono (fun _ _ h=>h.elim),fun k hk=>.inl hk,fun k hk=>.inl hk,rfl⟩
end
def LS (listed:Array Bool) (j:Nat):Prop:=listed.getD j true=true
def Cl (ops:Array Oper) (listed:Array Bool):Prop:= ∀j o,ops[j]?=some o→LS listed j→ ∀e∈o.after,Region.binds .any e=true→LS listed e.on
theorem maskOf_bit {acc:List Nat} {k:Nat} : ∀ {es:List Edge},(maskOf acc es).testBit k=true→ ∃e∈es,Region.binds .any e=true∧e.on<acc.length∧(k=e.on∨(acc.getD e.on 0).testBit k=true)
 | [],h=>by simp [maskOf]at h
 |e::es,h=>by
  unfold maskOf at h
  split at h
  ·rename_i hc
   simp only [Bool.and_eq_true,decide_eq_true_eq]at hc
   rw [Nat.testBit_or,Nat.testBit_or,Bool.or_eq_true,Bool.or_eq_true]at h
   rcases h with(h|h)|h
   ·rw [Nat.testBit_two_pow]at h
    exact⟨e,List.mem_cons_self ..,hc.1,hc.2,.inl (by simpa using h:e.on=k).symm⟩
   ·exact⟨e,List.mem_cons_self ..,hc.1,hc.2,.inr h⟩
   ·obtain⟨e',h1,h2⟩:=maskOf_bit h
    exact⟨e',List.mem_cons_of_mem _ h1,h2⟩
  ·obtain⟨e',h1,h2⟩:=maskOf_bit h
   exact⟨e',List.mem_cons_of_mem _ h1,h2⟩
theorem masks_app: ∀(os:List Oper) (acc:List Nat),∃l,masks os acc=acc++l∧l.length=os.length
 | [],acc=>⟨[],by simp [masks],rfl⟩
 |o::os,acc=>by
  obtain⟨l,h1,h2⟩:=masks_app os (acc++ [maskOf acc o.after.toList])
  exact⟨maskOf acc o.after.toList::l,by unfold masks;rw [h1];simp,by simp [h2]⟩
theorem masks_at: ∀(os:List Oper) (acc:List Nat) (i:Nat) (o:Oper),os[i]?=some o→(masks os acc).getD (acc.length+i) 0=maskOf ((masks os acc).take (acc.length+i)) o.after.toList
 | [],_,_,_,h=>by simp at h
 |o::os,acc,0,o',h=>by
  simp at h
  subst h
  obtain⟨l,h1,h2⟩:=masks_app os (acc++ [maskOf acc o.after.toList])
  unfold masks
  rw [h1]
  simp
 |o::os,acc,i+1,o',h=>by
  have h':os[i]?=some o':=by simpa using h
  have:=masks_at os (acc++ [maskOf acc o.after.toList]) i o' h'
  unfold masks
  rw [show acc.length+(i+1)=(acc++ [maskOf acc o.after.toList]).length+i by simp;omega]
  exact this
theorem mbit_step {ops:Array Oper} {i k:Nat} {o:Oper} (ho:ops[i]?=some o) (h:mbit (masks ops.toList []) i k=true): ∃e∈o.after.toList,Region.binds .any e=true∧e.on<i∧(k=e.on∨mbit (masks ops.toList []) e.on k=true):=by
 have hi:i<ops.size:=(Array.getElem?_eq_some_iff.1 ho).1
 have h1:=masks_at ops.toList [] i o (by simpa using ho)
 obtain⟨l,g1,g2⟩:=masks_app ops.toList []
 simp only [List.nil_append]at g1
 have hlen:(masks ops.toList []).length=ops.size:=by rw [g1,g2];simp
 unfold mbit at h
 rw [List.length_nil,Nat.zero_add]at h1
 rw [h1]at h
 obtain⟨e,a1,a2,a3,a4⟩:=maskOf_bit h
 have hlt:e.on<i:=by simp at a3;omega
 refine⟨e,a1,a2,hlt,?_⟩
 rcases a4 with a4|a4
 ·exact .inl a4
 ·refine .inr ?_
  unfold mbit
  have:((masks ops.toList []).take i).getD e.on 0=(masks ops.toList []).getD e.on 0:=by
   simp only [List.getD_eq_getElem?_getD,List.getElem?_take,if_pos hlt]
  rw [←this];exact a4
theorem mbit_done {ops:Array Oper} {listed:Array Bool} (hc:Cl ops listed): ∀(n i:Nat),i<n→ ∀o,ops[i]?=some o→(∀e∈o.after,Region.binds .any e=true→LS listed e.on)→ ∀k,mbit (masks ops.toList []) i k=true→LS listed k:=by
 intro n
 induction n with
 |zero=>intro i hi;omega
 |succ n ih=>
  intro i hi o ho hall k hk
  obtain⟨e,a1,a2,a3,a4⟩:=mbit_step ho hk
  have hl:=hall e (by simpa using a1) a2
  rcases a4 with rfl|a4
  ·exact hl
  ·have hlt:e.on<ops.size:=by have:=(Array.getElem?_eq_some_iff.1 ho).1;omega
   exact ih e.on (by omega) _ (Array.getElem?_eq_getElem hlt) (hc e.on _ (Array.getElem?_eq_getElem hlt) hl) k a4
theorem mbit_ready {ops:Array Oper} {listed:Array Bool} (hc:Cl ops listed) {i:Nat} (hi:i∈Region.ready .any ops listed) {k:Nat} (hk:mbit (masks ops.toList []) i k=true):LS listed k:=by
 obtain⟨_,o,ho,hall⟩:=mem_ready.1 hi
 exact mbit_done hc (i+1) i (Nat.lt_succ_self _) o ho (fun e he hb=>getD_ft (hall e he hb)) k hk
theorem mbit_listed {ops:Array Oper} {listed:Array Bool} (hc:Cl ops listed) {i:Nat} (hi:i<ops.size) (hl:LS listed i) {k:Nat} (hk:mbit (masks ops.toList []) i k=true):LS listed k:=
 mbit_done hc (i+1) i (Nat.lt_succ_self _) _ (Array.getElem?_eq_getElem hi) (hc i _ (Array.getElem?_eq_getElem hi) hl) k hk
section
variable [Cvt] {P:Program} {T:Callee} {fr:Fr} {H H':LH} {o:Oper} {v:Value}
theorem lop_same (hb:heapB o.op=false) (h:lop P T o fr H=some (v,H')):H'=H:=by
 cases hk:readB o.op with
 |true=>exact lop_readH h hk
 |false=>
  obtain⟨dst,op,ty,pos,after,guard⟩:=o
  cases op<;>first|(cases hb;done)|(cases hk;done)|skip
  rename_i c
  simp only [heapB]at hb
  simp only [lop]at h
  split at h
  ·rename_i f hc
   simp only [hc]at hb
   cases hb
  ·rename_i b hc
   simp only [hc]at hb
   exact(lbuiltin_any (H1:=H) ⟨(by rintro rfl;cases hb),(by rintro rfl;cases hb),(by rintro rfl;cases hb)⟩ h).1
  ·cases h
theorem cv_of (hb:heapB o.op=false):cvB o.op=false:=by
 obtain⟨dst,op,ty,pos,after,guard⟩:=o
 cases op<;>first|rfl|exact hb
theorem lopC_lop (hc:cvB o.op=false):lopC P T o fr H=lop P T o fr H:=by
 unfold lopC;rw [if_neg (by rw [hc];decide)]
theorem lopC_same (hb:heapB o.op=false) (h:lopC P T o fr H=some (v,H')):H'=H:=lop_same hb (by rwa [lopC_lop (cv_of hb)]at h)
theorem lop_free (hb:heapB o.op=false) (hr:rdB o.op=false) (h:lop P T o fr H=some (v,H')) (H1:LH):lop P T o fr H1=some (v,H1):=by
 obtain⟨dst,op,ty,pos,after,guard⟩:=o
 cases op with
 |call c=>
  simp only [heapB]at hb
  simp only [rdB]at hr
  simp only [lop]at h⊢
  split at h
  ·rename_i f hc
   simp only [hc]at hb
   cases hb
  ·rename_i b hc
   simp only [hc]at hb hr
   exact(lbuiltin_any (H1:=H1) ⟨(by rintro rfl;cases hb),(by rintro rfl;cases hb),(by rintro rfl;cases hb)⟩ h).2 (by rintro rfl;cases hr)
  ·cases h
 |convert s d x=>simp only [heapB]at hb;simp only [rdB,hb]at hr;cases hr
 |_=>first
  |(cases hb;done)
  |(cases hr;done)
  |(simp only [lop]at h⊢;rw [(map_same h).2];rfl)
end
section
variable {P:Program} {ops:Array Oper}
theorem dst_lt {k:Nat} {t:Tmp} (hk:dstOf ops k=some t):k<ops.size:=by
 unfold dstOf at hk
 cases hq:ops[k]? with
 |none=>simp [hq]at hk
 |some x=>exact(Array.getElem?_eq_some_iff.1 hq).1
theorem T0_le {T:Callee} {o:Oper} {fr:Fr} {H:LH} {x:Value×LH} (h:lop P T0 o fr H=some x):lop P T o fr H=some x:=by
 obtain⟨dst,op,ty,pos,after,guard⟩:=o
 cases op with
 |call c=>
  simp only [lop]at h⊢
  split at h
  ·unfold lcallee at h
   split at h
   ·cases h
   ·cases h
  ·exact h
  ·cases h
 |makeMap _ r=>cases r<;>exact h
 |_=>exact h
theorem rel_reg {H:LH} {ι:Ren} {w:World} (h:Rel P H ι w) {b:LB} {im:Im} (hbr:BR P H.D ι b im w.heap[im.blk]?) (hno: ¬Img H ι im.blk) (hpin: ∀g,g<H.ng→g≠im.blk):
  Rel P (H.new b) (ι.add H.n im) w∧(∀l,H.D l→(H.new b).D l)∧(∀l,H.D l→(ι.add H.n im) l=ι l)∧(∀k,RW (H.new b) (ι.add H.n im) k→RW H ι k∨k=im.blk)∧(∀k,Img (H.new b) (ι.add H.n im) k→Img H ι k∨k=im.blk):=by
 obtain⟨d1,d2,d3⟩:=dom_new h (b:=b)
 obtain⟨hrel,hsub,hsame,hnw,key⟩:=rel_lay (S:=fun k=>k=im.blk) h (Change.refl _ w) (fun l b' hb e=>hno ⟨l,b',hb,e⟩) hpin (.inl rfl) hbr (fun _=>rfl) (D_new h) d3 d1 d2 rfl rfl
 refine⟨hrel,hsub,hsame,?_,?_⟩
 ·rintro k ⟨l,b',hb',hrw',rfl⟩
  rcases key l b' hb' with⟨rfl,rfl⟩|⟨h1,h2⟩
  ·right;rw [hnw]
  ·left;rw [h2];exact⟨l,b',h1,hrw',rfl⟩
 ·rintro k ⟨l,b',hb',rfl⟩
  rcases key l b' hb' with⟨rfl,rfl⟩|⟨h1,h2⟩
  ·right;rw [hnw]
  ·left;rw [h2];exact⟨l,b',h1,rfl⟩
end
section
variable [Cvt] {P:Program} {T:Callee} {N:Nat} {ops:Array Oper} {prs:List (Nat×Nat)} {st:Nat→Fr×LH} {r:Fr×LH}
def StepC (P:Program) (T:Callee) (N:Nat) (ops:Array Oper) (prs:List (Nat×Nat)) (st:Nat→Fr×LH) (i:Nat) (o:Oper):Prop:=
 ∃b v,lwant ops (st i).1 o=some b∧lput N (st i).1 o.dst v=some (st (i+1)).1∧
  (b=true→lopC P T o (st i).1 (st i).2=some (v,(st (i+1)).2)∧
   (∀j,(i,j)∈prs→j<i→lop P T0 o (st i).1 (st j).2=some (v,(st j).2)))∧
  (∀m,(m,i)∈prs→m<i→ ∀om d,ops[m]?=some om→om.dst=some d→lwant ops (st m).1 om=some true→lop P T0 om (st m).1 (st (i+1)).2=some ((st (i+1)).1 d,(st (i+1)).2))∧
  (b=false→v=undef∧(st (i+1)).2=(st i).2)
theorem trace_c: ∀(os:List Oper) (k:Nat) (old:Nat→Fr×LH) (fr:Fr) (H:LH),ops.toList.drop k=os→k≤ops.size→lchain P T N ops prs k old os fr H=some r→
  ∃st:Nat→Fr×LH,(∀j,j<k→st j=old j)∧st k=(fr,H)∧st ops.size=r∧ ∀i,k≤i→ ∀o,ops[i]?=some o→StepC P T N ops prs st i o
 | [],k,old,fr,H,hd,hk,h=>by
  have hlen:=congrArg List.length hd
  simp at hlen
  have hks:k=ops.size:=by omega
  simp only [lchain,Option.some.injEq]at h
  refine⟨fun j=>if j<k then old j else(fr,H),fun j hj=>by simp [hj],by simp,by subst hks;simp [h],fun i hi o ho=>?_⟩
  have:=(Array.getElem?_eq_some_iff.1 ho).1
  omega
 |o::os,k,old,fr,H,hd,hk,h=>by
  have hlen:=congrArg List.length hd
  simp at hlen
  have hklt:k<ops.size:=by omega
  have hok:ops[k]?=some o:=by
   have e:(ops.toList.drop k)[0]?=ops.toList[k]?:=by rw [List.getElem?_drop];simp
   rw [hd]at e
   rw [←Array.getElem?_toList,←e];rfl
  have hd':ops.toList.drop (k+1)=os:=by
   rw [←List.tail_drop,hd];rfl
  unfold lchain at h
  split at h
  ·rename_i hw
   split at h
   ·rename_i v H1 hop
    split at h
    ·rename_i fr1 hput
     split at h
     ·rename_i hck
      obtain⟨st,s1,s2,s3,s4⟩:=trace_c os (k+1) _ fr1 H1 hd' (by omega) h
      have sk:st k=(fr,H):=by rw [s1 k (by omega)];simp
      have so: ∀j,j<k→st j=old j:=fun j hj=>by rw [s1 j (by omega)];simp [show j≠k by omega]
      refine⟨st,so,sk,s3,fun i hi o' ho'=>?_⟩
      rcases Nat.lt_or_eq_of_le hi with h1|h1
      ·exact s4 i h1 o' ho'
      ·subst h1
       have:o'=o:=Option.some.inj (ho'.symm.trans hok)
       subst this
       refine⟨true,v,by rw [sk];exact hw,by rw [sk,s2];exact hput,fun _=>⟨by rw [sk,s2];exact hop,fun j hj hjk=>?_⟩,fun m hm hmk om d hom hdm hwm=>?_,fun e=>by cases e⟩
       ·rw [sk,so j hjk];exact hck.1 j hj hjk
       ·rw [so m hmk,s2]
        rw [so m hmk]at hwm
        exact hck.2 m hm hmk om d hom hdm hwm
     ·cases h
    ·cases h
   ·cases h
  ·rename_i hw
   split at h
   ·rename_i fr1 hput
    split at h
    ·rename_i hck
     obtain⟨st,s1,s2,s3,s4⟩:=trace_c os (k+1) _ fr1 H hd' (by omega) h
     have sk:st k=(fr,H):=by rw [s1 k (by omega)];simp
     have so: ∀j,j<k→st j=old j:=fun j hj=>by rw [s1 j (by omega)];simp [show j≠k by omega]
     refine⟨st,so,sk,s3,fun i hi o' ho'=>?_⟩
     rcases Nat.lt_or_eq_of_le hi with h1|h1
     ·exact s4 i h1 o' ho'
     ·subst h1
      have:o'=o:=Option.some.inj (ho'.symm.trans hok)
      subst this
      refine⟨false,undef,by rw [sk];exact hw,by rw [sk,s2];exact hput,(fun e=>by cases e),fun m hm hmk om d hom hdm hwm=>?_,fun _=>⟨rfl,by rw [sk,s2]⟩⟩
      rw [so m hmk,s2]
      rw [so m hmk]at hwm
      exact hck m hm hmk om d hom hdm hwm
    ·cases h
   ·cases h
  ·cases h
structure TC (P:Program) (T:Callee) (N:Nat) (ops:Array Oper) (prs:List (Nat×Nat)) (st:Nat→Fr×LH):Prop where
 step: ∀i o,ops[i]?=some o→StepC P T N ops prs st i o
 back: ∀i o,ops[i]?=some o→ ∀e∈o.after,Region.binds .any e=true→e.on<i
 dep: ∀i o t k,ops[i]?=some o→t∈Oper.looksAt ops o→dstOf ops k=some t→(k<i∧mbit (masks ops.toList []) i k=true∧(∀o',ops[k]?=some o'→newB o'.op=true→ ∀j o2,j<k→ops[j]?=some o2→heapB o2.op=true→mbit (masks ops.toList []) i j=true))∨(i<k∧mbit (masks ops.toList []) k i=true)
 inj: ∀i k d,dstOf ops i=some d→dstOf ops k=some d→i=k
 rdst: ∀(i:Nat) (o:Oper),ops[i]?=some o→rdB o.op=true→ ∃d,o.dst=some d
 heap: ∀i k o o',ops[i]?=some o→ops[k]?=some o'→heapB o.op=true→i≠k→mbit (masks ops.toList []) i k=true∨mbit (masks ops.toList []) k i=true∨(heapB o'.op=true∧k<i∧newB o.op=true)∨(heapB o'.op=true∧i<k∧newB o'.op=true)∨(heapB o'.op=false∧(rdB o'.op=false∨(k,i)∈prs))
theorem mixC_spec (h:mixC ops prs=true) (hs: ∀i o,ops[i]?=some o→StepC P T N ops prs st i o):TC P T N ops prs st:=by
 unfold mixC at h
 simp only [Bool.and_eq_true]at h
 obtain⟨⟨⟨h1,h2⟩,h3⟩,h4⟩:=h
 have lt: ∀ {i:Nat} {o:Oper},ops[i]?=some o→i<ops.size:=fun ho=>(Array.getElem?_eq_some_iff.1 ho).1
 have dlt: ∀ {k:Nat} {t:Tmp},dstOf ops k=some t→k<ops.size:=fun {k t} hk=>by
  unfold dstOf at hk
  cases hq:ops[k]? with
  |none=>simp [hq]at hk
  |some x=>exact lt hq
 refine⟨hs,fun i o ho e he hb=>?_,fun i o t k ho ht hk=>?_,fun i k d hi hk=>?_,fun i o ho hr=>?_,fun i k o o' ho ho' hb hne=>?_⟩
 ·have:=List.all_eq_true.1 h1 i (List.mem_range.2 (lt ho))
  simp only [ho]at this
  have:=List.all_eq_true.1 this e (by simpa using he)
  rw [hb]at this
  simpa using this
 ·have:=List.all_eq_true.1 h2 i (List.mem_range.2 (lt ho))
  simp only [ho]at this
  have:=List.all_eq_true.1 this t ht
  have:=List.all_eq_true.1 this k (List.mem_range.2 (dlt hk))
  rw [show(ops[k]?).bind (·.dst)=some t from hk]at this
  simp only [bne_self_eq_false,Bool.false_or,Bool.or_eq_true,Bool.and_eq_true,decide_eq_true_eq]at this
  rcases this with h|h
  ·exact .inr h
  ·obtain⟨⟨g1,g2⟩,g3⟩:=h
   refine .inl ⟨g1,g2,fun o' ho' hn j o2 hj ho2 hb=>?_⟩
   simp only [ho',hn,Bool.not_true,Bool.false_or]at g3
   have:=List.all_eq_true.1 g3 j (List.mem_range.2 hj)
   simpa [ho2,hb]using this
 ·have:=List.all_eq_true.1 h3 i (List.mem_range.2 (dlt hi))
  have:=List.all_eq_true.1 this k (List.mem_range.2 (dlt hk))
  rw [show(ops[i]?).bind (·.dst)=some d from hi,show(ops[k]?).bind (·.dst)=some d from hk]at this
  simpa using this
 ·have:=List.all_eq_true.1 h4 i (List.mem_range.2 (lt ho))
  simp only [ho,hr,Bool.not_true,Bool.false_or,Bool.and_eq_true]at this
  exact Option.isSome_iff_exists.1 this.1
 ·have:=List.all_eq_true.1 h4 i (List.mem_range.2 (lt ho))
  simp only [ho,hb,Bool.not_true,Bool.false_or,Bool.and_eq_true]at this
  have:=List.all_eq_true.1 this.2 k (List.mem_range.2 (lt ho'))
  simp only [ho',Bool.or_eq_true,beq_iff_eq,Bool.and_eq_true,Bool.not_eq_true',List.contains_iff_mem,decide_eq_true_eq]at this
  rcases this with((((h|h)|h)|h)|h)|h
  ·exact absurd h hne
  ·exact .inl h
  ·exact .inr (.inl h)
  ·exact .inr (.inr (.inl ⟨h.1.1,h.1.2,h.2⟩))
  ·exact .inr (.inr (.inr (.inl ⟨h.1.1,h.1.2,h.2⟩)))
  ·exact .inr (.inr (.inr (.inr h)))
namespace TC
variable (tc:TC P T N ops prs st)
include tc
theorem at_ {i:Nat} (hi:i<ops.size): ∃o,ops[i]?=some o∧StepC P T N ops prs st i o:=⟨_,Array.getElem?_eq_getElem hi,tc.step i _ (Array.getElem?_eq_getElem hi)⟩
theorem put {i:Nat} (hi:i<ops.size):(dstOf ops i=none∧(st (i+1)).1=(st i).1)∨ ∃d v,dstOf ops i=some d∧d<N∧(st (i+1)).1=Lg.upd (st i).1 d v:=by
 obtain⟨o,ho,b,v,_,hp,_⟩:=tc.at_ hi
 unfold lput at hp
 split at hp
 ·rename_i d hd
  split at hp
  ·rename_i hN
   simp only [Option.some.injEq]at hp
   exact .inr ⟨d,v,by simp [dstOf,ho,hd],hN,hp.symm⟩
  ·cases hp
 ·rename_i hd
  simp only [Option.some.injEq]at hp
  exact .inl ⟨by simp [dstOf,ho,hd],hp.symm⟩
theorem fdst {j:Nat} {d:Tmp} (hd:dstOf ops j=some d): ∀ {i:Nat},j<i→i≤ops.size→(st i).1 d=(st (j+1)).1 d:=by
 intro i hji hi
 induction i with
 |zero=>omega
 |succ i ih=>
  by_cases e:j=i
  ·subst e;rfl
  ·rcases tc.put (i:=i) (by omega)with⟨_,h⟩|⟨d',v,hd',_,h⟩
   ·rw [h];exact ih (by omega) (by omega)
   ·rw [h]
    have hne:d≠d':=fun hx=>e (tc.inj j i d hd (by rw [hd',hx]))
    show(if d=d' then v else(st i).1 d)=_
    rw [if_neg hne]
    exact ih (by omega) (by omega)
theorem fnone {t:Tmp} : ∀ {i:Nat},(∀j,j<i→dstOf ops j≠some t)→i≤ops.size→(st i).1 t=(st 0).1 t:=by
 intro i h hi
 induction i with
 |zero=>rfl
 |succ i ih=>
  rcases tc.put (i:=i) (by omega)with⟨_,hu⟩|⟨d',v,hd',_,hu⟩
  ·rw [hu];exact ih (fun j hj=>h j (by omega)) (by omega)
  ·rw [hu]
   have hne:t≠d':=fun hx=>h i (by omega) (by rw [hd',hx])
   show(if t=d' then v else(st i).1 t)=_
   rw [if_neg hne]
   exact ih (fun j hj=>h j (by omega)) (by omega)
theorem quiet1 {i:Nat} {o:Oper} (ho:ops[i]?=some o) (hb:heapB o.op=false):(st (i+1)).2=(st i).2:=by
 obtain⟨b,v,_,_,h1,_,h2⟩:=tc.step i o ho
 cases b with
 |true=>exact lopC_same hb (h1 rfl).1
 |false=>exact(h2 rfl).2
theorem between {i:Nat} : ∀ {k:Nat},i≤k→k≤ops.size→(∀j o,i≤j→j<k→ops[j]?=some o→heapB o.op=false)→(st k).2=(st i).2:=by
 intro k hik hk h
 induction k with
 |zero=>
  have:i=0:=by omega
  subst this;rfl
 |succ k ih=>
  by_cases e:i=k+1
  ·subst e;rfl
  ·obtain⟨o,ho,_⟩:=tc.at_ (i:=k) (by omega)
   rw [tc.quiet1 ho (h k o (by omega) (by omega) ho)]
   exact ih (by omega) (by omega) (fun j o h1 h2=>h j o h1 (by omega))
end TC
theorem new_alloc {op:Op} (h:newB op=true):(cvB op=false∧allocB op=true)∨cvB op=true:=by cases op<;>first|exact .inl ⟨rfl,rfl⟩|exact .inr h|cases h|(rename_i r;cases r<;>first|exact .inl ⟨rfl,rfl⟩|cases h)
def HeapAt (ops:Array Oper) (j:Nat):Prop:= ∃o,ops[j]?=some o∧heapB o.op=true
open Classical in
noncomputable def frY (ops:Array Oper) (st:Nat→Fr×LH) (m:Nat) (listed:Array Bool):Fr:=fun t=>if∃j,j<ops.size∧LS listed j∧dstOf ops j=some t then(if∃j,m≤j∧HeapAt ops j∧dstOf ops j=some t then unk else(st ops.size).1 t)else(st 0).1 t
def First (ops:Array Oper) (listed:Array Bool) (m:Nat):Prop:=m≤ops.size∧(∀j,j<m→HeapAt ops j→LS listed j)∧(m=ops.size∨(HeapAt ops m∧ ¬LS listed m))
theorem TC.agree (tc:TC P T N ops prs st) {listed:Array Bool} (hc:Cl ops listed) {m:Nat} (hm:First ops listed m) {i:Nat} {o:Oper} (hi:i∈Region.ready .any ops listed) (ho:ops[i]?=some o) {t:Tmp} (ht:t∈Oper.looksAt ops o) (hnew: ∀k o,ops[k]?=some o→heapB o.op=true→LS listed k→m≤k→newB o.op=true):frY ops st m listed t=(st i).1 t:=by
 have hilt:=(ready_lt hi).1
 unfold frY
 by_cases hex: ∃k,dstOf ops k=some t
 ·obtain⟨k,hk⟩:=hex
  have hks:=dst_lt hk
  rcases tc.dep i o t k ho ht hk with⟨h1,h2,h3⟩|⟨h1,h2⟩
  ·have hl:=mbit_ready hc hi h2
   rw [if_pos ⟨k,hks,hl,hk⟩,if_neg,tc.fdst hk (i:=ops.size) hks (Nat.le_refl _),tc.fdst hk (i:=i) h1 (by omega)]
   rintro⟨j,hj1,⟨oj,hoj,hbj⟩,hj3⟩
   have e:=tc.inj j k t hj3 hk
   subst e
   rcases hm.2.2 with hm2|⟨⟨om,hom,hbm⟩,hm2⟩
   ·omega
   ·have hmj:m<j:=Nat.lt_of_le_of_ne hj1 (fun e=>hm2 (e▸hl))
    exact hm2 (mbit_ready hc hi (h3 oj hoj (hnew j oj hoj hbj hl hj1) m om hmj hom hbm))
  ·have hno: ¬LS listed k:=fun hl=>by
    have:=mbit_listed hc hks hl h2
    have h3:=(ready_lt hi).2
    unfold LS at this
    rw [h3]at this;cases this
   rw [if_neg (fun⟨j,_,hl,hj⟩=>hno (by rw [←tc.inj j k t hj hk];exact hl))]
   exact(tc.fnone (fun j hj hd=>by have:=tc.inj j k t hd hk;omega) (by omega)).symm
 ·rw [if_neg (fun⟨j,_,_,hj⟩=>hex ⟨j,hj⟩)]
  exact(tc.fnone (fun j _ hj=>hex ⟨j,hj⟩) (by omega)).symm
theorem alloc_atC {fr:Fr} {a:Act} {H H' HS:LH} {ι:Ren} {o:Oper} {v:Value} {N:Nat} (hfr:FrR HS.D ι N fr a.tmps) (h:lopC P T o fr H=some (v,H')) (hk:newB o.op=true): ∃b,H'=H.new b∧ ∀w:World,∃w1 im v',(execOp a.eval o).run P w=.ok (.value v') w1∧NewAt P HS.D ι b w w1 im∧ ∀(D':Nat→Prop) (ι':Ren),D' H.n→ι' H.n=im→VR D' ι' v v':=by
 rcases new_alloc hk with⟨hc,ha⟩|hc
 ·rw [lopC_lop hc]at h
  exact alloc_at (HS:=HS) hfr h ha
 ·unfold lopC at h
  rw [if_pos hc]at h
  split at h
  ·rename_i s d x ho
   exact bytes_at (D:=HS.D) (ι:=ι) (hfr.ev x) ho h
  ·cases h
structure Early (P:Program) (ops:Array Oper) (st:Nat→Fr×LH) (H:LH) (ι:Ren) (w0:World) (j:Nat) (A:Nat) (a:Act) (w:World):Prop where
 ex: ∃b im,im.blk=A∧(st (j+1)).2=(st j).2.new b∧BR P H.D ι b im w.heap[A]?∧
  ∀d,dstOf ops j=some d→ ∀(D':Nat→Prop) (ι':Ren),D' (st j).2.n→ι' (st j).2.n=im→VR D' ι' ((st ops.size).1 d) (a.tmps.getD d undef)
 ge:w0.heap.size≤A
 no: ¬Img H ι A
def EarlyO (P:Program) (ops:Array Oper) (st:Nat→Fr×LH) (H:LH) (ι:Ren) (w0:World) (j:Nat) (A:Nat) (a:Act) (w:World):Prop:=
 ((st (j+1)).2=(st j).2∧ ∀d,dstOf ops j=some d→flatB ((st ops.size).1 d)=true∧a.tmps.getD d undef=(st ops.size).1 d)∨Early P ops st H ι w0 j A a w
end
section
variable {P:Program} {ops:Array Oper} {st:Nat→Fr×LH}
theorem Early.step {H H':LH} {ι ι':Ren} {w0 w w':World} {j A:Nat} {a a':Act} (e:Early P ops st H ι w0 j A a w) (hrel:Rel P H ι w) (ho:Out P H ι w H' ι' w') (ht: ∀d,dstOf ops j=some d→a'.tmps.getD d undef=a.tmps.getD d undef):Early P ops st H' ι' w0 j A a' w':=by
 obtain⟨b,im,rfl,h1,h2,h3⟩:=e.ex
 have hnrw: ¬RW H ι im.blk:=fun⟨l,b',g1,_,g3⟩=>e.no ⟨l,b',g1,g3⟩
 have hlt:=h2.some
 refine⟨⟨b,im,rfl,h1,by rw [ho.chg.block _ hlt hnrw];exact h2.mono ho.sub ho.same,fun d hd D' ι2 g1 g2=>by rw [ht d hd];exact h3 d hd D' ι2 g1 g2⟩,e.ge,fun hi=>?_⟩
 rcases ho.img _ hi with h|h
 ·exact e.no h
 ·omega
end
section
variable [Cvt] {P:Program} {T:Callee} {N:Nat} {ops:Array Oper} {prs:List (Nat×Nat)} {st:Nat→Fr×LH} {r:Fr×LH}
end
section
variable {P:Program} {ops:Array Oper} {st:Nat→Fr×LH}
theorem EarlyO.step {H H':LH} {ι ι':Ren} {w0 w w':World} {j A:Nat} {a a':Act} (e:EarlyO P ops st H ι w0 j A a w) (hrel:Rel P H ι w) (ho:Out P H ι w H' ι' w') (ht: ∀d,dstOf ops j=some d→a'.tmps.getD d undef=a.tmps.getD d undef):EarlyO P ops st H' ι' w0 j A a' w':=by
 rcases e with⟨h1,h2⟩|e
 ·exact .inl ⟨h1,fun d hd=>by rw [ht d hd];exact h2 d hd⟩
 ·exact .inr (e.step hrel ho ht)
end
section
variable [Cvt] {P:Program} {T:Callee} {N:Nat} {ops:Array Oper} {prs:List (Nat×Nat)} {st:Nat→Fr×LH} {r:Fr×LH}
end
end Go.Lg
