/-
  Texts joined, part 4: LgEv, LgEvB, LgEvC, PgS, LgEnd, LgRow, LgQui, LgMore, PgT, LgLift, HdRun, Facts, LgApp, LgNum, StBase, StBld, StRows, StLib, StEnv, LgEq.
-/
import Derived.Test.YtbeoilidocfofaaGreatDoorM3
import Derived.Test.YtbeoilidocfofaaGreatDoorM1
import Derived.ChangeArms
import Derived.WideShapes
import Derived.Lib.LaidTab
import Derived.Test.YtbeoilidocfofaaGreatDoorRows
import Derived.MapKept
set_option linter.all false
namespace Go.Lg
open Go.Tg Go.RowKit
section
variable {P:Program}
@[simp] theorem b_ {α β:Type} (s:Sem α) (f:α->Sem β):aU P (s>>=f)=(aU P s).bind fun x=>aU P (f x):=by
 show aU P (s.bind f)=_;induction s with
 |pure a=>rfl
 |program k ih=>exact ih P
 |mark m k ih=>exact ih
 |_=>rfl
@[simp] theorem cf {α:Type} (x:α):aU P (pure x:Sem α)=some x:=rfl
@[simp] theorem gx:aU P program=some P:=rfl
@[simp] theorem fj (t:TypeId):aU P (underlying t)=P.underlying t:=by
 unfold underlying;rw [b_,gx,Option.bind_some];cases P.underlying t<;>rfl
@[simp] theorem zW (t:TypeId):aU P (sizeOf t)=sz P t:=by
 unfold sizeOf typeInfo sz;simp only [b_,gx,Option.bind_some];cases P.info? t<;>rfl
end
def str (l:List UInt8):Value:=.string ⟨l.toArray⟩
theorem kx (s:ByteArray):Value.string s=str s.data.toList:=by cases s;rfl
attribute [simp ↓] wT tS zH tT pM rV wX zJ zK wY wZ tV tW tX
@[congr] theorem IE {x y:Option Value} {H:LH} {Q:Value×LH->Prop} (h:x=y):rT x H Q=rT y H Q:=by rw [h]
@[simp] theorem Ld {v:Value} {H:LH} {Q:Value×LH->Prop} :rT (some v) H Q↔Q (v,H):=Iff.rfl
@[simp] theorem Le {H:LH} {Q:Value×LH->Prop} :rT none H Q↔False:=Iff.rfl
attribute [simp ↓] zL zM zN ID zO DN zQ xb xc DM zP w_ xa
attribute [simp] zG zI w7 tY t_ rW rX pN w9 tZ
section
variable {P:Program} {E:Ext} {fn:Func} {k:List Item} {fr:Fr} {H H' H0:LH} {Q:Value×LH->Prop} {all:Array Oper} {os:List Oper} {d:Nat} {op:Op} {T:Callee}
@[congr] theorem IF {x y:Option (Value×LH)} (h:x=y):Step P E fn x d all os k fr Q=Step P E fn y d all os k fr Q:=by rw [h]
@[congr] theorem GB {x y:Option (Value×LH)} (h:x=y):gH P E fn x d all H0 os k fr Q=gH P E fn y d all H0 os k fr Q:=by rw [h]
@[congr] theorem IG {x y:Bool} {A B:Prop} (h:x=y):eU x A B=eU y A B:=by rw [h]
@[congr] theorem GC {x y:Option Bool} (h:x=y):GStep P E fn x op d all os k fr H Q=GStep P E fn y op d all os k fr H Q:=by rw [h]
@[congr] theorem DT {x y:Option Bool} (h:x=y):iI P E fn x op d all H0 os k fr H Q=iI P E fn y op d all H0 os k fr H Q:=by rw [h]
@[congr] theorem Lf {x y:Option (List (Nat×Nat))} {p q:List Nat} {l:List Oper} (h:x=y) (g:p=q):IB P E fn x p l k fr H Q=IB P E fn y q l k fr H Q:=by rw [h,g]
@[congr] theorem Lh {prs:List (Nat×Nat)} {l l':List Oper} (h:l=l'):Lc P E fn prs l k fr H Q=Lc P E fn prs l' k fr H Q:=by rw [h]
@[congr] theorem DU {x y:Option (Value×LH)} (h:x=y):fz P E fn x d all os k fr Q=fz P E fn y d all os k fr Q:=by rw [h]
@[congr] theorem C5 {x y:Option (Value×LH)} (h:x=y):hG P E fn x all os k fr Q=hG P E fn y all os k fr Q:=by rw [h]
@[congr] theorem Li {x y:Option Bool} (h:x=y):IC P E fn x op d all os k fr H Q=IC P E fn y op d all os k fr H Q:=by rw [h]
@[simp] theorem GD {v:Value} :fz P E fn (some (v,H)) d all os k fr Q↔d<fn.ntmps/\nS P E fn all os k (upd fr d v) H Q:=Iff.rfl
@[simp] theorem GF:fz P E fn none d all os k fr Q↔False:=Iff.rfl
@[simp] theorem DV {v:Value} :hG P E fn (some (v,H)) all os k fr Q↔nS P E fn all os k fr H Q:=Iff.rfl
@[simp] theorem DW:hG P E fn none all os k fr Q↔False:=Iff.rfl
@[simp] theorem M_:IC P E fn (some true) op d all os k fr H Q↔fz P E fn (aR E.loud.cv P (LC P E) op fr H) d all os k fr Q:=Iff.rfl
@[simp] theorem Lj:IC P E fn (some false) op d all os k fr H Q↔d<fn.ntmps/\nS P E fn all os k (upd fr d undef) H Q:=Iff.rfl
theorem Na {b:Bool} :IC P E fn (some b) op d all os k fr H Q↔(b=true->fz P E fn (aR E.loud.cv P (LC P E) op fr H) d all os k fr Q)/\(b=false->d<fn.ntmps/\nS P E fn all os k (upd fr d undef) H Q):=by cases b<;>simp
attribute [simp low] Na
section
variable {prs:List (Nat×Nat)} {j:Nat} {old:Nat->Fr×LH} {v:Value} {x:Fr×LH}
@[congr] theorem GG {x y:Option (Value×LH)} (h:x=y):iy P E fn x d op all prs j old os k fr H Q=iy P E fn y d op all prs j old os k fr H Q:=by rw [h]
@[congr] theorem DY {x y:Option (Value×LH)} (h:x=y):ku P E fn x op all prs j old os k fr H Q=ku P E fn y op all prs j old os k fr H Q:=by rw [h]
@[congr] theorem Nb {x y:Option Bool} (h:x=y):CG P E fn x op d all prs j old os k fr H Q=CG P E fn y op d all prs j old os k fr H Q:=by rw [h]
@[simp] theorem IH:iy P E fn (some (v,H')) d op all prs j old os k fr H Q↔d<fn.ntmps/\nR P j op fr old v prs/\j6 P j all old (upd fr d v) H' prs/\lB P E fn all prs (j+1) (mK old j (fr,H)) os k (upd fr d v) H' Q:=Iff.rfl
@[simp] theorem II:iy P E fn none d op all prs j old os k fr H Q↔False:=Iff.rfl
@[simp] theorem GH:ku P E fn (some (v,H')) op all prs j old os k fr H Q↔nR P j op fr old v prs/\j6 P j all old fr H' prs/\lB P E fn all prs (j+1) (mK old j (fr,H)) os k fr H' Q:=Iff.rfl
@[simp] theorem GI:ku P E fn none op all prs j old os k fr H Q↔False:=Iff.rfl
@[simp] theorem Pw:CG P E fn (some true) op d all prs j old os k fr H Q↔iy P E fn (aR E.loud.cv P (LC P E) op fr H) d op all prs j old os k fr H Q:=Iff.rfl
@[simp] theorem Nc:CG P E fn (some false) op d all prs j old os k fr H Q↔d<fn.ntmps/\j6 P j all old (upd fr d undef) H prs/\lB P E fn all prs (j+1) (mK old j (fr,H)) os k (upd fr d undef) H Q:=Iff.rfl
theorem QP {b:Bool} :CG P E fn (some b) op d all prs j old os k fr H Q↔(b=true->iy P E fn (aR E.loud.cv P (LC P E) op fr H) d op all prs j old os k fr H Q)/\(b=false->d<fn.ntmps/\j6 P j all old (upd fr d undef) H prs/\lB P E fn all prs (j+1) (mK old j (fr,H)) os k (upd fr d undef) H Q):=by cases b<;>simp
attribute [simp low] QP
@[simp ↓] theorem Nd {i:Nat} :mK old j x i=if i=j then x else old i:=rfl
@[simp ↓] theorem Px:nR P j op fr old v []↔True:=Iff.rfl
@[simp ↓] theorem Nf {a b:Nat} :nR P j op fr old v ((a,b)::prs)↔(a=j/\b<j->aM P T0 op fr (old b).2=some (v,(old b).2))/\nR P j op fr old v prs:=Iff.rfl
@[simp ↓] theorem Py:j6 P j all old fr H' []↔True:=Iff.rfl
def uc:List Oper->Nat->Option Oper
 | [],_=>none
 |o::_,0=>some o
 |_::l,n+1=>uc l n
theorem vz: ∀(l:List Oper) (j:Nat),l[j]?=uc l j
 | [],j=>by cases j<;>rfl
 |o::l,0=>rfl
 |o::l,n+1=>vz l n
@[simp ↓] theorem Lk {o:Oper} {l:List Oper} :uc (o::l) 0=some o:=rfl
@[simp ↓] theorem Ll {o:Oper} {l:List Oper} {n:Nat} :uc (o::l) (n+1)=uc l n:=rfl
@[simp ↓] theorem Ng {a b:Nat} {l:List Oper} :j6 P j ⟨l⟩ old fr H' ((a,b)::prs)↔(b=j/\a<j->rS P ⟨l⟩ (uc l a) (old a) fr H')/\j6 P j ⟨l⟩ old fr H' prs:=by
 have e:(⟨l⟩:Array Oper)[a]?=uc l a:=by
  rw [<-vz];show(l.toArray)[a]?=_;rw [List.getElem?_toArray]
 rw [<-e];exact Iff.rfl
@[simp ↓] theorem IJ {ty:TypeId} {pos:String} {after:Array Edge} {l:List Oper} :rS P ⟨l⟩ (some ⟨some d,op,ty,pos,after,none⟩) x fr H'↔aM P T0 op x.1 H'=some (fr d,H'):=by
 unfold rS;constructor
 ·intro h;exact h d rfl rfl
 ·intro h d' hd _;injection hd with hd;subst hd;exact h
def gtr (x:Option Bool):Prop:=x=some true
@[simp] theorem Nh {b:Bool} :gtr (some b)↔b=true:=by unfold gtr;simp
@[simp ↓] theorem IK {ty:TypeId} {pos:String} {after:Array Edge} {l:List Oper} {g:Nat} {want:Bool} :rS P ⟨l⟩ (some ⟨some d,op,ty,pos,after,some (g,want)⟩) x fr H'↔(gtr (bP ⟨l⟩ x.1 g want)->aM P T0 op x.1 H'=some (fr d,H')):=by
 unfold rS gtr;constructor
 ·intro h hg;exact h d rfl hg
 ·intro h d' hd hw;injection hd with hd;subst hd;exact h hw
end
@[simp] theorem Lm:Step P E fn none d all os k fr Q↔False:=Iff.rfl
@[simp] theorem IL:gH P E fn none d all H0 os k fr Q↔False:=Iff.rfl
@[simp ↓] theorem Pz {v:Value} {t:Nat} :upd fr d v t=if t=d then v else fr t:=rfl
@[simp ↓] theorem QQ {t:Nat} :ev fr (.tmp t)=fr t:=rfl
@[simp ↓] theorem QR {kd:IntKind} {n:Int} :ev fr (.const (.int kd n))=.int kd n:=rfl
@[simp ↓] theorem PD {b:Bool} :ev fr (.const (.bool b))=.bool b:=rfl
@[simp ↓] theorem QS {l:List UInt8} :ev fr (.const (.string ⟨l.toArray⟩))=str l:=rfl
@[simp ↓] theorem QT:ev fr (.const (.pointer none))=.pointer none:=rfl
@[simp ↓] theorem GJ:ev fr (.const (.slice none 0 0))=.slice none 0 0:=rfl
@[simp ↓] theorem PE {f:FuncId} :ev fr (.func f)=.func (.func f) #[] #[]:=rfl
def jx (P:Program) (E:Ext) (fn:Func) (c:Value) (x y:Code) (k:List Item) (fr:Fr) (H:LH) (Q:Value×LH->Prop):Prop:=
 match c with
 |.bool b=>(b=true->aZ P E fn (.code x::k) fr H Q)/\(b=false->aZ P E fn (.code y::k) fr H Q)
 |_=>False
@[congr] theorem GK {c c':Value} {x y:Code} (h:c=c'):jx P E fn c x y k fr H Q=jx P E fn c' x y k fr H Q:=by rw [h]
@[simp ↓] theorem IM {c:Operand} {x y:Code} :aZ P E fn (.code (.cond c x y)::k) fr H Q↔jx P E fn (ev fr c) x y k fr H Q:=by
 unfold jx;cases h:ev fr c with
 |bool b=>rw [wW h];cases b<;>simp
 |_=>
  simp only [iff_false];rintro⟨n,r,hn,_⟩;cases n with
  |zero=>simp [run]at hn
  |succ n=>simp [run,h]at hn
@[simp] theorem IN {x y:Code} :jx P E fn (.bool true) x y k fr H Q↔aZ P E fn (.code x::k) fr H Q:=by simp [jx]
@[simp] theorem GL {x y:Code} :jx P E fn (.bool false) x y k fr H Q↔aZ P E fn (.code y::k) fr H Q:=by simp [jx]
@[simp low] theorem PF {b:Bool} {x y:Code} :jx P E fn (.bool b) x y k fr H Q↔(b=true->aZ P E fn (.code x::k) fr H Q)/\(b=false->aZ P E fn (.code y::k) fr H Q):=Iff.rfl
@[simp ↓] theorem IP {id:Nat} :aZ P E fn (.code (.exit id)::k) fr H Q↔match exitTo id k with|some k'=>aZ P E fn k' fr H Q|none=>False:=wV
@[simp] theorem Ni {id:Nat} :exitTo id []=none:=rfl
@[simp] theorem IQ {id j:Nat} :exitTo id (.inBlock j::k)=if j==id then some k else exitTo id k:=rfl
@[simp] theorem Ln {id:Nat} {c:Code} :exitTo id (.code c::k)=exitTo id k:=rfl
@[simp] theorem Lp {id:Nat} {c:Code} :exitTo id (.inLoop c::k)=exitTo id k:=rfl
def xh:List Oper->Nat->Option Tmp
 | [],_=>none
 |o::_,0=>o.dst
 |_::l,n+1=>xh l n
theorem vA: ∀(l:List Oper) (j:Nat),(l[j]?).bind (·.dst)=xh l j
 | [],j=>by cases j<;>rfl
 |o::l,0=>rfl
 |o::l,n+1=>vA l n
attribute [simp] eC
@[simp ↓] theorem Lq {o:Oper} {l:List Oper} :qW (o::l) 0=o:=rfl
@[simp ↓] theorem Lr {o:Oper} {l:List Oper} {n:Nat} :qW (o::l) (n+1)=qW l n:=rfl
@[simp] theorem Ls {p:List Nat} {d:Option Tmp} {op:Op} {ty:TypeId} {pos:String} {after:Array Edge} :lx p ⟨d,op,ty,pos,after,none⟩=⟨d,op,ty,pos,Ip p after,none⟩:=rfl
@[simp] theorem Lt {p:List Nat} {d:Option Tmp} {op:Op} {ty:TypeId} {pos:String} {after:Array Edge} {g:Nat} {b:Bool} :lx p ⟨d,op,ty,pos,after,some (g,b)⟩=⟨d,op,ty,pos,Ip p after,some (eC p g,b)⟩:=rfl
@[simp] theorem pmap_nil {p:List Nat} {l:List Oper} :pmap p l []= []:=rfl
@[simp] theorem pmap_cons {p:List Nat} {l:List Oper} {i:Nat} {is:List Nat} :pmap p l (i::is)=lx p (qW l i)::pmap p l is:=rfl
@[simp ↓] theorem Lu {dst:Option Tmp} {op:Op} {ty:TypeId} {pos:String} {after:Array Edge} {g:Option (Nat×Bool)} {l:List Oper} :xh (⟨dst,op,ty,pos,after,g⟩::l) 0=dst:=rfl
@[simp ↓] theorem Lv {o:Oper} {l:List Oper} {n:Nat} :xh (o::l) (n+1)=xh l n:=rfl
def zX (v:Value) (want:Bool):Option Bool:=match v with
 |.bool b=>some (b==want)
 |v=>if ao v then some false else none
def Nj (d:Option Tmp) (fr:Fr) (want:Bool):Option Bool:=match d with
 |none=>some false
 |some d=>zX (fr d) want
@[simp ↓] theorem Lw {l:List Oper} {j:Nat} {want:Bool} :bP ⟨l⟩ fr j want=Nj (xh l j) fr want:=by
 unfold bP;rw [<-vA];show(match (l.toArray[j]?).bind (·.dst)with|none=>_|some d=>_)=_;rw [List.getElem?_toArray];cases (l[j]?).bind (·.dst)<;>rfl
@[simp] theorem Ly {d:Nat} {want:Bool} :Nj (some d) fr want=zX (fr d) want:=rfl
@[simp] theorem Lz {b:Bool} :zX (.bool b) true=some b:=by cases b<;>rfl
@[simp] theorem IS {b:Bool} :zX (.bool b) false=some (!b):=by cases b<;>rfl
@[simp] theorem IT {want:Bool} :zX undef want=some false:=rfl
theorem DZ {b:Bool} :GStep P E fn (some b) op d all os k fr H Q↔(b=true->Step P E fn (ba P (LC P E) op fr H) d all os k fr Q)/\(b=false->d<fn.ntmps/\dN P E fn all os k (upd fr d undef) H Q):=by cases b<;>simp
theorem zY {b:Bool} :iI P E fn (some b) op d all H0 os k fr H Q↔(b=true->gH P E fn (bu P (LC P E) op fr H0 H) d all H0 os k fr Q)/\(b=false->d<fn.ntmps/\f_ P E fn all H0 os k (upd fr d undef) H Q):=by cases b<;>simp
attribute [simp low] DZ zY
@[simp ↓] theorem LA {x:Operand} :aM P T (.move x) fr H=some (ev fr x,H):=rfl
@[simp ↓] theorem GM {x:Operand} :aM P T (.assign x) fr H=some (ev fr x,H):=rfl
def GN (c a b:Value) (H:LH):Option (Value×LH):=match c with|.bool t=>some (if t then a else b,H)|_=>none
@[simp ↓] theorem LD {c x y:Operand} :aM P T (.pick c x y) fr H=GN (ev fr c) (ev fr x) (ev fr y) H:=rfl
@[simp] theorem IU {t:Bool} {a b:Value} :GN (.bool t) a b H=some (if t=true then a else b,H):=rfl
def bI (v:Option Value) (H:LH):Option (Value×LH):=v.map fun v=>(v,H)
@[simp] theorem IV {v:Value} :bI (some v) H=some (v,H):=rfl
@[simp ↓] theorem Nk {op:BinOp} {t yt:TypeId} {x y:Operand} :aM P T (.binOp op t x y yt) fr H=bI (bL P op t (ev fr x) (ev fr y)) H:=rfl
def D6 (P:Program) (t:TypeId) (x i:Value):Option Value:=if ao x&&ao i then aO P (Instr.index t x i)else none
@[simp ↓] theorem IW {t:TypeId} {x i:Operand} :aM P T (.index t x i) fr H=bI (D6 P t (ev fr x) (ev fr i)) H:=by
 show(if ao (ev fr x)&&ao (ev fr i)then _ else _)=bI (D6 _ _ _ _) _;unfold D6 bI;split<;>rfl
def Nl (P:Program) (op:UnOp) (x:Value):Option Value:=if ao x then aO P (Op.unary op x)else none
@[simp ↓] theorem PH {op:UnOp} {t:TypeId} {x:Operand} :aM P T (.unOp op t x) fr H=bI (Nl P op (ev fr x)) H:=by
 show(if ao (ev fr x)then _ else _)=bI (Nl _ _ _) _;unfold Nl bI;split<;>rfl
def cg (P:Program) (s d:TypeId) (x:Value) (H:LH):Option Value:=if ao x then aO P (convert s d x)else kT P s d x H
@[simp ↓] theorem ky {s d:TypeId} {x:Operand} :aM P T (.convert s d x) fr H=bI (cg P s d (ev fr x) H) H:=by
 show(if ao (ev fr x)then _ else _)=bI (cg _ _ _ _ _) _;unfold cg bI;split<;>rfl
def fJ (x:Value) (i:Nat):Option Value:=match x with|.tuple vs=>vs[i]?|_=>none
@[simp ↓] theorem D7 {x:Operand} {i:Nat} :aM P T (.extract x i) fr H=bI (fJ (ev fr x) i) H:=by
 show(match ev fr x with|.tuple vs=>_|_=>none)=bI (fJ _ _) _;cases ev fr x<;>rfl
@[simp] theorem IX {a:Value} {l:List Value} :fJ (.tuple ⟨a::l⟩) 0=some a:=rfl
@[simp] theorem IY {a b:Value} {l:List Value} :fJ (.tuple ⟨a::b::l⟩) 1=some b:=rfl
@[simp] theorem IZ {a b c:Value} {l:List Value} :fJ (.tuple ⟨a::b::c::l⟩) 2=some c:=rfl
@[simp] theorem I6 {a b c d:Value} {l:List Value} :fJ (.tuple ⟨a::b::c::d::l⟩) 3=some d:=rfl
@[simp ↓] theorem LF {f:Operand} {args:List Operand} {ts:Array TypeId} :aM P T (.call ⟨.value f,⟨args⟩,ts⟩) fr H=bE P T (ev fr f) (args.map (ev fr)) H:=rfl
@[simp ↓] theorem D8 {b:Builtin} {args:List Operand} {ts:List TypeId} :aM P T (.call ⟨.builtin b,⟨args⟩,⟨ts⟩⟩) fr H=aI P b ts (args.map (ev fr)) H:=rfl
@[simp] theorem D9 {g:FuncId} {args:List Value} :bE P T (.func (.func g) #[] #[]) args H=T g args H:=by simp [bE]
@[simp ↓] theorem I7 {x:Operand} :ba P T (.move x) fr H=aM P T (.move x) fr H:=rfl
@[simp ↓] theorem D_ {x:Operand} :ba P T (.assign x) fr H=aM P T (.assign x) fr H:=rfl
@[simp ↓] theorem I8 {c x y:Operand} :ba P T (.pick c x y) fr H=aM P T (.pick c x y) fr H:=rfl
@[simp ↓] theorem GO {t:TypeId} :ba P T (.alloc t) fr H=aM P T (.alloc t) fr H:=rfl
@[simp ↓] theorem LG {t:TypeId} {x:Operand} :ba P T (.box t x) fr H=aM P T (.box t x) fr H:=rfl
@[simp ↓] theorem GP {t:TypeId} {ps:Array (Nat×Operand)} :ba P T (.build t ps) fr H=aM P T (.build t ps) fr H:=rfl
@[simp ↓] theorem xi {t:TypeId} {n:Nat} {ps:Array (Nat×Operand)} :ba P T (.buildSlice t n ps) fr H=aM P T (.buildSlice t n ps) fr H:=rfl
@[simp ↓] theorem I9 {t:TypeId} {x:Operand} :ba P T (.load t x) fr H=aM P T (.load t x) fr H:=rfl
@[simp ↓] theorem GQ {t:TypeId} {x y:Operand} :ba P T (.store t x y) fr H=aM P T (.store t x y) fr H:=rfl
@[simp ↓] theorem zZ {x:Operand} :ba P T (.nilCheck x) fr H=aM P T (.nilCheck x) fr H:=rfl
@[simp ↓] theorem GR {o:BinOp} {t u:TypeId} {x y:Operand} :ba P T (.binOp o t x y u) fr H=aM P T (.binOp o t x y u) fr H:=rfl
@[simp ↓] theorem I_ {o:UnOp} {t:TypeId} {x:Operand} :ba P T (.unOp o t x) fr H=aM P T (.unOp o t x) fr H:=rfl
@[simp ↓] theorem z_ {f:Fn} {g c:Array Operand} :ba P T (.makeFunc f g c) fr H=aM P T (.makeFunc f g c) fr H:=rfl
@[simp ↓] theorem yv {t:TypeId} {x y:Operand} :ba P T (.makeSlice t x y) fr H=aM P T (.makeSlice t x y) fr H:=rfl
@[simp ↓] theorem GS {t:TypeId} {x:Operand} {lo hi mx:Option Operand} :ba P T (.slice t x lo hi mx) fr H=aM P T (.slice t x lo hi mx) fr H:=rfl
@[simp ↓] theorem yw {t:TypeId} {x:Operand} {i:Nat} :ba P T (.fieldAddr t x i) fr H=aM P T (.fieldAddr t x i) fr H:=rfl
@[simp ↓] theorem GU {t:TypeId} {x:Operand} {i:Nat} :ba P T (.field t x i) fr H=aM P T (.field t x i) fr H:=rfl
@[simp ↓] theorem yy {t:TypeId} {x y:Operand} :ba P T (.indexAddr t x y) fr H=aM P T (.indexAddr t x y) fr H:=rfl
@[simp ↓] theorem GV {t:TypeId} {x y:Operand} :ba P T (.index t x y) fr H=aM P T (.index t x y) fr H:=rfl
@[simp ↓] theorem C6 {x:Operand} {i:Nat} :ba P T (.extract x i) fr H=aM P T (.extract x i) fr H:=rfl
@[simp ↓] theorem I' {c:Call} :ba P T (.call c) fr H=aM P T (.call c) fr H:=rfl
@[simp ↓] theorem Ja {cv:TypeId->TypeId->Bool} {x:Operand} :aR cv P T (.move x) fr H=aM P T (.move x) fr H:=rfl
@[simp ↓] theorem Ea {cv:TypeId->TypeId->Bool} {x:Operand} :aR cv P T (.assign x) fr H=aM P T (.assign x) fr H:=rfl
@[simp ↓] theorem Jb {cv:TypeId->TypeId->Bool} {c x y:Operand} :aR cv P T (.pick c x y) fr H=aM P T (.pick c x y) fr H:=rfl
@[simp ↓] theorem GW {cv:TypeId->TypeId->Bool} {t:TypeId} :aR cv P T (.alloc t) fr H=aM P T (.alloc t) fr H:=rfl
@[simp ↓] theorem LI {cv:TypeId->TypeId->Bool} {t:TypeId} {x:Operand} :aR cv P T (.box t x) fr H=aM P T (.box t x) fr H:=rfl
@[simp ↓] theorem GX {cv:TypeId->TypeId->Bool} {t:TypeId} {ps:Array (Nat×Operand)} :aR cv P T (.build t ps) fr H=aM P T (.build t ps) fr H:=rfl
@[simp ↓] theorem xj {cv:TypeId->TypeId->Bool} {t:TypeId} {n:Nat} {ps:Array (Nat×Operand)} :aR cv P T (.buildSlice t n ps) fr H=aM P T (.buildSlice t n ps) fr H:=rfl
@[simp ↓] theorem Jc {cv:TypeId->TypeId->Bool} {t:TypeId} {x:Operand} :aR cv P T (.load t x) fr H=aM P T (.load t x) fr H:=rfl
@[simp ↓] theorem GY {cv:TypeId->TypeId->Bool} {t:TypeId} {x y:Operand} :aR cv P T (.store t x y) fr H=aM P T (.store t x y) fr H:=rfl
@[simp ↓] theorem z' {cv:TypeId->TypeId->Bool} {x:Operand} :aR cv P T (.nilCheck x) fr H=aM P T (.nilCheck x) fr H:=rfl
@[simp ↓] theorem GZ {cv:TypeId->TypeId->Bool} {o:BinOp} {t u:TypeId} {x y:Operand} :aR cv P T (.binOp o t x y u) fr H=aM P T (.binOp o t x y u) fr H:=rfl
@[simp ↓] theorem Jd {cv:TypeId->TypeId->Bool} {o:UnOp} {t:TypeId} {x:Operand} :aR cv P T (.unOp o t x) fr H=aM P T (.unOp o t x) fr H:=rfl
@[simp ↓] theorem Aa {cv:TypeId->TypeId->Bool} {f:Fn} {g c:Array Operand} :aR cv P T (.makeFunc f g c) fr H=aM P T (.makeFunc f g c) fr H:=rfl
@[simp ↓] theorem yz {cv:TypeId->TypeId->Bool} {t:TypeId} {x y:Operand} :aR cv P T (.makeSlice t x y) fr H=aM P T (.makeSlice t x y) fr H:=rfl
@[simp ↓] theorem G0 {cv:TypeId->TypeId->Bool} {t:TypeId} {x:Operand} {lo hi mx:Option Operand} :aR cv P T (.slice t x lo hi mx) fr H=aM P T (.slice t x lo hi mx) fr H:=rfl
@[simp ↓] theorem yA {cv:TypeId->TypeId->Bool} {t:TypeId} {x:Operand} {i:Nat} :aR cv P T (.fieldAddr t x i) fr H=aM P T (.fieldAddr t x i) fr H:=rfl
@[simp ↓] theorem G4 {cv:TypeId->TypeId->Bool} {t:TypeId} {x:Operand} {i:Nat} :aR cv P T (.field t x i) fr H=aM P T (.field t x i) fr H:=rfl
@[simp ↓] theorem yB {cv:TypeId->TypeId->Bool} {t:TypeId} {x y:Operand} :aR cv P T (.indexAddr t x y) fr H=aM P T (.indexAddr t x y) fr H:=rfl
@[simp ↓] theorem G5 {cv:TypeId->TypeId->Bool} {t:TypeId} {x y:Operand} :aR cv P T (.index t x y) fr H=aM P T (.index t x y) fr H:=rfl
@[simp ↓] theorem C7 {cv:TypeId->TypeId->Bool} {x:Operand} {i:Nat} :aR cv P T (.extract x i) fr H=aM P T (.extract x i) fr H:=rfl
@[simp ↓] theorem Je {cv:TypeId->TypeId->Bool} {c:Call} :aR cv P T (.call c) fr H=aM P T (.call c) fr H:=rfl
def xk (cv:TypeId->TypeId->Bool) (P:Program) (s d:TypeId) (v:Value) (H:LH):Option (Value×LH):=if cv s d=true then bM P s d v H else bI (cg P s d v H) H
@[simp ↓] theorem C8 {cv:TypeId->TypeId->Bool} {s t:TypeId} {x:Operand} :aR cv P T (.convert s t x) fr H=xk cv P s t (ev fr x) H:=by
 unfold xk;cases h:cv s t with
 |true=>show(if cv s t=true then _ else _)=_;rw [h];rfl
 |false=>show(if cv s t=true then _ else aM P T (.convert s t x) fr H)=_;rw [h,ky];first|done|rfl
@[simp] theorem PI {cv:TypeId->TypeId->Bool} {s t:TypeId} {v:Value} (h:cv s t=false):xk cv P s t v H=bI (cg P s t v H) H:=by unfold xk;simp [h]
@[simp] theorem Nn {cv:TypeId->TypeId->Bool} {s t:TypeId} {v:Value} (h:cv s t=true):xk cv P s t v H=bM P s t v H:=by unfold xk;simp [h]
def jy (P:Program) (s d:TypeId) (v:Value) (H:LH):Option (Value×LH):=match db P s d v H with
 |some r=>some r
 |none=>bI (cg P s d v H) H
@[simp ↓] theorem C9 {s t:TypeId} {x:Operand} :ba P T (.convert s t x) fr H=jy P s t (ev fr x) H:=by
 show(match db P s t (ev fr x) H with|some r=>some r|none=>aM P T (.convert s t x) fr H)=_;rw [ky];rfl
theorem kz {s t:TypeId} {v:Value} (h: ∀bs,v≠.string bs):bM P s t v H=none:=by
 unfold bM;split
 ·exact absurd rfl (h _)
 ·rfl
theorem pP {s t:TypeId} {v:Value} (h: ∀bs,v≠.string bs) (h2: ∀a n c,v≠.slice a n c):jy P s t v H=bI (cg P s t v H) H:=by
 have e1:=kz (P:=P) (H:=H) (s:=s) (t:=t) h
 have e2:fB P s t v H=none:=by
  unfold fB;split
  ·exact absurd rfl (h2 _ _ _)
  ·rfl
 unfold jy db;rw [e1,e2]
@[simp] theorem No {s t:TypeId} {kd:IntKind} {n:Int} :jy P s t (.int kd n) H=bI (cg P s t (.int kd n) H) H:=pP (fun _ h=>by cases h) (fun _ _ _ h=>by cases h)
@[simp] theorem Jf {s t:TypeId} {kd:FloatKind} {n:Nat} :jy P s t (.float kd n) H=bI (cg P s t (.float kd n) H) H:=pP (fun _ h=>by cases h) (fun _ _ _ h=>by cases h)
@[simp] theorem Jg {s t:TypeId} {a:Option Addr} {n c:Nat} (hne:s≠t):jy P s t (.slice a n c) H=bI (cg P s t (.slice a n c) H) H:=by
 have e1:=kz (P:=P) (H:=H) (s:=s) (t:=t) (v:=.slice a n c) (fun _ h=>by cases h)
 have e2:fB P s t (.slice a n c) H=none:=by
  unfold fB;split
  ·split
   ·split
    ·rw [if_neg (fun h=>hne h.1)]
    ·rfl
   ·rfl
  ·rfl
 unfold jy db;rw [e1,e2]
@[simp] theorem Jh {s t:TypeId} :jy P s t undef H=bI (cg P s t undef H) H:=pP (fun _ h=>by cases h) (fun _ _ _ h=>by cases h)
theorem strCells_eq (l:List UInt8):Lib.strCells ⟨l.toArray⟩=l.map fun b=>Value.int .u8 b.toNat:=by simp [Lib.strCells]
@[simp] theorem ue {s t e:TypeId} {l:List UInt8} (hs:P.underlying s=some .string) (hd:P.underlying t=some (.slice e)) (he:P.underlying e=some (.int .u8)) (hz:sz P e=some 1):jy P s t (str l) H=some (.slice (some ⟨H.n,0,none⟩) l.length l.length,H.new ⟨l.map fun b=>Value.int .u8 b.toNat,MK P e,decide (l.length<=maxLen)⟩):=by
 unfold jy db bM str;simp only [hs,hd,he,hz,strCells_eq,if_true];rw [show(⟨l.toArray⟩:ByteArray).size=l.length by show l.toArray.size=_;simp]
@[simp] theorem Eb {s t e:TypeId} {l:List UInt8} (hs:P.underlying s=some .string) (hd:P.underlying t=some (.slice e)) (he:P.underlying e=some (.int .u8)) (hz:sz P e=some 1):bM P s t (str l) H=some (.slice (some ⟨H.n,0,none⟩) l.length l.length,H.new ⟨l.map fun b=>Value.int .u8 b.toNat,MK P e,decide (l.length<=maxLen)⟩):=by
 unfold bM str;simp only [hs,hd,he,hz,strCells_eq,if_true];rw [show(⟨l.toArray⟩:ByteArray).size=l.length by show l.toArray.size=_;simp]
@[simp] theorem xm {s t:TypeId} {l:List UInt8} (hd:P.underlying t=some .string):jy P s t (str l) H=bI (cg P s t (str l) H) H:=by
 have:bM P s t (str l) H=none:=by
  unfold bM;split
  ·rename_i h _;rw [hd]at h;cases h
  ·rfl
 have e2:fB P s t (str l) H=none:=by
  unfold fB;split
  ·rename_i h;cases h
  ·rfl
 unfold jy db;rw [this,e2]
@[simp] theorem rZ {kd:IntKind} {n:Int} :ao (.int kd n)=true:=by simp [ao,az,aA,str]
@[simp] theorem LJ {b:Bool} :ao (.bool b)=true:=by simp [ao,az,aA,str]
@[simp] theorem Ab {l:List UInt8} :ao (str l)=true:=by simp [ao,az,aA,str]
@[simp] theorem G6 {s:ByteArray} :ao (.string s)=true:=by simp [ao,az,aA,str]
@[simp] theorem Np:ao (.pointer none)=true:=by simp [ao,az,aA,str]
@[simp] theorem C_:ao (.slice none 0 0)=true:=by simp [ao,az,aA,str]
@[simp] theorem wrap64_in {n:Int} (h1: -9223372036854775808<=n) (h2:n<=9223372036854775807):IntKind.i64.wrap n=n:=IntWalk.i64_in _ ⟨h1,h2⟩
theorem cM {op:BinOp} {t:TypeId} {kd:IntKind} {a b:Int} {v:Value} (h:aU P (binOp op t (.int kd a) (.int kd b))=some v) (hv:ao v=true):bL P op t (.int kd a) (.int kd b)=some v:=by
 have e:aU P (do eqGuard op t (.tmp 0) (.tmp 0) (.int kd a) (.int kd b);binOp op t (.int kd a) (.int kd b):Sem Value)=some v:=by
  rw [<-h];cases op<;>rfl
 show aO P (do eqGuard op t (.tmp 0) (.tmp 0) _ _;binOp op t _ _)=some v;unfold aO;rw [e];simp only [hv,if_true]
variable {t:TypeId} {kd:IntKind} {a b:Int}
@[simp] theorem Nq:bL P .add t (.int kd a) (.int kd b)=some (.int kd (kd.wrap (a+b))):=cM (by simp [binOp,Op.intArith]) rfl
@[simp] theorem Nr:bL P .sub t (.int kd a) (.int kd b)=some (.int kd (kd.wrap (a-b))):=cM (by simp [binOp,Op.intArith]) rfl
@[simp] theorem Ns:bL P .mul t (.int kd a) (.int kd b)=some (.int kd (kd.wrap (a*b))):=cM (by simp [binOp,Op.intArith]) rfl
@[simp] theorem Nt (h:b≠0):bL P .quo t (.int kd a) (.int kd b)=some (.int kd (kd.wrap (a.tdiv b))):=cM (by simp [binOp,Op.intDiv,h]) rfl
@[simp] theorem Nv (h:b≠0):bL P .rem t (.int kd a) (.int kd b)=some (.int kd (a.tmod b)):=cM (by simp [binOp,Op.intDiv,h]) rfl
@[simp] theorem PJ:bL P .eql t (.int kd a) (.int kd b)=some (.bool (decide (a=b))):=cM (by by_cases h:a=b<;>simp [binOp,Op.intCmp,h]) rfl
@[simp] theorem PL:bL P .neq t (.int kd a) (.int kd b)=some (.bool (decide (a≠b))):=cM (by
 simp only [binOp,Op.intCmp,ne_eq,not_true_eq_false,if_false];show some (Value.bool (a !=b))=_;congr 2;by_cases h:a=b<;>simp [h]) rfl
@[simp] theorem PM:bL P .lss t (.int kd a) (.int kd b)=some (.bool (decide (a<b))):=cM (by simp [binOp,Op.intCmp]) rfl
@[simp] theorem PN:bL P .leq t (.int kd a) (.int kd b)=some (.bool (decide (a<=b))):=cM (by simp [binOp,Op.intCmp]) rfl
@[simp] theorem PS:bL P .gtr t (.int kd a) (.int kd b)=some (.bool (decide (b<a))):=cM (by simp [binOp,Op.intCmp]) rfl
@[simp] theorem PT:bL P .geq t (.int kd a) (.int kd b)=some (.bool (decide (b<=a))):=cM (by simp [binOp,Op.intCmp]) rfl
theorem pQ {op:BinOp} {t:TypeId} {a b:List UInt8} {v:Value} (h:aU P (binOp op t (str a) (str b))=some v) (hv:ao v=true):bL P op t (str a) (str b)=some v:=by
 have e:aU P (do eqGuard op t (.tmp 0) (.tmp 0) (str a) (str b);binOp op t (str a) (str b):Sem Value)=some v:=by
  rw [<-h];cases op<;>rfl
 show aO P (do eqGuard op t (.tmp 0) (.tmp 0) _ _;binOp op t _ _)=some v;unfold aO;rw [e];simp only [hv,if_true]
theorem vB (l:List UInt8):(⟨l.toArray⟩:ByteArray).toList=l:=by rw [wo]
theorem cN (l:List UInt8):(⟨l.toArray⟩:ByteArray).size=l.length:=by show l.toArray.size=_;simp
variable {x y:List UInt8}
@[simp] theorem Nw:bL P .eql t (str x) (str y)=some (.bool (decide (x=y))):=pQ (by
 simp only [str,binOp,Op.stringOp,vB];show some (Value.bool (x==y))=_;by_cases h:x=y<;>simp [h]) rfl
@[simp] theorem Ny:bL P .neq t (str x) (str y)=some (.bool (decide (x≠y))):=pQ (by
 simp only [str,binOp,Op.stringOp,vB];show some (Value.bool (!(x==y)))=_;by_cases h:x=y<;>simp [h]) rfl
@[simp] theorem r_ (h:x.length+y.length<=9223372036854775807):bL P .add t (str x) (str y)=some (str (x++y)):=pQ (by
 simp only [str,binOp,Op.stringOp,cN];rw [if_neg (by rw [show IntKind.max .i64=9223372036854775807 from rfl];omega)];show some (Value.string _)=_;congr 2) rfl
theorem vC {op:BinOp} {t:TypeId} {a b:Bool} {v:Value} (h:aU P (binOp op t (.bool a) (.bool b))=some v) (hv:ao v=true):bL P op t (.bool a) (.bool b)=some v:=by
 have e:aU P (do eqGuard op t (.tmp 0) (.tmp 0) (.bool a) (.bool b);binOp op t (.bool a) (.bool b):Sem Value)=some v:=by
  rw [<-h];cases op<;>rfl
 show aO P (do eqGuard op t (.tmp 0) (.tmp 0) _ _;binOp op t _ _)=some v;unfold aO;rw [e];simp only [hv,if_true]
@[simp] theorem PU {a:Bool} :Nl P .not (.bool a)=some (.bool (!a)):=rfl
@[simp] theorem PV {a:Int} :Nl P .neg (.int kd a)=some (.int kd (kd.wrap (0-a))):=rfl
def at_ (l:List UInt8) (i:Int):UInt8:=l.getD i.toNat 0
theorem Ac (hu:P.underlying t=some .string) {i:Int} (h0:0<=i) (h1:i<x.length):D6 P t (str x) (.int kd i)=some (.int .u8 (at_ x i).toNat):=by
 have hlt:i.toNat<x.length:=by omega
 have e:(⟨x.toArray⟩:ByteArray)[i.toNat]?=some (at_ x i):=by
  unfold at_
  have:(⟨x.toArray⟩:ByteArray)[i.toNat]?=x[i.toNat]?:=by
   rw [getElem?_def,getElem?_def];simp only [cN];rfl
  rw [this,List.getD_eq_getElem?_getD,List.getElem?_eq_getElem hlt];rfl
 have hp:aU P (Instr.index t (str x) (.int kd i))=some (.int .u8 (at_ x i).toNat):=by
  simp only [Instr.index,str,asIntOf,b_,cf,Option.bind_some,fj,hu];rw [if_pos h0,e];rfl
 show aO P _=_;unfold aO;rw [hp];rfl
theorem kA (hu:P.underlying t=some .string):aI P .len [t] [str x] H=some (.int .i64 x.length,H):=by
 simp only [aI,str,hu,cN]
theorem bf {e:TypeId} (hu:P.underlying t=some (.slice e)) {ad:Option Addr} {n c:Nat} :aI P .len [t] [.slice ad n c] H=some (.int .i64 n,H):=by
 simp only [aI,hu]
end
abbrev ptr (l off:Nat):Value:=.pointer (some ⟨l,off,none⟩)
abbrev sl (l n c:Nat):Value:=.slice (some ⟨l,0,none⟩) n c
section
variable {P:Program} {E:Ext} {fn:Func} {k:List Item} {fr:Fr} {H H':LH} {Q:Value×LH->Prop} {all:Array Oper} {os:List Oper} {d:Nat} {op:Op} {T:Callee} {b c:LB} {l m:Nat}
@[simp] theorem LK {args:List Value} {t:Nat} :enter args t=args.getD t undef:=rfl
@[simp] theorem ak:(H.new b).get H.n=some b:=by simp [LH.new]
theorem Nz:(H.new b).get l=if l=H.n then some b else H.get l:=rfl
@[simp] theorem aa (h:l≠H.n):(H.new b).get l=H.get l:=by simp [LH.new,h]
@[simp] theorem aw:(H.set l b).get l=some b:=by simp [LH.set]
@[simp] theorem ah (h:m≠l):(H.set l b).get m=H.get m:=by simp [LH.set,h]
@[simp] theorem NA:(H.kill l).get l=none:=by simp [LH.kill]
@[simp] theorem ck (h:m≠l):(H.kill l).get m=H.get m:=by simp [LH.kill,h]
@[simp] theorem aL:(H.new b).n=H.n+1:=by simp only [LH.new]
@[simp] theorem cG:(H.set l b).n=H.n:=by simp only [LH.set]
@[simp] theorem QU:(H.kill l).n=H.n:=by simp only [LH.kill]
@[simp] theorem NB:H.ro.n=H.n:=by simp only [LH.ro]
@[simp] theorem NC:(H.new b).base=H.base:=by simp only [LH.new]
@[simp] theorem ND:(H.set l b).base=H.base:=by simp only [LH.set]
@[simp] theorem LL:(H.kill l).base=H.base:=by simp only [LH.kill]
@[simp] theorem PW:H.ro.base=H.base:=by simp only [LH.ro]
@[simp] theorem QV:(H.new b).ng=H.ng:=by simp only [LH.new]
@[simp] theorem QW:(H.set l b).ng=H.ng:=by simp only [LH.set]
@[simp] theorem PX:(H.kill l).ng=H.ng:=by simp only [LH.kill]
@[simp] theorem RH:H.ro.ng=H.ng:=by simp only [LH.ro]
@[simp] theorem uf:H.ro.get l=(H.get l).map fun b=> { b with rw:=false } :=by simp only [LH.ro]
@[simp] theorem set_set:(H.set l b).set l c=H.set l c:=by
 unfold LH.set;simp only [LH.mk.injEq,true_and,and_true];funext k;split<;>simp_all
@[simp] theorem vD:(H.new b).set H.n c=H.new c:=by
 unfold LH.new LH.set;simp only [LH.mk.injEq,true_and,and_true];funext k;split<;>simp_all
@[simp] theorem PY:H.le H:=le_refl
theorem LH.le.trans {A B C:LH} (h:A.le B) (g:B.le C):A.le C:=⟨Nat.le_trans h.1 g.1,fun l hl=>(g.2 l (Nat.lt_of_lt_of_le hl h.1)).trans (h.2 l hl)⟩
theorem LH.le.new (h:H.le H'):H.le (H'.new b):=⟨Nat.le_succ_of_le h.1,fun l hl=>by
 have:=h.1;rw [aa (by omega)];exact h.2 l hl⟩
theorem LH.le.set (h:H.le H') (hl:H.n<=l):H.le (H'.set l b):=⟨h.1,fun k hk=>by rw [ah (by omega)];exact h.2 k hk⟩
theorem LH.le.kill (h:H.le H') (hl:H.n<=l):H.le (H'.kill l):=⟨h.1,fun k hk=>by rw [ck (by omega)];exact h.2 k hk⟩
def aq (P:Program) (s:TypeId) (f:Nat):Option (Nat×Nat×Bool):=
 match P.underlying s with
 |some (.struct fs)=>match fs[f]? with
  |some fd=>match sz P fd.type,aF P fd.type with
   |some n,some g=>some (fd.offset,n,g)
   |_,_=>none
  |none=>none
 |_=>none
def pR (i:Option (Nat×Nat×Bool)) (x:Value) (H:LH):Option (Value×LH):=
 match i,x with
 |some (o,n,_),.pointer (some ⟨l,off,none⟩)=>if n=0 then none else some (ptr l (off+o),H)
 |_,_=>none
theorem mO {s:TypeId} {x:Operand} {f:Nat} {i:Nat×Nat×Bool} (h:aq P s f=some i):aM P T (.fieldAddr s x f) fr H=pR (some i) (ev fr x) H:=by
 unfold aq at h;show(match ev fr x,P.underlying s with|.pointer (some ⟨l,off,none⟩),some (.struct fs)=>_|_,_=>none)=_;split at h
 ·rename_i fs hu;split at h
  ·rename_i fd hf;split at h
   ·rename_i n g hs ha;injection h with h;subst h;rw [hu];unfold pR;split
    ·rename_i e1 e2;injection e2 with e2;injection e2 with e2;subst e2;simp only [hf,hs,e1]
    ·rename_i h1;split
     ·rename_i e1 e2;exact absurd rfl (h1 _ _ _ e2)
     ·rfl
   ·cases h
  ·cases h
 ·cases h
attribute [simp] mO
@[simp] theorem Ji {o n off:Nat} {g:Bool} (h:n≠0):pR (some (o,n,g)) (ptr l off) H=some (ptr l (off+o),H):=by simp [pR,h]
def xn (a:Option Bool) (s:Option Nat) (cs:List Value) (off:Nat):Option Value:=
 match a,s with
 |some true,some s=>if off+s<=cs.length then some (.agg ((cs.drop off).take s).toArray)else none
 |some false,_=>cs[off]?
 |_,_=>none
def gI (P:Program) (t:TypeId) (x:Value) (H:LH):Option Value:=match x with
 |.pointer (some ⟨l,off,none⟩)=>match H.get l with
  |some b=>xn (aF P t) (sz P t) b.cells off
  |none=>none
 |_=>none
theorem sa {t:TypeId} {off:Nat} :fA P t l off H=gI P t (ptr l off) H:=by
 cases h:H.get l with
 |none=>simp only [fA,gI,h]
 |some b=>
  simp only [fA,gI,h,xn];cases aF P t with
  |none=>rfl
  |some g=>cases g<;>cases sz P t<;>simp [fR]
@[simp ↓] theorem LM {t:TypeId} {x:Operand} :aM P T (.load t x) fr H=bI (gI P t (ev fr x) H) H:=by
 show(match ev fr x with|.pointer (some ⟨l,off,none⟩)=>(fA P t l off H).map fun v=>(v,H)|_=>none)=_;split
 ·rename_i e;rw [e,sa];rfl
 ·rename_i h;unfold gI;split
  ·rename_i e;exact absurd e (h _ _)
  ·rfl
theorem fk {t:TypeId} {off:Nat} (h:H.get l=some b):gI P t (ptr l off) H=xn (aF P t) (sz P t) b.cells off:=by simp [gI,h]
attribute [simp] fk
@[simp] theorem hZ {s:Option Nat} {cs:List Value} {off:Nat} :xn (some false) s cs off=cs[off]?:=rfl
@[simp] theorem sc {s:Nat} {cs:List Value} {off:Nat} (h:off+s<=cs.length):xn (some true) (some s) cs off=some (.agg ((cs.drop off).take s).toArray):=by simp [xn,h]
def lst (P:Program) (t:TypeId) (x v:Value) (H:LH):Option (Value×LH):=match x with
 |.pointer (some ⟨l,off,none⟩)=>(fS P t l off v H).map fun H'=>(undef,H')
 |_=>none
@[simp ↓] theorem Jj {t:TypeId} {x y:Operand} :aM P T (.store t x y) fr H=lst P t (ev fr x) (ev fr y) H:=rfl
theorem de {v:Value} (h:aC v=true):v.cells=#[v]:=by cases v<;>first|rfl|(simp [aC]at h)
theorem sd {t:TypeId} {off:Nat} {v:Value} (h:H.get l=some b) (hrw:b.rw=true) (hs:sz P t=some 1) (hv:aC v=true) (ho:off<b.cells.length):
  lst P t (ptr l off) v H=some (undef,H.set l ⟨b.cells.set off v,b.elem,true⟩):=by
 have e1:aW b.cells off [v]=b.cells.set off v:=by
  unfold aW;rw [List.set_eq_take_append_cons_drop,if_pos ho];simp
 simp only [lst,fS,h,hs,de hv];simp [hv,e1,hrw];omega
attribute [simp] sd
theorem Ec {t:TypeId} {off n:Nat} {vs:List Value} (h:H.get l=some b) (hrw:b.rw=true) (hs:sz P t=some n) (hn:vs.length=n) (hv:vs.all aC=true) (ho:off+n<=b.cells.length):
  lst P t (ptr l off) (.agg ⟨vs⟩) H=some (undef,H.set l ⟨aW b.cells off vs,b.elem,true⟩):=by
 subst hn;have hv': ∀x∈vs,aC x=true:=by simpa using hv
 simp only [lst,fS,h,hs,Value.cells];simp [ho,hrw];exact hv'
attribute [simp] Ec
@[simp] theorem NF {kd:IntKind} {n:Int} :aC (.int kd n)=true:=by simp only [aC]
@[simp] theorem LN {x:Bool} :aC (.bool x)=true:=by simp only [aC,str]
@[simp] theorem NG {x:List UInt8} :aC (str x)=true:=by simp only [aC,str]
@[simp] theorem NH {x:Option Addr} :aC (.pointer x)=true:=by simp only [aC,str]
@[simp] theorem Jk {x:Option Addr} {n c:Nat} :aC (.slice x n c)=true:=by simp only [aC,str]
@[simp] theorem LO {f:Fn} {x y:Array Value} :aC (.func f x y)=true:=by simp only [aC,str]
def se (P:Program) (E:Ext) (fn:Func) (x:Option (Value×LH)) (all:Array Oper) (os:List Oper) (k:List Item) (fr:Fr) (Q:Value×LH->Prop):Prop:=
 match x with
 |some (_,H)=>dN P E fn all os k fr H Q
 |none=>False
@[congr] theorem G7 {x y:Option (Value×LH)} (h:x=y):se P E fn x all os k fr Q=se P E fn y all os k fr Q:=by rw [h]
@[simp] theorem Jl {v:Value} :se P E fn (some (v,H)) all os k fr Q↔dN P E fn all os k fr H Q:=Iff.rfl
@[simp] theorem Jm:se P E fn none all os k fr Q↔False:=Iff.rfl
@[simp ↓] theorem G8 {ty:TypeId} {pos:String} {after:Array Edge} :dN P E fn all (⟨none,op,ty,pos,after,none⟩::os) k fr H Q↔se P E fn (ba P (LC P E) op fr H) all os k fr Q:=by
 rw [tU];rfl
def nU (P:Program) (rs:List ResultVar) (fr:Fr) (H:LH):Option Value:=
 match rs.mapM (dB P fr H)with
 |some [v]=>some v
 |some vs=>some (.tuple vs.toArray)
 |none=>none
@[simp] theorem G9:aX P fn fr H=nU P fn.results.toList fr H:=rfl
def cW (P:Program) (r:ResultVar) (fr:Fr) (H:LH):Option Value:=match r with
 |.tmp t=>some (fr t)
 |.cell a t=>gI P t (fr a) H
theorem gi {x:ResultVar} :dB P fr H x=cW P x fr H:=by
 cases x with
 |tmp t=>rfl
 |cell a t=>
  simp only [dB,cW];split
  ·rename_i e;rw [e,sa]
  ·rename_i h;unfold gI;split
   ·rename_i e;exact absurd e (h _ _)
   ·rfl
@[simp] theorem LP {t:Tmp} :cW P (.tmp t) fr H=some (fr t):=rfl
@[simp] theorem Jo {a:Tmp} {t:TypeId} :cW P (.cell a t) fr H=gI P t (fr a) H:=rfl
@[simp] theorem NI:nU P [] fr H=some (.tuple #[]):=rfl
@[simp] theorem NJ {x:ResultVar} :nU P [x] fr H=cW P x fr H:=by
 simp only [nU,List.mapM_cons,List.mapM_nil,gi];cases cW P x fr H<;>rfl
@[simp] theorem NK {x y:ResultVar} :nU P [x,y] fr H=(cW P x fr H).bind fun a=>(cW P y fr H).bind fun b=>some (.tuple #[a,b]):=by
 simp only [nU,List.mapM_cons,List.mapM_nil,gi];cases cW P x fr H<;>cases cW P y fr H<;>rfl
@[simp] theorem Jp {x y z:ResultVar} :nU P [x,y,z] fr H=(cW P x fr H).bind fun a=>(cW P y fr H).bind fun b=>(cW P z fr H).bind fun c=>some (.tuple #[a,b,c]):=by
 simp only [nU,List.mapM_cons,List.mapM_nil,gi];cases cW P x fr H<;>cases cW P y fr H<;>cases cW P z fr H<;>rfl
@[simp] theorem LQ {x y z u:ResultVar} :nU P [x,y,z,u] fr H=(cW P x fr H).bind fun a=>(cW P y fr H).bind fun b=>(cW P z fr H).bind fun c=>(cW P u fr H).bind fun d=>some (.tuple #[a,b,c,d]):=by
 simp only [nU,List.mapM_cons,List.mapM_nil,gi];cases cW P x fr H<;>cases cW P y fr H<;>cases cW P z fr H<;>cases cW P u fr H<;>rfl
def Ad (s:Option Nat) (e:TypeId) (v:Value) (H:LH):Option (Value×LH):=if bO v&&s==some v.cells.size then some (ptr H.n 0,H.new ⟨v.cells.toList,e,true⟩)else none
@[simp ↓] theorem NL {e:TypeId} {x:Operand} :aM P T (.box e x) fr H=Ad (sz P e) e (ev fr x) H:=rfl
@[simp] theorem NM {e:TypeId} {n:Nat} {vs:List Value} (h:vs.length=n):Ad (some n) e (.agg ⟨vs⟩) H=some (ptr H.n 0,H.new ⟨vs,e,true⟩):=by simp [Ad,bO,Value.cells,h]
@[simp] theorem LR {e:TypeId} {v:Value} (h:aC v=true):Ad (some 1) e v H=some (ptr H.n 0,H.new ⟨[v],e,true⟩):=by
 have:bO v=true:=by cases v<;>first|rfl|(simp [aC]at h)
 simp [Ad,this,de h]
def mP (s:Option Nat) (z:Option Value) (e:TypeId) (H:LH):Option (Value×LH):=match z with
 |some z=>if ao z&&s==some z.cells.size then some (ptr H.n 0,H.new ⟨z.cells.toList,e,true⟩)else none
 |none=>none
@[simp ↓] theorem Jq {e:TypeId} :aM P T (.alloc e) fr H=mP (sz P e) (zr P e) e H:=rfl
@[simp] theorem Jr {e:TypeId} {n:Nat} {vs:List Value} (h:vs.length=n) (hf:vs.all aA=true):mP (some n) (some (.agg ⟨vs⟩)) e H=some (ptr H.n 0,H.new ⟨vs,e,true⟩):=by
 have:ao (.agg ⟨vs⟩)=true:=hf;simp [mP,this,Value.cells,h]
@[simp] theorem G_ {e:TypeId} {v:Value} (h:aC v=true) (hf:ao v=true):mP (some 1) (some v) e H=some (ptr H.n 0,H.new ⟨[v],e,true⟩):=by simp [mP,hf,de h]
@[simp] theorem QX:Value.string ⟨#[]⟩=str []:=rfl
@[simp ↓] theorem C' {x:Operand} {ad:Addr} (h:ev fr x=.pointer (some ad)):aM P T (.nilCheck x) fr H=some (.pointer (some ad),H):=by
 show(match ev fr x with|.pointer (some a)=>_|.func (.func g) f c=>_|_=>none)=_;rw [h]
def sub (x:List UInt8) (i j:Int):List UInt8:=(x.take j.toNat).drop i.toNat
end
section
variable {P:Program} {E:Ext} {fn:Func} {k:List Item} {fr:Fr} {H H':LH} {Q:Value×LH->Prop} {all:Array Oper} {os:List Oper} {d:Nat} {op:Op} {T:Callee} {b c:LB} {l m:Nat} {t e:TypeId} {kd kd':IntKind} {x y:List UInt8} {i j:Int}
attribute [simp] Ac kA bf
def LU (fr:Fr) (o:Option Operand):Option Value:=o.map (ev fr)
@[simp ↓] theorem NN:LU fr none=none:=rfl
@[simp ↓] theorem NO {x:Operand} :LU fr (some x)=some (ev fr x):=rfl
def yC (d:Nat):Option Value->Option Nat
 |none=>some d
 |some (.int _ i)=>if 0<=i then some i.toNat else none
 |_=>none
theorem xo {d:Nat} {o:Option Operand} :cD fr d o=yC d (LU fr o):=by
 cases o with
 |none=>rfl
 |some x=>simp only [cD,LU,Option.map_some];cases ev fr x<;>rfl
def dG (P:Program) (t:TypeId) (x:Value) (lo hi:Option Value):Option Value:=
 match P.underlying t,x with
 |some .string,.string s=>
  match yC 0 lo,yC s.size hi with
  |some a,some b=>if a<=b/\b<=s.size then some (.string (s.extract a b))else none
  |_,_=>none
 |some (.slice e),.slice a n c=>
  match yC 0 lo,yC n hi,sz P e with
  |some i,some j,some s=>if i<=j/\j<=n then
    match a with
    |some ⟨l,o,none⟩=>some (.slice (some ⟨l,o+i*s,none⟩) (j-i) (c-i))
    |none=>some (.slice none 0 0)
    |_=>none
   else none
  |_,_,_=>none
 |_,_=>none
@[simp ↓] theorem Jt {x:Operand} {lo hi:Option Operand} :aM P T (.slice t x lo hi none) fr H=bI (dG P t (ev fr x) (LU fr lo) (LU fr hi)) H:=by
 show(ka P t (ev fr x) fr lo hi).map _=_;unfold ka dG bI;simp only [xo];rfl
theorem Ed {a b:Nat} :(⟨x.toArray⟩:ByteArray).extract a b=⟨((x.take b).drop a).toArray⟩:=by
 apply ByteArray.ext;rw [ByteArray.data_extract,List.drop_take];simp
theorem gj {u:Option TypeDesc} (hu:P.underlying t=some .string) {a b:Option Value} {p q:Nat} (ha:yC 0 a=some p) (hb:yC x.length b=some q) (h:p<=q/\q<=x.length):dG P t (str x) a b=some (str ((x.take q).drop p)):=by
 unfold dG str;simp only [hu,ha,cN,hb,if_pos h,Ed]
theorem fl {d:Nat} (h:0<=i):yC d (some (.int kd i))=some i.toNat:=by simp only [yC,if_pos h]
@[simp] theorem Ee (hu:P.underlying t=some .string):dG P t (str x) none none=some (str x):=by
 rw [gj (u:=none) hu rfl rfl ⟨Nat.zero_le _,Nat.le_refl _⟩];simp
@[simp] theorem Ef (hu:P.underlying t=some .string) (h0:0<=j) (h1:j<=x.length):dG P t (str x) none (some (.int kd j))=some (str (x.take j.toNat)):=by
 rw [gj (u:=none) hu rfl (fl h0) ⟨Nat.zero_le _,by omega⟩];simp
@[simp] theorem Eg (hu:P.underlying t=some .string) (h0:0<=i) (h1:i<=x.length):dG P t (str x) (some (.int kd i)) none=some (str (x.drop i.toNat)):=by
 rw [gj (u:=none) hu (fl h0) rfl ⟨by omega,Nat.le_refl _⟩];simp
@[simp] theorem Eh (hu:P.underlying t=some .string) (h0:0<=i) (h1:i<=j) (h2:j<=x.length):dG P t (str x) (some (.int kd i)) (some (.int kd' j))=some (str (sub x i j)):=
 gj (u:=none) hu (fl h0) (fl (by omega)) ⟨by omega,by omega⟩
theorem gl {s o n c:Nat} (hu:P.underlying t=some (.slice e)) (hs:sz P e=some s) {a b:Option Value} {p q:Nat} (ha:yC 0 a=some p) (hb:yC n b=some q) (h:p<=q/\q<=n):dG P t (.slice (some ⟨l,o,none⟩) n c) a b=some (.slice (some ⟨l,o+p*s,none⟩) (q-p) (c-p)):=by
 unfold dG;simp only [hu,ha,hs,hb,if_pos h]
@[simp] theorem Ei {s o n c:Nat} (hu:P.underlying t=some (.slice e)) (hs:sz P e=some s):dG P t (.slice (some ⟨l,o,none⟩) n c) none none=some (.slice (some ⟨l,o,none⟩) n c):=by
 rw [gl hu hs rfl rfl ⟨Nat.zero_le _,Nat.le_refl _⟩];simp
@[simp] theorem pS {s o n c:Nat} (hu:P.underlying t=some (.slice e)) (hs:sz P e=some s) (h0:0<=j) (h1:j<=n):dG P t (.slice (some ⟨l,o,none⟩) n c) none (some (.int kd j))=some (.slice (some ⟨l,o,none⟩) j.toNat c):=by
 rw [gl hu hs rfl (fl h0) ⟨Nat.zero_le _,by omega⟩];simp
@[simp] theorem Ej {s o n c:Nat} (hu:P.underlying t=some (.slice e)) (hs:sz P e=some s) (h0:0<=i) (h1:i<=n):dG P t (.slice (some ⟨l,o,none⟩) n c) (some (.int kd i)) none=some (.slice (some ⟨l,o+i.toNat*s,none⟩) (n-i.toNat) (c-i.toNat)):=by
 rw [gl hu hs (fl h0) rfl ⟨by omega,Nat.le_refl _⟩]
@[simp] theorem Ek {s o n c:Nat} (hu:P.underlying t=some (.slice e)) (hs:sz P e=some s) (h0:0<=i) (h1:i<=j) (h2:j<=n):dG P t (.slice (some ⟨l,o,none⟩) n c) (some (.int kd i)) (some (.int kd' j))=some (.slice (some ⟨l,o+i.toNat*s,none⟩) (j.toNat-i.toNat) (c-i.toNat)):=
 gl hu hs (fl h0) (fl (by omega)) ⟨by omega,by omega⟩
@[simp] theorem LV {s:Nat} (hu:P.underlying t=some (.slice e)) (hs:sz P e=some s):dG P t (.slice none 0 0) none none=some (.slice none 0 0):=by
 unfold dG;simp [hu,yC,hs]
def iu (P:Program) (t:TypeId) (x i:Value) (H:LH):Option (Value×LH):=match x,i,P.underlying t with
 |.slice (some ⟨l,off,none⟩) n _,.int _ k,some (.slice e)=>match sz P e with
  |some s=>if 0<=k/\k<n then some (.pointer (some ⟨l,off+k.toNat*s,none⟩),H)else none
  |none=>none
 |_,_,_=>none
@[simp ↓] theorem Ae {x i:Operand} :aM P T (.indexAddr t x i) fr H=iu P t (ev fr x) (ev fr i) H:=rfl
@[simp] theorem sh {s off n c:Nat} (hu:P.underlying t=some (.slice e)) (hs:sz P e=some s) (h0:0<=i) (h1:i<n):iu P t (.slice (some ⟨l,off,none⟩) n c) (.int kd i) H=some (ptr l (off+i.toNat*s),H):=by
 simp only [iu,hu,hs,if_pos (And.intro h0 h1)]
def gJ (P:Program) (t:TypeId) (y:Value) (H:LH):Option (Nat×List Value):=
 match P.underlying t with
 |some (.slice e)=>match ax P e with
  |some s=>qU s y H
  |none=>none
 |_=>none
@[simp] theorem kB {s:Nat} (hu:P.underlying t=some (.slice e)) (hs:ax P e=some s):gJ P t (.slice none 0 0) H=some (0,[]):=by
 simp only [gJ,hu,hs,qU]
@[simp] theorem kC {s o n c:Nat} (hu:P.underlying t=some (.slice e)) (hs:ax P e=some s) (hb:H.get l=some b) (hle:o+n*s<=b.cells.length):gJ P t (.slice (some ⟨l,o,none⟩) n c) H=some (n,(b.cells.drop o).take (n*s)):=by
 simp only [gJ,hu,hs,qU,hb,fR,if_pos hle,Option.map_some]
def eJ (P:Program) (t:TypeId) (x:Value) (src:Option (Nat×List Value)) (H:LH):Option (Value×LH):=
 match P.underlying t,src with
 |some (.slice e),some (m,new)=>
  match ax P e with
  |some s=>
    if new.all aC then
     match x with
     |.slice none 0 0=>if m=0 then some (x,H)else if m<=aH then some (.slice (some ⟨H.n,0,none⟩) m m,H.new ⟨new,e,true⟩)else none
     |.slice (some ⟨l,o,none⟩) n c=>
      match H.get l with
      |some b=>
       if b.rw=true/\b.elem=e/\o=0/\b.cells.length=c*s/\n<=c then
        if m=0 then some (x,H)
        else if n+m<=c then some (.slice (some ⟨l,0,none⟩) (n+m) c,H.set l { b with cells:=aW b.cells (n*s) new })
        else if n=c/\n+m<=aH then some (.slice (some ⟨H.n,0,none⟩) (n+m) (n+m),(H.kill l).new ⟨b.cells++new,e,true⟩)
        else none
       else nX P e s l o n c b m new H
      |none=>none
     |_=>none
    else none
  |none=>none
 |_,_=>none
theorem ug {x y:Value} :eG P t t x y H=eJ P t x (gJ P t y H) H:=by
 unfold eG eJ gJ;cases P.underlying t with
 |none=>rfl
 |some u=>
  cases u<;>try rfl
  rename_i e;dsimp only;cases hz:ax P e with
  |none=>rfl
  |some s=>
   dsimp only;rw [if_pos rfl];cases qU s y H with
   |none=>rfl
   |some q=>
    obtain⟨m,new⟩:=q;simp only [hz];rfl
@[simp] theorem yD {x y:Value} :aI P .append [t,t] [x,y] H=eJ P t x (gJ P t y H) H:=by
 rw [<-ug];simp only [aI]
theorem kD {u:TypeId} {x:Value} {z:List UInt8} (hne:t≠u) (ht:P.underlying t=some (.slice e)) (hu:P.underlying u=some .string) (hs:ax P e=some 1) (hz:zr P e=some (.int .u8 0)) (hb:Il P e=some 1):
  aI P .append [t,u] [x,str z] H=eJ P t x (some (z.length,z.map fun b=>Value.int .u8 b.toNat)) H:=by
 have e1:qV P u e 1 (str z)=some (z.length,z.map fun b=>Value.int .u8 b.toNat):=by
  unfold qV str;simp only [hu,hz,hb,and_self,if_true];rw [cN];rfl
 show eG P t u x (str z) H=_;unfold eG eJ;simp only [ht,hs,if_neg hne,e1];rfl
variable {new:List Value} {s n cp:Nat}
@[simp] theorem si (hu:P.underlying t=some (.slice e)) (hs:ax P e=some s) (hc:new.all aC=true) (hm:m≠0) (hM:m<=aH):eJ P t (.slice none 0 0) (some (m,new)) H=some (sl H.n m m,H.new ⟨new,e,true⟩):=by
 simp only [eJ,hu,hs,hc,hm,hM,if_true,if_false]
@[simp] theorem oD (hu:P.underlying t=some (.slice e)) (hs:ax P e=some s):eJ P t (.slice none 0 0) (some (0,[])) H=some (.slice none 0 0,H):=by
 simp [eJ,hu,hs]
theorem oE (hu:P.underlying t=some (.slice e)) (hs:ax P e=some s) (hc:new.all aC=true) (hm:m≠0) (hM:n+m<=aH) (hb:H.get l=some b) (hrw:b.rw=true) (he:b.elem=e) (hl:b.cells.length=n*s):eJ P t (sl l n n) (some (m,new)) H=some (sl H.n (n+m) (n+m),(H.kill l).new ⟨b.cells++new,e,true⟩):=by
 have h1: ¬n+m<=n:=by omega
 simp only [eJ,hu,hs,hc,hb,if_true];rw [if_pos ⟨hrw,he,trivial,hl,Nat.le_refl _⟩,if_neg hm,if_neg h1,if_pos ⟨trivial,hM⟩]
theorem vE (hu:P.underlying t=some (.slice e)) (hs:ax P e=some s) (hc:new.all aC=true) (hm:m≠0) (hb:H.get l=some b) (hrw:b.rw=true) (he:b.elem=e) (hl:b.cells.length=cp*s) (hn:n+m<=cp):eJ P t (sl l n cp) (some (m,new)) H=some (sl l (n+m) cp,H.set l { b with cells:=aW b.cells (n*s) new }):=by
 simp only [eJ,hu,hs,hc,hb,if_true];rw [if_pos ⟨hrw,he,trivial,hl,by omega⟩,if_neg hm,if_pos hn]
def cR:List (Nat×Value)->Nat->Bool
 | [],_=>true
 |(i,v)::ps,k=>i==k&&aC v&&cR ps (k+1)
@[simp] theorem Ju {k:Nat} :cR [] k=true:=rfl
@[simp] theorem G' {k i:Nat} {v:Value} {ps:List (Nat×Value)} :cR ((i,v)::ps) k=(i==k&&aC v&&cR ps (k+1)):=rfl
theorem mQ {pl:Nat->Option (Nat×Nat)} : ∀(ps:List (Nat×Value)) (pre post:List Value),(∀j,j<pre.length+ps.length->pl j=some (j,1))->cR ps pre.length=true->post.length=ps.length->Instr.fill pl (pre++post).toArray ps=some (pre++ps.map Prod.snd).toArray
 | [],pre,post,_,_,h=>by
  have:post= []:=List.length_eq_zero_iff.1 h;subst this;simp [Instr.fill]
 |(i,v)::ps,pre,post,hp,hd,h=>by
  cases post with
  |nil=>simp at h
  |cons z post=>
  simp only [cR,Bool.and_eq_true,beq_iff_eq]at hd;obtain⟨⟨rfl,hv⟩,hd⟩:=hd;have e1:=de hv;unfold Instr.fill;rw [hp _ (by simp)];simp only [e1];rw [if_neg (by simp)]
  have e2:((#[v]:Array Value).zipIdx.foldl (fun cs (c,j)=>cs.setIfInBounds (pre.length+j) c) (pre++z::post).toArray)=((pre++ [v])++post).toArray:=by
   simp
  rw [e2,mQ ps (pre++ [v]) post (fun j hj=>hp j (by simp at hj⊢;omega)) (by simpa using hd) (by simpa using h)];simp
theorem la: ∀(ps:List (Nat×Value)) (k:Nat),cR ps k=true->(ps.all fun p=>bO p.2)=true
 | [],_,_=>rfl
 |(i,v)::ps,k,h=>by
  simp only [cR,Bool.and_eq_true,beq_iff_eq]at h;have:bO v=true:=by cases v<;>first|rfl|(have:=h.1.2;simp [aC]at this)
  simp only [List.all_cons,this,la ps _ h.2,Bool.and_self]
@[simp ↓] theorem yE {ps:List (Nat×Operand)} :aM P T (.buildSlice t n ⟨ps⟩) fr H=aG P t n (ps.map fun p=>(p.1,ev fr p.2)) H:=rfl
theorem fK {z:Value} {ps:List (Nat×Value)} (hu:P.underlying t=some (.slice e)) (hs:sz P e=some 1) (hz:zr P e=some z) (hf:ao z=true) (hz1:aC z=true) (hn:n=ps.length) (hle:n<=65536) (hd:cR ps 0=true):aG P t n ps H=some (sl H.n n n,H.new ⟨ps.map Prod.snd,e,true⟩):=by
 subst hn;have hk: ∀p∈ps,bO p.2=true:=by simpa using la ps 0 hd
 unfold aG;simp only [hu,hs,hz]
 rw [if_pos (by
  simp only [Bool.and_eq_true,decide_eq_true_eq,beq_iff_eq,List.all_eq_true];exact⟨⟨⟨⟨hf,by omega⟩,by omega⟩,by rw [de hz1];rfl⟩,hk⟩)]
 have e0:((Array.range (ps.length*1)).map fun j=>z.cells[j%z.cells.size]!)=(([]:List Value)++List.replicate ps.length z).toArray:=by
  rw [de hz1];apply Array.ext
  ·simp
  ·intro i h1 h2;simp [Nat.mod_one]
 rw [e0,mQ ps [] (List.replicate ps.length z) (fun j _=>by simp) hd (by simp)];simp
attribute [simp] fK
@[simp] theorem NP {a c:TypeId} {k1 k2:IntKind} {n:Int} (h1:P.underlying a=some (.int k1)) (h2:P.underlying c=some (.int k2)):cg P a c (.int k1 n) H=some (.int k2 (k2.wrap n)):=by
 have e:aU P (convert a c (.int k1 n))=some (.int k2 (k2.wrap n)):=by
  simp only [convert,b_,fj,h1,h2,Option.bind_some];rfl
 unfold cg;simp only [rZ,if_true,aO,e]
def vF:List Value->Option (List UInt8)
 | []=>some []
 |v::l=>(fc v).bind fun b=>(vF l).map (b:: ·)
theorem Ag: ∀l:List Value,l.mapM fc=vF l
 | []=>rfl
 |v::l=>by
  rw [List.mapM_cons,Ag l,vF];cases fc v<;>cases vF l<;>rfl
def bv (x:UInt8):Value:=.int .u8 x.toNat
@[simp] theorem Ah {x:UInt8} :fc (.int .u8 x.toNat)=some x:=by simp [fc]
@[simp] theorem PZ:vF []=some []:=rfl
@[simp] theorem NQ {v:Value} {l:List Value} :vF (v::l)=(fc v).bind fun b=>(vF l).map (b:: ·):=rfl
@[simp] theorem pT: ∀l:List UInt8,vF (l.map bv)=some l
 | []=>rfl
 |a::l=>by simp only [List.map_cons,vF,bv,Ah,Option.bind_some,pT l,Option.map_some]
theorem sj {a c e:TypeId} {o n cp:Nat} {z:List UInt8} (h1:P.underlying a=some (.slice e)) (h2:P.underlying c=some .string) (h3:P.underlying e=some (.int .u8)) (hb:H.get l=some b) (hle:o+n<=b.cells.length) (hz:vF ((b.cells.drop o).take n)=some z):cg P a c (.slice (some ⟨l,o,none⟩) n cp) H=some (str z):=by
 have e1:ao (.slice (some ⟨l,o,none⟩) n cp)=false:=by simp [ao,az,aA]
 unfold cg kT;simp only [e1,h1,h2,h3,hb,fR,if_pos hle,Ag,hz,Option.map_some];rfl
def Jv (P:Program) (t:TypeId):Option (List (Nat×Nat)):=match P.underlying t with
 |some (.struct fs)=>fs.toList.mapM (fun f=>(P.info? f.type).map fun i=>(f.offset,i.size))
 |_=>none
def bd (P:Program) (t:TypeId):Bool:=(Jv P t).isSome
def bG (P:Program) (t:TypeId) (cs:List Value) (ps:List (Nat×Value)):Option (List Value):=match Jv P t with
 |some pl=>(Instr.fill (pl.toArray[·]?) cs.toArray ps).map Array.toList
 |none=>none
theorem mR {α β:Type} {f:α->Option β} : ∀ {l:List α} {r:List β},l.mapM f=some r-> ∀(i:Nat) x,l[i]?=some x->r[i]?=f x
 | [],r,h,i,x,hx=>by simp at hx
 |a::l,r,h,i,x,hx=>by
  simp only [List.mapM_cons,Option.bind_eq_bind,Option.pure_def]at h;cases ha:f a with
  |none=>simp [ha]at h
  |some y=>
   simp only [ha,Option.bind_some]at h;cases hl:l.mapM f with
   |none=>simp [hl]at h
   |some ys=>
    simp only [hl,Option.bind_some,Option.some.injEq]at h;subst h;cases i with
    |zero=>simp at hx;subst hx;simp [ha]
    |succ i=>simpa using mR hl i x (by simpa using hx)
theorem Em {pl:List (Nat×Nat)} (hp:Jv P t=some pl) {i o n:Nat} {g:Bool} (hf:aq P t i=some (o,n,g)):pl[i]?=some (o,n):=by
 unfold aq at hf;unfold Jv at hp;split at hf
 ·rename_i fs hu;rw [hu]at hp;split at hf
  ·rename_i fd hfd;split at hf
   ·rename_i n' g' hs ha;simp only [Option.some.injEq,Prod.mk.injEq]at hf;obtain⟨rfl,rfl,rfl⟩:=hf;rw [mR hp i fd (by simpa using hfd)];unfold sz at hs;cases hi:P.info? fd.type with
    |none=>simp [hi]at hs
    |some it=>simp [hi]at hs;simp [hs]
   ·cases hf
  ·cases hf
 ·cases hf
@[simp] theorem oF {cs:List Value} (h:bd P t=true):bG P t cs []=some cs:=by
 unfold bd at h;unfold bG;cases hp:Jv P t with
 |none=>simp [hp]at h
 |some pl=>rfl
theorem ld: ∀(vs:List Value) (pre cs:List Value) (off:Nat),off+pre.length+vs.length<=cs.length->(vs.toArray.zipIdx pre.length).foldl (fun cs (c,j)=>cs.setIfInBounds (off+j) c) cs.toArray=(aW cs (off+pre.length) vs).toArray
 | [],pre,cs,off,h=>by
  rw [show(([]:List Value).toArray.zipIdx pre.length)=#[] from by apply Array.ext<;>simp];simp [aW]
 |v::vs,pre,cs,off,h=>by
  have hh:off+pre.length<cs.length:=by simp at h;omega
  have ih:=ld vs (pre++ [v]) (cs.set (off+pre.length) v) off (by simp at h⊢;omega);have e:(v::vs).toArray.zipIdx pre.length=((v,pre.length)::(vs.zipIdx (pre.length+1))).toArray:=by simp
  rw [e];have e2:(vs.toArray.zipIdx (pre++ [v]).length)=(vs.zipIdx (pre.length+1)).toArray:=by simp
  rw [e2]at ih;simp only [List.foldl_toArray',List.size_toArray,List.foldl_cons,List.setIfInBounds_toArray]at ih⊢;rw [ih];congr 1;unfold aW;simp only [List.length_append,List.length_cons,List.length_nil,Nat.zero_add,<-Nat.add_assoc];rw [List.take_set,List.drop_set,if_pos (by omega)]
  have e3:(cs.take (off+pre.length+1)).set (off+pre.length) v=cs.take (off+pre.length)++ [v]:=by
   rw [List.take_succ_eq_append_getElem hh,List.set_append,if_neg (by simp;omega)];simp [Nat.min_eq_left (Nat.le_of_lt hh)]
  rw [e3];simp [Nat.add_assoc,Nat.add_comm,Nat.add_left_comm]
theorem mS {cs:List Value} {i o n:Nat} {g:Bool} {v:Value} {ps:List (Nat×Value)} (hf:aq P t i=some (o,n,g)) (hn:v.cells.toList.length=n) (ho:o+n<=cs.length):bG P t cs ((i,v)::ps)=bG P t (aW cs o v.cells.toList) ps:=by
 unfold bG;cases hp:Jv P t with
 |none=>rfl
 |some pl=>
  have h1:pl.toArray[i]?=some (o,n):=by simpa using Em hp hf
  simp only [Instr.fill,h1];rw [if_neg (by simp at hn⊢;omega)];have:=ld v.cells.toList [] cs o (by simp at hn⊢;omega);simp only [List.length_nil,Nat.add_zero,Array.toArray_toList]at this;rw [this]
@[simp] theorem aB {cs:List Value} {i o n:Nat} {g:Bool} {v:Value} {ps:List (Nat×Value)} (hf:aq P t i=some (o,n,g)) (hn:n=1) (hv:aC v=true) (ho:o<cs.length):bG P t cs ((i,v)::ps)=bG P t (cs.set o v) ps:=by
 subst hn;rw [mS hf (by rw [de hv];rfl) (by omega)];congr 1;rw [de hv];unfold aW;rw [List.set_eq_take_append_cons_drop,if_pos ho];simp
@[simp] theorem h_ {cs vs:List Value} {i o n:Nat} {g:Bool} {ps:List (Nat×Value)} (hf:aq P t i=some (o,n,g)) (hn:vs.length=n) (ho:o+n<=cs.length):bG P t cs ((i,.agg ⟨vs⟩)::ps)=bG P t (aW cs o vs) ps:=
 mS hf hn ho
def LW (P:Program) (t:TypeId) (z:Option Value) (ps:List (Nat×Value)):Option Value:=
 match z with
 |some z=>if ps.all (fun p=>bO p.2)&&ao z then(bG P t z.cells.toList ps).map fun cs=>.agg ⟨cs⟩else none
 |none=>none
theorem xp {ps:List (Nat×Value)} :l9 P t ps=LW P t (zr P t) ps:=by
 unfold l9 LW zr bG Jv;cases hi:P.info? t with
 |none=>simp
 |some it=>
  simp only [Option.bind_some];have hz:it.zero=none\/ ∃z,it.zero=some z:=by cases it.zero<;>simp
  rcases hz with hz|⟨z,hz⟩
  ·simp [hz]
  ·simp only [hz,Option.any_some];split
   ·cases hu:P.underlying t with
    |none=>rfl
    |some u=>
     cases u<;>try rfl
     rename_i fs;simp only [Program.built,hi,hu,hz];cases fs.toList.mapM (fun f=>(P.info? f.type).map fun i=>(f.offset,i.size))with
     |none=>rfl
     |some pl=>
      simp only [Array.toArray_toList];cases Instr.fill (pl.toArray[·]?) z.cells ps with
      |none=>rfl
      |some cs=>rfl
   ·rfl
@[simp ↓] theorem Jw {ps:List (Nat×Operand)} :aM P T (.build t ⟨ps⟩) fr H=bI (LW P t (zr P t) (ps.map fun p=>(p.1,ev fr p.2))) H:=by
 rw [<-xp];rfl
def gK:List (Nat×Value)->Bool
 | []=>true
 |(_,v)::ps=>bO v&&gK ps
@[simp] theorem Jy:gK []=true:=rfl
@[simp] theorem He {i:Nat} {v:Value} {ps:List (Nat×Value)} :gK ((i,v)::ps)=(bO v&&gK ps):=rfl
theorem nV {v:Value} (h:aC v=true):bO v=true:=by cases v<;>first|rfl|(simp [aC]at h)
attribute [simp] nV
@[simp] theorem LY {a:Array Value} :bO (.agg a)=true:=rfl
theorem oG: ∀(ps:List (Nat×Value)),ps.all (fun p=>bO p.2)=gK ps
 | []=>rfl
 |(i,v)::ps=>by simp only [List.all_cons,gK,oG ps]
theorem vG {z:List Value} {ps:List (Nat×Value)} (hk:gK ps=true) (hz:z.all aA=true):LW P t (some (.agg ⟨z⟩)) ps=(bG P t z ps).map fun cs=>.agg ⟨cs⟩:=by
 have:ao (.agg ⟨z⟩)=true:=hz;simp only [LW,oG,hk,this,Bool.and_self,if_true,Value.cells]
attribute [simp] vG
def xq (i:Option (Nat×Nat×Bool)) (x:Value):Option Value:=match i,x with
 |some (o,n,true),.agg cs=>some (.agg (cs.extract o (o+n)))
 |some (o,_,false),.agg cs=>cs[o]?
 |_,_=>none
theorem uh {x:Operand} {f:Nat} {i:Nat×Nat×Bool} (h:aq P t f=some i):aM P T (.field t x f) fr H=bI (xq (some i) (ev fr x)) H:=by
 unfold aq at h;show(match P.underlying t,ev fr x with|some (.struct fs),.agg cs=>_|_,_=>none)=_;split at h
 ·rename_i fs hu;split at h
  ·rename_i fd hf;split at h
   ·rename_i n g hs ha;injection h with h;subst h;rw [hu];unfold xq;cases ev fr x<;>cases g<;>simp only [hf,hs,ha,bI,Option.map_some,Option.map_none]
   ·cases h
  ·cases h
 ·cases h
attribute [simp] uh
@[simp] theorem LZ {o n:Nat} {cs:List Value} :xq (some (o,n,false)) (.agg ⟨cs⟩)=cs[o]?:=by simp [xq]
@[simp] theorem NR {o n:Nat} {cs:List Value} :xq (some (o,n,true)) (.agg ⟨cs⟩)=some (.agg ⟨(cs.drop o).take n⟩):=by simp [xq]
@[simp] theorem P0 {a:Option Addr} (hu:P.underlying t=some (.pointer e)):bL P .eql t (.pointer a) (.pointer none)=some (.bool a.isNone):=by
 cases a<;>simp [bL,hu]
@[simp] theorem P1 {a:Option Addr} (hu:P.underlying t=some (.pointer e)):bL P .neq t (.pointer a) (.pointer none)=some (.bool (!a.isNone)):=by
 cases a<;>simp [bL,hu]
@[simp] theorem P2 {a:Option Addr} {n c:Nat} (hu:P.underlying t=some (.slice e)):bL P .eql t (.slice a n c) (.slice none 0 0)=some (.bool a.isNone):=by
 cases a<;>simp [bL,hu]
@[simp] theorem P3 {a:Option Addr} {n c:Nat} (hu:P.underlying t=some (.slice e)):bL P .neq t (.slice a n c) (.slice none 0 0)=some (.bool (!a.isNone)):=by
 cases a<;>simp [bL,hu]
@[simp] theorem En {ts:List TypeId} {k k':IntKind} {a b:Int} :aI P .max ts [.int k a,.int k' b] H=some (.int k (if a<b then b else a),H):=rfl
@[simp] theorem Eo {ts:List TypeId} {k k':IntKind} {a b:Int} :aI P .min ts [.int k a,.int k' b] H=some (.int k (if b<a then b else a),H):=rfl
theorem kE {v:Value} (h:H.get l=some b) (hl:l<H.n):trunc H (v,H.set l c)=(v,H.set l c):=by
 unfold trunc;split
 ·rename_i hc;have:=hc.2.2 l hl;simp only [aw,h,Option.some.injEq]at this
  have e:H.set l c=H:=by
   cases H with
   |mk n g ho w0 ng=>
    simp only [LH.set,LH.mk.injEq,true_and,and_true];funext k;split
    ·rename_i e;subst e;rw [this];exact h.symm
    ·rfl
  rw [e]
 ·rfl
theorem cm (v:Value) (H H':LH):trunc H (v,H')=(v,H')\/trunc H (v,H')=(v,H)/\ao v=true/\H.le H':=by
 unfold trunc;split
 ·exact .inr ⟨rfl,by assumption⟩
 ·exact .inl rfl
end
abbrev PQ:=Res->LH->Option Code->Prop
def PR (P:Program) (E:PEnv) (Y:Option YC) (rd:Nat) (fn:Func) (k:List Item) (fr:Fr) (H:LH) (p:Option Code) (Q:PQ):Prop:= ∃r H' p',R P E (.run Y rd fn k fr H p r H' p')/\Q r H' p'
def PO (P:Program) (E:PEnv) (Y:Option YC) (rd:Nat) (fn:Func) (all:Array Oper) (os:List Oper) (k:List Item) (fr:Fr) (H:LH) (p:Option Code) (Q:PQ):Prop:= ∃r H' p',R P E (.ops Y rd fn all os k fr H p r H' p')/\Q r H' p'
def jA (P:Program) (E:PEnv) (Y:Option YC) (rd:Nat) (fn:Func) (x:Option (Value×LH)) (d:Nat) (all:Array Oper) (os:List Oper) (k:List Item) (fr:Fr) (p:Option Code) (Q:PQ):Prop:=
 match x with
 |some (v,H)=>d<fn.ntmps/\PO P E Y rd fn all os k (upd fr d v) H p Q
 |none=>False
def kF (P:Program) (E:PEnv) (Y:Option YC) (rd:Nat) (fn:Func) (x:Option (Value×LH)) (all:Array Oper) (os:List Oper) (k:List Item) (fr:Fr) (p:Option Code) (Q:PQ):Prop:=
 match x with
 |some (_,H)=>PO P E Y rd fn all os k fr H p Q
 |none=>False
def iz (P:Program) (E:PEnv) (Y:Option YC) (rd:Nat) (fn:Func) (all:Array Oper) (os:List Oper) (k:List Item) (fr:Fr) (H:LH) (p:Option Code) (Q:PQ):Prop:=PO P E Y rd fn all os k fr H p Q
def sn (x:Option Value) (H:LH) (p:Option Code) (Q:PQ):Prop:=match x with|some v=>Q (.ret v) H p|none=>False
def jB (P:Program) (E:PEnv) (Y:Option YC) (rd:Nat) (fn:Func) (c:Value) (x y:Code) (k:List Item) (fr:Fr) (H:LH) (p:Option Code) (Q:PQ):Prop:=
 match c with
 |.bool t=>if t=true then PR P E Y rd fn (.code x::k) fr H p Q else PR P E Y rd fn (.code y::k) fr H p Q
 |_=>False
def fm:Builtin->Bool
 |.clear=>true
 |_=>false
def bw (E:PEnv) (fr:Fr) (op:Op):Bool:=match op with
 |.call c=>match c.callee with
  |.builtin b=>fm b
  |.value x=>match ev fr x with
   |.func (.func g) _ _=>E.ps g
   |.func (.yield _) _ _=>true
   |_=>false
  |_=>false
 |.makeFunc _ first _=>first.size !=0
 |_=>false
def PG (P:Program) (E:PEnv) (Y:Option YC) (rd:Nat) (fn:Func) (g:Option Bool) (op:Op) (d:Nat) (all:Array Oper) (o:Oper) (os:List Oper) (k:List Item) (fr:Fr) (H:LH) (p:Option Code) (Q:PQ):Prop:=
 match g with
 |some true=>eU (bw E fr op) (iz P E Y rd fn all (o::os) k fr H p Q) (jA P E Y rd fn (ba P (LC P E.E) op fr H) d all os k fr p Q)
 |some false=>d<fn.ntmps/\PO P E Y rd fn all os k (upd fr d undef) H p Q
 |none=>False
section
variable {P:Program} {E:PEnv} {Y:Option YC} {rd:Nat} {fn:Func} {k:List Item} {fr:Fr} {H H' H0:LH} {p:Option Code} {Q:PQ} {all:Array Oper} {os:List Oper} {d:Nat} {op:Op} {ty:TypeId} {pos:String} {after:Array Edge} {v:Value}
theorem pU:PR P E Y rd fn (.code .skip::k) fr H p Q↔PR P E Y rd fn k fr H p Q:=⟨fun⟨r,H',p',h,q⟩=>by cases h;exact⟨_,_,_,‹_›,q⟩,fun⟨r,H',p',h,q⟩=>⟨_,_,_,.skip h,q⟩⟩
theorem mT {l:Nat} :PR P E Y rd fn (.code (.label l)::k) fr H p Q↔PR P E Y rd fn k fr H p Q:=⟨fun⟨r,H',p',h,q⟩=>by cases h;exact⟨_,_,_,‹_›,q⟩,fun⟨r,H',p',h,q⟩=>⟨_,_,_,.label h,q⟩⟩
theorem ui {l:Nat} :PR P E Y rd fn (.inBlock l::k) fr H p Q↔PR P E Y rd fn k fr H p Q:=⟨fun⟨r,H',p',h,q⟩=>by cases h;exact⟨_,_,_,‹_›,q⟩,fun⟨r,H',p',h,q⟩=>⟨_,_,_,.inBlock h,q⟩⟩
theorem uj {c:Code} :PR P E Y rd fn (.inScope c::k) fr H p Q↔PR P E Y rd fn k fr H p Q:=⟨fun⟨r,H',p',h,q⟩=>by cases h;exact⟨_,_,_,‹_›,q⟩,fun⟨r,H',p',h,q⟩=>⟨_,_,_,.inScope h,q⟩⟩
theorem pV {a b:Code} :PR P E Y rd fn (.code (.seq a b)::k) fr H p Q↔PR P E Y rd fn (.code a::.code b::k) fr H p Q:=⟨fun⟨r,H',p',h,q⟩=>by cases h;exact⟨_,_,_,‹_›,q⟩,fun⟨r,H',p',h,q⟩=>⟨_,_,_,.seq h,q⟩⟩
theorem Ai {id:Nat} {c:Code} :PR P E Y rd fn (.code (.block id c)::k) fr H p Q↔PR P E Y rd fn (.code c::.inBlock id::k) fr H p Q:=⟨fun⟨r,H',p',h,q⟩=>by cases h;exact⟨_,_,_,‹_›,q⟩,fun⟨r,H',p',h,q⟩=>⟨_,_,_,.block h,q⟩⟩
theorem Aj {c:Code} :PR P E Y rd fn (.code (.scope c)::k) fr H p Q↔PR P E Y rd fn (.code c::.inScope c::k) fr H p Q:=⟨fun⟨r,H',p',h,q⟩=>by cases h;exact⟨_,_,_,‹_›,q⟩,fun⟨r,H',p',h,q⟩=>⟨_,_,_,.scope h,q⟩⟩
theorem Ep {c:Code} :PR P E Y rd fn (.code (.loop c)::k) fr H p Q↔PR P E Y rd fn (.inLoop c::k) fr H p Q:=⟨fun⟨r,H',p',h,q⟩=>by cases h;exact⟨_,_,_,.inLoop ‹_›,q⟩,fun⟨r,H',p',h,q⟩=>by cases h;exact⟨_,_,_,.loop ‹_›,q⟩⟩
theorem xr {c:Code} :PR P E Y rd fn (.inLoop c::k) fr H p Q↔PR P E Y rd fn (.code c::.inLoop c::k) fr H p Q:=⟨fun⟨r,H',p',h,q⟩=>by cases h;exact⟨_,_,_,‹_›,q⟩,fun⟨r,H',p',h,q⟩=>⟨_,_,_,.inLoop h,q⟩⟩
def oH (P:Program) (E:PEnv) (Y:Option YC) (rd:Nat) (fn:Func) (id:Nat) (x:Option (List Item)) (fr:Fr) (H:LH) (p:Option Code) (Q:PQ):Prop:=
 match x with
 |some k=>PR P E Y rd fn k fr H p Q
 |none=>Y=none/\rd=2/\p=none/\Q (.jump (some (.exit id))) H none
@[congr] theorem Hf {id:Nat} {x y:Option (List Item)} (h:x=y):oH P E Y rd fn id x fr H p Q=oH P E Y rd fn id y fr H p Q:=by rw [h]
@[simp] theorem Jz {id:Nat} :oH P E Y rd fn id (some k) fr H p Q↔PR P E Y rd fn k fr H p Q:=Iff.rfl
@[simp] theorem JA {id:Nat} :oH P E none 2 fn id none fr H none Q↔Q (.jump (some (.exit id))) H none:=by simp [oH]
theorem Er {id:Nat} :PR P E Y rd fn (.code (.exit id)::k) fr H p Q↔oH P E Y rd fn id (exitTo id k) fr H p Q:=by
 constructor
 ·rintro⟨r,H',p',h,q⟩;cases h with
  |exit1 hx=>rw [hx];exact⟨rfl,rfl,rfl,q⟩
  |exit hx h=>rw [hx];exact⟨_,_,_,h,q⟩
 ·intro h;cases hx:exitTo id k with
  |none=>rw [hx]at h;obtain⟨rfl,rfl,rfl,q⟩:=h;exact⟨_,_,_,.exit1 hx,q⟩
  |some k'=>rw [hx]at h;obtain⟨r,H',p',h,q⟩:=h;exact⟨_,_,_,.exit hx h,q⟩
def vH (P:Program) (E:PEnv) (Y:Option YC) (rd:Nat) (fn:Func) (x:Option (List Item)) (fr:Fr) (H:LH) (p:Option Code) (Q:PQ):Prop:=
 match x with
 |some k=>PR P E Y rd fn k fr H p Q
 |none=>False
@[congr] theorem Hg {x y:Option (List Item)} (h:x=y):vH P E Y rd fn x fr H p Q=vH P E Y rd fn y fr H p Q:=by rw [h]
@[simp] theorem mU:vH P E Y rd fn (some k) fr H p Q↔PR P E Y rd fn k fr H p Q:=Iff.rfl
theorem dY {id:Nat} :PR P E Y rd fn (.code (.goto id)::k) fr H p Q↔vH P E Y rd fn (gotoIn id k) fr H p Q:=by
 constructor
 ·rintro⟨r,H',p',h,q⟩;cases h with
  |goto hx h=>rw [hx];exact⟨_,_,_,h,q⟩
 ·intro h;cases hx:gotoIn id k with
  |none=>rw [hx]at h;exact h.elim
  |some k'=>rw [hx]at h;obtain⟨r,H',p',h,q⟩:=h;exact⟨_,_,_,.goto hx h,q⟩
theorem JB:PR P E Y 0 fn [] fr H p Q↔sn (aX P fn fr H) H p Q:=by
 constructor
 ·rintro⟨r,H',p',h,q⟩;cases h with
  |nil0 hx=>rw [hx];exact q
 ·intro h;cases hx:aX P fn fr H with
  |none=>rw [hx]at h;exact h.elim
  |some v=>rw [hx]at h;exact⟨_,_,_,.nil0 hx,h⟩
theorem JC:PR P E Y 0 fn (.code .ret::k) fr H p Q↔sn (aX P fn fr H) H p Q:=by
 constructor
 ·rintro⟨r,H',p',h,q⟩;cases h with
  |ret0 hx=>rw [hx];exact q
 ·intro h;cases hx:aX P fn fr H with
  |none=>rw [hx]at h;exact h.elim
  |some v=>rw [hx]at h;exact⟨_,_,_,.ret0 hx,h⟩
theorem Es:PR P E none 2 fn [] fr H none Q↔Q (.jump none) H none:=⟨fun⟨r,H',p',h,q⟩=>by cases h;exact q,fun h=>⟨_,_,_,.nil1,h⟩⟩
theorem Et:PR P E none 2 fn (.code .ret::k) fr H none Q↔Q (.jump (some .ret)) H none:=⟨fun⟨r,H',p',h,q⟩=>by cases h;exact q,fun h=>⟨_,_,_,.ret1,h⟩⟩
theorem Eu {c:Operand} {x y:Code} :PR P E Y rd fn (.code (.cond c x y)::k) fr H p Q↔jB P E Y rd fn (ev fr c) x y k fr H p Q:=by
 constructor
 ·rintro⟨r,H',p',h,q⟩;cases h with
  |@cond _ _ _ _ _ _ _ _ _ _ _ _ _ t hc h=>
   rw [hc];unfold jB;cases t with
   |true=>simp only [if_true];exact⟨_,_,_,h,q⟩
   |false=>simp only [Bool.false_eq_true,if_false];exact⟨_,_,_,h,q⟩
 ·intro h;unfold jB at h;split at h
  ·rename_i t hc;cases t with
   |true=>simp only [if_true]at h;obtain⟨r,H',p',h,q⟩:=h;exact⟨_,_,_,.cond hc h,q⟩
   |false=>simp only [Bool.false_eq_true,if_false]at h;obtain⟨r,H',p',h,q⟩:=h;exact⟨_,_,_,.cond hc h,q⟩
  ·exact h.elim
theorem xt {id:Nat} {l:List Oper} :PR P E Y rd fn (.code (.region id ⟨l⟩ false)::k) fr H p Q↔PO P E Y rd fn ⟨l⟩ l k fr H p Q:=⟨fun⟨r,H',p',h,q⟩=>by cases h;exact⟨_,_,_,‹_›,q⟩,fun⟨r,H',p',h,q⟩=>⟨_,_,_,.region h,q⟩⟩
theorem JD:PO P E Y rd fn all [] k fr H p Q↔PR P E Y rd fn k fr H p Q:=⟨fun⟨r,H',p',h,q⟩=>by cases h;exact⟨_,_,_,‹_›,q⟩,fun⟨r,H',p',h,q⟩=>⟨_,_,_,.onil h,q⟩⟩
theorem Ev (h:bw E fr op=false):Iv E fr op=false:=by
 unfold bw at h;unfold Iv;split
 ·rename_i c;simp only at h⊢;split
  ·rename_i x hx;rw [hx]at h;simp only at h⊢;split
   ·rename_i g _ _ hg;rw [hg]at h;exact h
   ·rfl
  ·rfl
 ·rfl
theorem mV {o:Oper} (hh:bw E fr o.op=false) (hw:aQ all fr o=some true):PO P E Y rd fn all (o::os) k fr H p Q↔ ∃v H1 fr1,fD P (LC P E.E) o fr H=some (v,H1)/\bb fn.ntmps fr o.dst v=some fr1/\PO P E Y rd fn all os k fr1 H1 p Q:=by
 constructor
 ·rintro⟨r,H',p',h,q⟩;cases h with
  |oskip h1 _ _=>rw [hw]at h1;cases h1
  |oplain _ _ h1 h2 h3=>exact⟨_,_,_,h1,h2,_,_,_,h3,q⟩
  |omkf _ h1 h2 _ _=>rw [h1]at hh;simp [bw,h2]at hh
  |oclear _ h1 _ _ _=>rw [h1]at hh;simp [bw,fm]at hh
  |ocall _ h1 h2 h3 _ _ _=>rw [h1]at hh;simp [bw,h2,h3]at hh
  |ocallp _ h1 h2 h3 _=>rw [h1]at hh;simp [bw,h2,h3]at hh
  |oyield _ h1 h2 _ _ _ _ _=>rw [h1]at hh;simp [bw,h2,tok]at hh
 ·rintro⟨v,H1,fr1,h1,h2,r,H',p',h3,q⟩;exact⟨_,_,_,.oplain hw (Ev hh) h1 h2 h3,q⟩
theorem Ew:PO P E Y rd fn all (⟨some d,op,ty,pos,after,none⟩::os) k fr H p Q↔eU (bw E fr op) (iz P E Y rd fn all (⟨some d,op,ty,pos,after,none⟩::os) k fr H p Q) (jA P E Y rd fn (ba P (LC P E.E) op fr H) d all os k fr p Q):=by
 cases hh:bw E fr op with
 |true=>exact Iff.rfl
 |false=>
  rw [mV hh rfl];unfold eU jA;simp only [gf,bb];cases ba P (LC P E.E) op fr H with
  |none=>simp
  |some x=>
   obtain⟨u,H1⟩:=x;by_cases hd:d<fn.ntmps
   ·simp [hd];exact⟨fun⟨_,_,⟨e1,e2⟩,h⟩=>by subst e1 e2;exact h,fun h=>⟨_,_,⟨rfl,rfl⟩,h⟩⟩
   ·simp [hd]
theorem Ak:PO P E Y rd fn all (⟨none,op,ty,pos,after,none⟩::os) k fr H p Q↔eU (bw E fr op) (iz P E Y rd fn all (⟨none,op,ty,pos,after,none⟩::os) k fr H p Q) (kF P E Y rd fn (ba P (LC P E.E) op fr H) all os k fr p Q):=by
 cases hh:bw E fr op with
 |true=>exact Iff.rfl
 |false=>
  rw [mV hh rfl];unfold eU kF;simp only [gf,bb];cases ba P (LC P E.E) op fr H with
  |none=>simp
  |some x=>
   obtain⟨u,H1⟩:=x;simp;exact⟨fun⟨_,_,⟨e1,e2⟩,h⟩=>by subst e1 e2;exact h,fun h=>⟨_,_,⟨rfl,rfl⟩,h⟩⟩
theorem Al {j:Nat} {want:Bool} :PO P E Y rd fn all (⟨some d,op,ty,pos,after,some (j,want)⟩::os) k fr H p Q↔PG P E Y rd fn (bP all fr j want) op d all ⟨some d,op,ty,pos,after,some (j,want)⟩ os k fr H p Q:=by
 unfold PG;cases hg:bP all fr j want with
 |none=>
  simp only [iff_false];rintro⟨r,H',p',h,q⟩;have hw:aQ all fr ⟨some d,op,ty,pos,after,some (j,want)⟩=none:=by rw [cB];exact hg
  cases h with
  |oskip h1 _ _=>rw [hw]at h1;cases h1
  |oplain h1 _ _ _ _=>rw [hw]at h1;cases h1
  |omkf h1 _ _ _ _=>rw [hw]at h1;cases h1
  |oclear h1 _ _ _ _=>rw [hw]at h1;cases h1
  |ocall h1 _ _ _ _ _ _=>rw [hw]at h1;cases h1
  |ocallp h1 _ _ _ _=>rw [hw]at h1;cases h1
  |oyield h1 _ _ _ _ _ _ _=>rw [hw]at h1;cases h1
 |some b=>
  have hw:aQ all fr ⟨some d,op,ty,pos,after,some (j,want)⟩=some b:=by rw [cB];exact hg
  cases b with
  |true=>
   cases hh:bw E fr op with
   |true=>exact Iff.rfl
   |false=>
    rw [mV hh hw];unfold eU jA;simp only [gf,bb];cases ba P (LC P E.E) op fr H with
    |none=>simp
    |some x=>
     obtain⟨u,H1⟩:=x;by_cases hd:d<fn.ntmps
     ·simp [hd];exact⟨fun⟨_,_,⟨e1,e2⟩,h⟩=>by subst e1 e2;exact h,fun h=>⟨_,_,⟨rfl,rfl⟩,h⟩⟩
     ·simp [hd]
  |false=>
   simp only;constructor
   ·rintro⟨r,H',p',h,q⟩;cases h with
    |oskip h1 h2 h3=>
     simp only [bb]at h2;split at h2
     ·rename_i hd;injection h2 with h2;subst h2;exact⟨hd,_,_,_,h3,q⟩
     ·cases h2
    |oplain h1 _ _ _ _=>rw [hw]at h1;cases h1
    |omkf h1 _ _ _ _=>rw [hw]at h1;cases h1
    |oclear h1 _ _ _ _=>rw [hw]at h1;cases h1
    |ocall h1 _ _ _ _ _ _=>rw [hw]at h1;cases h1
    |ocallp h1 _ _ _ _=>rw [hw]at h1;cases h1
    |oyield h1 _ _ _ _ _ _ _=>rw [hw]at h1;cases h1
   ·rintro⟨hd,r,H',p',h,q⟩;exact⟨_,_,_,.oskip hw (by simp only [bb];rw [if_pos hd]) h,q⟩
attribute [simp ↓] pU mT pV Ai ui uj Aj xt Er dY Eu JD Ew Ak Al
attribute [simp] JB JC Es Et
@[congr] theorem Hh {x y:Option (Value×LH)} (h:x=y):jA P E Y rd fn x d all os k fr p Q=jA P E Y rd fn y d all os k fr p Q:=by rw [h]
@[congr] theorem Ex {x y:Option (Value×LH)} (h:x=y):kF P E Y rd fn x all os k fr p Q=kF P E Y rd fn y all os k fr p Q:=by rw [h]
@[congr] theorem Hi {c c':Value} {x y:Code} (h:c=c'):jB P E Y rd fn c x y k fr H p Q=jB P E Y rd fn c' x y k fr H p Q:=by rw [h]
@[congr] theorem JE {x y:Option Value} (h:x=y):sn x H p Q=sn y H p Q:=by rw [h]
@[congr] theorem NS {x y:Option Bool} {o:Oper} (h:x=y):PG P E Y rd fn x op d all o os k fr H p Q=PG P E Y rd fn y op d all o os k fr H p Q:=by rw [h]
@[congr] theorem Hj:iz P E Y rd fn all os k fr H p Q=iz P E Y rd fn all os k fr H p Q:=rfl
@[simp] theorem JF:jA P E Y rd fn (some (v,H)) d all os k fr p Q↔d<fn.ntmps/\PO P E Y rd fn all os k (upd fr d v) H p Q:=Iff.rfl
@[simp] theorem JG:jA P E Y rd fn none d all os k fr p Q↔False:=Iff.rfl
@[simp] theorem Hk:kF P E Y rd fn (some (v,H)) all os k fr p Q↔PO P E Y rd fn all os k fr H p Q:=Iff.rfl
@[simp] theorem Hl:kF P E Y rd fn none all os k fr p Q↔False:=Iff.rfl
@[simp] theorem JH {x y:Code} :jB P E Y rd fn (.bool true) x y k fr H p Q↔PR P E Y rd fn (.code x::k) fr H p Q:=by simp [jB]
@[simp] theorem Hm {x y:Code} :jB P E Y rd fn (.bool false) x y k fr H p Q↔PR P E Y rd fn (.code y::k) fr H p Q:=by simp [jB]
@[simp] theorem L0:sn (some v) H p Q↔Q (.ret v) H p:=Iff.rfl
@[simp] theorem L1:sn none H p Q↔False:=Iff.rfl
@[simp] theorem P4 {o:Oper} :PG P E Y rd fn (some true) op d all o os k fr H p Q↔eU (bw E fr op) (iz P E Y rd fn all (o::os) k fr H p Q) (jA P E Y rd fn (ba P (LC P E.E) op fr H) d all os k fr p Q):=Iff.rfl
@[simp] theorem NT {o:Oper} :PG P E Y rd fn (some false) op d all o os k fr H p Q↔d<fn.ntmps/\PO P E Y rd fn all os k (upd fr d undef) H p Q:=Iff.rfl
@[simp ↓] theorem L2 {x:Operand} :bw E fr (.move x)=false:=rfl
@[simp ↓] theorem Hp {x:Operand} :bw E fr (.assign x)=false:=rfl
@[simp ↓] theorem L3 {c x y:Operand} :bw E fr (.pick c x y)=false:=rfl
@[simp ↓] theorem JI {t:TypeId} :bw E fr (.alloc t)=false:=rfl
@[simp ↓] theorem NU {t:TypeId} {x:Operand} :bw E fr (.box t x)=false:=rfl
@[simp ↓] theorem L4 {t:TypeId} {x:Operand} :bw E fr (.load t x)=false:=rfl
@[simp ↓] theorem JJ {t:TypeId} {x y:Operand} :bw E fr (.store t x y)=false:=rfl
@[simp ↓] theorem Da {x:Operand} :bw E fr (.nilCheck x)=false:=rfl
@[simp ↓] theorem Am {t:TypeId} {x:Operand} {f:Nat} :bw E fr (.fieldAddr t x f)=false:=rfl
@[simp ↓] theorem An {t:TypeId} {x i:Operand} :bw E fr (.indexAddr t x i)=false:=rfl
@[simp ↓] theorem JK {t:TypeId} {x:Operand} {lo hi mx:Option Operand} :bw E fr (.slice t x lo hi mx)=false:=rfl
@[simp ↓] theorem JL {t:TypeId} {x:Operand} {f:Nat} :bw E fr (.field t x f)=false:=rfl
@[simp ↓] theorem Ey {x:Operand} {f:Nat} :bw E fr (.extract x f)=false:=rfl
@[simp ↓] theorem JM {t:TypeId} {ps:Array (Nat×Operand)} :bw E fr (.build t ps)=false:=rfl
@[simp ↓] theorem yF {t:TypeId} {n:Nat} {ps:Array (Nat×Operand)} :bw E fr (.buildSlice t n ps)=false:=rfl
@[simp ↓] theorem Ao {t:TypeId} {x y:Operand} :bw E fr (.makeSlice t x y)=false:=rfl
@[simp ↓] theorem Ap {f:Fn} {c:Array Operand} :bw E fr (.makeFunc f #[] c)=false:=rfl
@[simp ↓] theorem Aq {f:Fn} {x:Operand} {l:List Operand} {c:Array Operand} :bw E fr (.makeFunc f ⟨x::l⟩ c)=true:=rfl
@[simp ↓] theorem NV {op:BinOp} {t yt:TypeId} {x y:Operand} :bw E fr (.binOp op t x y yt)=false:=rfl
@[simp ↓] theorem P5 {op:UnOp} {t:TypeId} {x:Operand} :bw E fr (.unOp op t x)=false:=rfl
@[simp ↓] theorem L5 {s t:TypeId} {x:Operand} :bw E fr (.convert s t x)=false:=rfl
@[simp ↓] theorem JN {t:TypeId} {x i:Operand} :bw E fr (.index t x i)=false:=rfl
@[simp ↓] theorem Ez {b:Builtin} {args:Array Operand} {ts:Array TypeId} :bw E fr (.call ⟨.builtin b,args,ts⟩)=fm b:=rfl
@[simp] theorem L6:fm .len=false:=rfl
@[simp] theorem EA:fm .append=false:=rfl
@[simp] theorem L7:fm .min=false:=rfl
@[simp] theorem L8:fm .max=false:=rfl
@[simp] theorem Hq:fm .clear=true:=rfl
def vI (E:PEnv) (v:Value):Bool:=match v with
 |.func (.func g) _ _=>E.ps g
 |.func (.yield _) _ _=>true
 |_=>false
@[simp ↓] theorem L9 {x:Operand} {args:Array Operand} {ts:Array TypeId} :bw E fr (.call ⟨.value x,args,ts⟩)=vI E (ev fr x):=rfl
@[simp] theorem JO {g:FuncId} {a b:Array Value} :vI E (.func (.func g) a b)=E.ps g:=rfl
@[simp] theorem L_ {l:Nat} :vI E (tok l)=true:=rfl
@[simp] theorem Hr {l:Nat} {a b:Array Value} :vI E (.func (.yield l) a b)=true:=rfl
theorem ai {o:Oper} {x:Operand} {args:Array Operand} {ts:Array TypeId} {g:FuncId} {first caps:Array Value} {H1:LH} (hw:aQ all fr o=some true) (hop:o.op=.call ⟨.value x,args,ts⟩) (hx:ev fr x=.func (.func g) first caps) (hps:E.ps g=true)
  (hc:R P E (.call g (first.toList++args.toList.map (ev fr)++caps.toList) H (.ret v) H1)) {fr1:Fr} (hput:bb fn.ntmps fr o.dst v=some fr1) (h:PO P E Y rd fn all os k fr1 H1 p Q):iz P E Y rd fn all (o::os) k fr H p Q:=by
 obtain⟨r,H',p',h,q⟩:=h;exact⟨_,_,_,.ocall hw hop hx hps hc hput h,q⟩
theorem au {o:Oper} {x:Operand} {args:Array Operand} {ts:Array TypeId} {g:FuncId} {first caps:Array Value} {H1:LH} (hw:aQ all fr o=some true) (hop:o.op=.call ⟨.value x,args,ts⟩) (hx:ev fr x=.func (.func g) first caps) (hps:E.ps g=true)
  (hc:R P E (.call g (first.toList++args.toList.map (ev fr)++caps.toList) H (.pan v) H1)) (h:Q (.pan v) H1 p):iz P E Y rd fn all (o::os) k fr H p Q:=
 ⟨_,_,_,.ocallp hw hop hx hps hc,h⟩
theorem sq {o:Oper} {g:FuncId} {first caps:Array Operand} (hw:aQ all fr o=some true) (hop:o.op=.makeFunc (.func g) first caps) (h0:first.size≠0) {fr1:Fr} (hput:bb fn.ntmps fr o.dst (.func (.func g) (first.map (ev fr)) (caps.map (ev fr)))=some fr1)
  (h:PO P E Y rd fn all os k fr1 H p Q):iz P E Y rd fn all (o::os) k fr H p Q:=by
 obtain⟨r,H',p',h,q⟩:=h;exact⟨_,_,_,.omkf hw hop h0 hput h,q⟩
theorem dT {yc:YC} {o:Oper} {x:Operand} {args:Array Operand} {ts:Array TypeId} {j:Option Code} {H1:LH} (hw:aQ all fr o=some true) (hop:o.op=.call ⟨.value x,args,ts⟩) (hx:ev fr x=tok yc.l) (hsz:args.size=yc.params.length) (hN: ∀d∈yc.params,d<yc.fn.ntmps)
  (hr:R P E (.run none 1 yc.fn [.code yc.assign,.beginRound,.code yc.body] (mH yc.fr (yc.params.zip (args.toList.map (ev fr)))) H none (.jump j) H1 none)) {fr1:Fr} (hput:bb fn.ntmps fr o.dst (.bool j.isNone)=some fr1)
  (h:PO P E (some yc) 0 fn all os k fr1 H1 j Q):iz P E (some yc) 0 fn all (o::os) k fr H none Q:=by
 obtain⟨r,H',p',h,q⟩:=h;exact⟨_,_,_,.oyield hw hop hx hsz hN hr hput h,q⟩
theorem kG {St:Type} (Rl:St->Fr->LH->Option Code->Prop) (μ:St->Nat) {x:Code} (st:St) (h:Rl st fr H p)
  (step: ∀st fr H p,Rl st fr H p->(∀st' fr' H' p',μ st'<μ st->Rl st' fr' H' p'->PR P E Y rd fn (.inLoop x::k) fr' H' p' Q)->PR P E Y rd fn (.code x::.inLoop x::k) fr H p Q):PR P E Y rd fn (.code (.loop x)::k) fr H p Q:=by
 have key: ∀m st fr H p,μ st<m->Rl st fr H p->PR P E Y rd fn (.inLoop x::k) fr H p Q:=by
  intro m;induction m with
  |zero=>intro st fr H p hm;omega
  |succ m ih=>
   intro st fr H p hm hR;exact xr.2 (step st fr H p hR (fun st' fr' H' p' hlt hR'=>ih st' fr' H' p' (by omega) hR'))
 exact Ep.2 (key (μ st+1) st fr H p (Nat.lt_succ_self _) h)
theorem fL {f:FuncId} {fn:Func} {c:Code} {args:List Value} (hf:P.funcs[f]?=some fn) (hb:fn.body=some c) (hN:args.length<=fn.ntmps) (hname:fn.name≠ "runtime.NumGoroutine") (hcd:aP E.pl fn.ntmps c=true) {Q:Res->LH->Prop}
  (h:PR P E none 0 fn [.code c] (enter args) H none (fun r H' p'=>p'=none/\Q r H')): ∃r H',R P E (.call f args H r H')/\Q r H':=by
 obtain⟨r,H',p',h1,rfl,h2⟩:=h;exact⟨r,H',.body ⟨hf,hb,hN,hname,hcd⟩ h1,h2⟩
theorem EB:PR P E Y 3 fn (.code .ret::k) fr H p Q↔sn (aX P fn fr H) H p Q:=by
 constructor
 ·rintro⟨r,H',p',h,q⟩;cases h with
  |ret3 h1=>rw [h1];exact q
 ·intro h;cases hx:aX P fn fr H with
  |none=>rw [hx]at h;exact h.elim
  |some v=>rw [hx]at h;exact⟨_,_,_,.ret3 hx,h⟩
theorem EC:PR P E Y 3 fn [] fr H p Q↔sn (aX P fn fr H) H p Q:=by
 constructor
 ·rintro⟨r,H',p',h,q⟩;cases h with
  |nil3 h1=>rw [h1];exact q
 ·intro h;cases hx:aX P fn fr H with
  |none=>rw [hx]at h;exact h.elim
  |some v=>rw [hx]at h;exact⟨_,_,_,.nil3 hx,h⟩
attribute [simp] EB EC
theorem eD {f:FuncId} {fn:Func} {c:Code} {args:List Value} (hf:P.funcs[f]?=some fn) (hb:fn.body=some c) (hN:args.length<=fn.ntmps) (hname:fn.name≠ "runtime.NumGoroutine") (hcd:aP E.pl fn.ntmps c=true) {Q:Res->LH->Prop}
  (h:PR P E none 3 fn [.code c] (enter args) H none (fun r H' p'=>p'=none/\Q r H')): ∃r H',R P E (.call f args H r H')/\Q r H':=by
 obtain⟨r,H',p',h1,rfl,h2⟩:=h;exact⟨r,H',.body3 ⟨hf,hb,hN,hname,hcd⟩ h1,h2⟩
theorem cH {f:FuncId} {fn:Func} {c:Code} {args:List Value} {r:Res} (hf:P.funcs[f]?=some fn) (hb:fn.body=some c) (hN:args.length<=fn.ntmps) (hname:fn.name≠ "runtime.NumGoroutine") (hcd:aP E.pl fn.ntmps c=true)
  (h:PR P E none 0 fn [.code c] (enter args) H none (fun r1 H1 p'=>p'=none/\r1=r/\H1=H')):R P E (.call f args H r H'):=by
 obtain⟨r,H',h1,rfl,rfl⟩:=fL hf hb hN hname hcd (Q:=fun r1 H1=>r1=r/\H1=H') h;exact h1
theorem bz {f:FuncId} {fn:Func} {c:Code} {args:List Value} {r:Res} (hf:P.funcs[f]?=some fn) (hb:fn.body=some c) (hN:args.length<=fn.ntmps) (hname:fn.name≠ "runtime.NumGoroutine") (hcd:aP E.pl fn.ntmps c=true) (hr:zt r=true)
  (h:PR P E none 0 fn [.code c] (enter args) H none (fun r1 H1 p'=>p'=none/\r1=r/\H.le H1)):R P E (.call f args H r H):=by
 obtain⟨r,H',h1,rfl,h2⟩:=fL hf hb hN hname hcd (Q:=fun r1 H1=>r1=r/\H.le H1) h;exact .trunc h1 hr h2
end
section
variable {P:Program} {E:Ext} {H H':LH} {ι:Ren} {w w':World} {v v':Value}
abbrev Spec:=List Value->LH->Option (Value×LH)
def cr (P:Program) (f:FuncId) (s:Spec):Prop:= ∀args H v H',s args H=some (v,H')->Gw P f args H v H'
def L' (n id k:Nat):Option (List (Nat×Nat)):=
 if n=12/\id=1/\k=10 then some [(4,2)]else
 if n=12/\id=1/\k=8 then some []else
 if n=74/\id=4/\k=22 then some [(0,16),(0,17),(0,18),(4,1),(4,3),(4,16),(4,17),(4,18),(10,1),(10,3),(10,5),(10,9),(10,16),(10,17),(10,18)]else
 if n=59/\id=14/\k=30 then some [(11,8),(11,10),(21,18),(21,20)]else
 if n=79/\id=8/\k=23 then some []else
 if n=79/\id=10/\k=17 then some []else
 if n=8/\id=1/\k=6 then some [(0,3),(0,4)]else
 if n=24/\id=4/\k=7 then some [(0,4)]else
 if n=10/\id=1/\k=6 then some [(0,4)]else
 if n=73/\id=3/\k=5 then some [(0,2)]else
 if n=143/\id=25/\k=6 then some []else
 if n=26/\id=2/\k=14 then some [(0,2),(5,2),(5,4),(6,2),(6,4)]else
 if n=55/\id=8/\k=14 then some [(0,2),(5,2),(8,2),(8,7)]else
 if n=32/\id=1/\k=9 then some [(2,1),(4,1),(4,3)]else
 if n=32/\id=2/\k=20 then some [(0,2),(4,2),(4,3),(5,2),(5,3),(12,10),(12,11)]else
 if n=44/\id=1/\k=9 then some [(1,7),(4,2),(4,7)]else
 if n=44/\id=5/\k=21 then some [(1,8),(1,15),(1,17),(10,8),(14,8)]else
 if n=18/\id=1/\k=12 then some [(8,6)]else
 if n=11 then(if id=1/\k=9 then some [(0,1)]else none)else
 if n=39/\id=1/\k=14 then some [(9,6),(9,7)]else
 if n=39/\id=2/\k=23 then some [(19,17)]else
 if n=15 then(if id=2/\k=6 then some [(2,4)]else if id=3/\k=10 then some [(7,8)]else none)else
 if n=22 then(if id=6/\k=4 then some [(1,2)]else none)else
 if n=26 then(if id=1/\k=9 then some [(2,1)]else none)else
 if n=27 then(if id=5/\k=16 then some []else none)else
 if n=28 then(if id=5/\k=10 then some [(5,3)]else if id=6/\k=8 then some []else none)else
 if n=29 then(if id=4/\k=10 then some [(0,2),(0,3),(0,7)]else none)else
 if n=32 then(if id=3/\k=16 then some []else if id=5/\k=12 then some []else none)else
 if n=34 then(if id=3/\k=16 then some []else none)else
 if n=35 then(if id=10/\k=4 then some [(0,1)]else none)else
 if n=36 then(if id=5/\k=17 then some [(11,6)]else none)else
 if n=38 then(if id=3/\k=24 then some []else none)else
 if n=39 then(if id=4/\k=16 then some [(3,9),(5,9),(5,11),(7,9),(7,11),(7,13)]else if id=6/\k=11 then some [(0,5)]else if id=7/\k=13 then some [(0,5),(0,9)]else none)else
 if n=41 then(if id=1/\k=15 then some [(1,6),(1,10),(1,11),(1,13),(3,6),(3,10),(3,11),(3,13),(5,10),(5,13)]else none)else
 if n=42 then(if id=5/\k=12 then some [(2,7)]else none)else
 if n=46 then(if id=5/\k=18 then some [(5,13)]else if id=8/\k=13 then some [(4,2),(4,7),(4,10),(6,2)]else none)else
 if n=49 then(if id=6/\k=18 then some []else none)else
 if n=52 then(if id=12/\k=9 then some []else none)else
 if n=53 then(if id=6/\k=18 then some []else none)else
 if n=55 then(if id=1/\k=9 then some [(2,1)]else if id=2/\k=10 then some [(0,2),(0,6),(0,7),(1,6),(1,7)]else none)else
 if n=56 then(if id=9/\k=13 then some [(5,0),(5,4)]else if id=10/\k=20 then some []else none)else
 if n=58 then(if id=7/\k=19 then some []else none)else
 if n=59 then(if id=5/\k=9 then some [(2,7),(6,7)]else none)else
 if n=60 then(if id=10/\k=12 then some [(5,7)]else if id=10/\k=20 then some []else none)else
 if n=62 then(if id=8/\k=14 then some []else if id=9/\k=12 then some []else none)else
 if n=63 then(if id=4/\k=21 then some [(4,12),(4,13),(6,12),(6,13),(6,17),(10,12)]else none)else
 if n=65 then(if id=10/\k=20 then some []else none)else
 if n=67 then(if id=8/\k=16 then some [(9,0),(9,4),(11,0),(11,4)]else if id=10/\k=20 then some []else if id=12/\k=8 then some [(3,0),(3,2)]else none)else
 if n=68 then(if id=6/\k=12 then some [(3,8),(3,9),(7,8),(7,9),(7,10)]else none)else
 if n=72 then(if id=9/\k=17 then some [(9,0),(9,4)]else if id=11/\k=17 then some [(0,4),(0,7),(0,12)]else none)else
 if n=76 then(if id=6/\k=24 then some []else none)else
 if n=77 then(if id=20/\k=10 then some []else none)else
 if n=79 then(if id=9/\k=12 then some [(5,3)]else none)else
 if n=80 then(if id=8/\k=13 then some [(3,5),(8,10)]else none)else
 if n=82 then(if id=6/\k=24 then some []else if id=9/\k=15 then some []else if id=21/\k=9 then some []else none)else
 if n=84 then(if id=1/\k=16 then some []else if id=8/\k=16 then some []else if id=9/\k=11 then some []else none)else
 if n=89 then(if id=9/\k=31 then some [(5,1),(10,1),(10,8),(10,17),(15,1),(15,8),(16,1),(16,8),(24,1),(24,8),(24,17),(24,19),(24,20)]else none)else
 if n=90 then(if id=1/\k=16 then some []else if id=8/\k=16 then some []else none)else
 if n=108 then(if id=15/\k=14 then some []else none)else
 if n=105 then(if id=8/\k=18 then some []else if id=10/\k=19 then some []else none)else
 if n=133 then(if id=11/\k=18 then some []else if id=17/\k=18 then some []else if id=23/\k=18 then some []else none)else
 if n=134 then(if id=15/\k=10 then some []else if id=19/\k=8 then some []else none)else
 if n=136 then(if id=10/\k=12 then some [(3,8),(3,9),(7,8),(7,9),(7,10)]else none)else
 if n=139 then(if id=7/\k=21 then some [(11,7),(15,7)]else if id=16/\k=17 then some [(9,0),(9,4)]else if id=20/\k=18 then some [(11,5)]else none)else
 if n=141 then(if id=11/\k=18 then some []else if id=15/\k=13 then some [(5,8)]else if id=17/\k=18 then some []else if id=23/\k=18 then some []else none)else
 if n=143 then(if id=10/\k=8 then some []else if id=10/\k=11 then some []else if id=14/\k=10 then some []else if id=28/\k=9 then some []else none)else
 if n=151 then(if id=19/\k=19 then some [(3,1),(9,7),(16,14)]else if id=21/\k=31 then some [(3,1),(9,7),(16,14)]else none)else
 if n=167 then(if id=7/\k=15 then some []else if id=8/\k=15 then some []else if id=9/\k=15 then some []else if id=10/\k=15 then some []else if id=17/\k=15 then some []else if id=18/\k=15 then some []else if id=23/\k=15 then some []else none)else
 if n=168 then(if id=1/\k=16 then some []else if id=8/\k=16 then some []else if id=10/\k=16 then some []else if id=18/\k=16 then some []else if id=21/\k=16 then some []else none)else
 if n=178 then(if id=1/\k=16 then some []else if id=8/\k=16 then some []else if id=10/\k=16 then some []else if id=18/\k=16 then some []else if id=21/\k=16 then some []else none)else
 if n=201 then(if id=17/\k=24 then some []else if id=19/\k=20 then some [(5,1),(12,1),(12,8)]else none)else
 if n=220 then(if id=11/\k=18 then some []else if id=23/\k=18 then some []else none)else
 none
def iA (l:List (FuncId×Spec)) (loud:List FuncId):Ext:=⟨fun f=>(l.find? (fun p=>p.1==f)).map (·.2),⟨fun f=>loud.contains f,L',fun _ _=>false,fun _ _ _=> []⟩⟩
@[simp] theorem NW {l:List (FuncId×Spec)} {loud:List FuncId} {n id k:Nat} :(iA l loud).loud.pm n id k= []:=rfl
@[simp] theorem NX {l:List (FuncId×Spec)} {loud:List FuncId} {s d:TypeId} :(iA l loud).loud.cv s d=false:=rfl
@[simp] theorem NY {l:List (FuncId×Spec)} {loud:List FuncId} {n id k:Nat} :(iA l loud).loud.ch n id k=L' n id k:=rfl
attribute [simp] L'
theorem pW {l:List (FuncId×Spec)} {loud:List FuncId} (h: ∀p∈l,cr P p.1 p.2):ow P (iA l loud):=by
 intro f s hs args H v H' hr;unfold iA at hs;obtain⟨p,hp,rfl⟩:=Option.map_eq_some_iff.1 hs;have h1:=List.find?_some hp;have h2:=List.mem_of_find?_eq_some hp;simp only [beq_iff_eq]at h1;subst h1;exact h p h2 args H v H' hr
theorem ss {f:FuncId} {args:List Value} (hf: ∀x∈args,ao x=true) (hv:ao v=true) (h: ∀w,Calls P f args.toArray w fun e w'=>e=.returned v/\w'=w):mi P f args H v H:=by
 intro ι w args' hrel h1 h2
 have e:args'=args.toArray:=by
  apply Array.ext
  ·simp [h1]
  ·intro i h3 h4;have hx:args[i]?=some (args[i]'(by simpa using h4)):=List.getElem?_eq_getElem _;have:=aE (h2 i _ _ hx (Array.getElem?_eq_getElem h3)) (hf _ (List.getElem_mem _));rw [this];simp
 subst e;refine(h w).mono ?_;rintro e w' ⟨rfl,rfl⟩;exact⟨ι,v,rfl,Out.refl hrel,.flat _ hv⟩
theorem pX {f:FuncId} {args:List Value} (hf: ∀x∈args,ao x=true) (hv:ao v=true) (h: ∀w,Calls P f args.toArray w fun e w'=>e=.returned v/\Change (fun _=>False) w w'):mi P f args H v H:=by
 intro ι w args' hrel h1 h2
 have e:args'=args.toArray:=by
  apply Array.ext
  ·simp [h1]
  ·intro i h3 h4;have hx:args[i]?=some (args[i]'(by simpa using h4)):=List.getElem?_eq_getElem _;have:=aE (h2 i _ _ hx (Array.getElem?_eq_getElem h3)) (hf _ (List.getElem_mem _));rw [this];simp
 subst e;refine(h w).mono ?_;rintro e w' ⟨rfl,hc⟩;exact⟨ι,v,rfl,c_ hrel hc,.flat _ hv⟩
theorem iJ {f:FuncId} {args:List Value} {cells:List Value} {e:TypeId} {k:Nat} (hf: ∀x∈args,ao x=true) (hc: ∀x∈cells,ao x=true) (hs:sz P e=some 1) (hk:cells.length=k) (hm:k<=maxLen)
  (h: ∀ι w,Rel P H ι w->Calls P f args.toArray w fun x w'=>x=.returned (.slice (some ⟨w.heap.size,0,none⟩) k k)/\w'=w.alloc (.cells cells.toArray e)):mi P f args H (sl H.n k k) (H.new ⟨cells,e,true⟩):=by
 intro ι w args' hrel h1 h2
 have e1:args'=args.toArray:=by
  apply Array.ext
  ·simp [h1]
  ·intro i h3 h4;have hx:args[i]?=some (args[i]'(by simpa using h4)):=List.getElem?_eq_getElem _;have:=aE (h2 i _ _ hx (Array.getElem?_eq_getElem h3)) (hf _ (List.getElem_mem _));rw [this];simp
 subst e1;refine(h ι w hrel).mono ?_;rintro x w' ⟨rfl,rfl⟩;have ho:=jc hrel (b:=⟨cells,e,true⟩) (arr:=cells.toArray) (slack:=0) rfl hs (by simp) (fun n hn hl=>by simp at hl;omega) (fun i x hx=>⟨x,by simpa using hx,.flat _ (hc x (List.mem_of_getElem? hx))⟩);refine⟨_,_,rfl,ho,?_⟩;have:=VR.slice (n:=(H.new ⟨cells,e,true⟩).D) (ι:=ι.add H.n ⟨w.heap.size,0,0⟩) H.n 0 k k ((fh hrel H.n).2 (.inr rfl)) (Nat.le_refl _);simpa [Ren.add]using this
theorem kH (hrel:Rel P H ι w) {g:Nat} (hg:g<H.ng):w.heap[g]?=H.base.heap[g]?:=(hrel.pin g hg).1
end
section
variable {P:Program} {H H':LH} {v x:Value} {xs:List Value} {e t:TypeId} {N:Nat} {b:LB}
def Row (N:Nat) (H:LH) (e:TypeId) (v:Value) (xs:List Value):Prop:=
 (v=.slice none 0 0/\xs= [])\/ ∃k c rest,v=sl k xs.length c/\N<=k/\H.get k=some ⟨xs++rest,e,true⟩/\c=xs.length+rest.length
def ay (v:Value) (k:Nat):Prop:= ∀n c,v≠sl k n c
theorem Row.nil:Row N H e (.slice none 0 0) []:=.inl ⟨rfl,rfl⟩
theorem Row.len (h:Row N H e v xs) (hu:P.underlying t=some (.slice e)):aI P .len [t] [v] H'=some (.int .i64 xs.length,H'):=by
 rcases h with⟨rfl,rfl⟩|⟨k,c,rest,rfl,_⟩
 ·exact bf hu
 ·exact bf hu
theorem Row.cell (h:Row N H e v xs):aC v=true:=by
 rcases h with⟨rfl,rfl⟩|⟨k,c,rest,rfl,_⟩<;>simp
theorem Row.keep (h:Row N H e v xs) (hk: ∀k,N<=k-> ¬ay v k->H'.get k=H.get k):Row N H' e v xs:=by
 rcases h with⟨rfl,rfl⟩|⟨k,c,rest,rfl,h1,h2,h3⟩
 ·exact .inl ⟨rfl,rfl⟩
 ·exact .inr ⟨k,c,rest,rfl,h1,by rw [hk k h1 (fun h=>h _ _ rfl)];exact h2,h3⟩
theorem Row.off_of_elem (h:Row N H e v xs) {l:Nat} (hl:H.get l=some b) (hne:b.elem≠e):ay v l:=by
 rcases h with⟨rfl,rfl⟩|⟨k,c,rest,rfl,h1,h2,h3⟩
 ·intro n c h;cases h
 ·intro n c h;injection h with h;injection h with h;injection h with h;subst h;rw [h2]at hl;injection hl with hl;subst hl;exact hne rfl
theorem df {k:Nat} :ay (.slice none 0 0) k:=fun n c h=>by cases h
theorem Row.push (h:Row N H e v xs) (hu:P.underlying t=some (.slice e)) (hs:ax P e=some 1) (hx:aC x=true) (hm:xs.length+1<=aH) (hN:N<=H.n) (hdom: ∀l,H.n<=l->H.get l=none):
  ∃v' H',eJ P t v (some (1,[x])) H=some (v',H')/\Row N H' e v' (xs++ [x])/\H.n<=H'.n/\(∀k,k<H.n->ay v k->H'.get k=H.get k)/\(∀k,k<H.n->ay v k->ay v' k)/\(∀l,H'.n<=l->H'.get l=none)/\H'.base=H.base/\H'.ng=H.ng:=by
 have hc: [x].all aC=true:=by simp [hx]
 rcases h with⟨rfl,rfl⟩|⟨k,c,rest,rfl,h1,h2,h3⟩
 ·refine⟨_,_,si hu hs hc (by omega) (by simp [aH]),.inr ⟨H.n,1,[],rfl,hN,by simp,rfl⟩,by simp,fun k hk _=>aa (by omega),fun k hk _ n c h=>?_,fun l hl=>?_,rfl,rfl⟩
  ·injection h with h;injection h with h;injection h with h;omega
  ·have:H.n+1<=l:=hl;rw [aa (by omega)];exact hdom l (by omega)
 ·have hklt:k<H.n:=by
   rcases Nat.lt_or_ge k H.n with h|h
   ·exact h
   ·rw [hdom k h]at h2;cases h2
  cases rest with
  |nil=>
   simp only [List.length_nil,Nat.add_zero]at h3;subst h3;have ha:=oE (P:=P) (H:=H) (t:=t) (m:=1) (new:= [x]) (n:=xs.length) (s:=1) hu hs hc (by omega) hm h2 rfl rfl (by simp);simp only [List.append_nil]at ha h2;refine⟨_,_,ha,.inr ⟨H.n,xs.length+1,[],by simp,hN,?_,by simp⟩,by simp,fun j hj ho=>?_,fun j hj ho n c h=>?_,fun l hl=>?_,rfl,rfl⟩
   ·rw [show H.n=(H.kill k).n from rfl,ak];simp
   ·have hjk:j≠k:=fun e=>ho _ _ (by rw [e]);rw [aa (by simp;omega),ck hjk]
   ·injection h with h;injection h with h;injection h with h;omega
   ·have:H.n+1<=l:=hl;rw [aa (by simp;omega),ck (by omega)];exact hdom l (by omega)
  |cons z rest=>
   have ha:=vE (P:=P) (H:=H) (t:=t) (m:=1) (new:= [x]) (n:=xs.length) (cp:=c) (s:=1) hu hs hc (by omega) h2 rfl rfl (by simp [h3]) (by simp [h3]);refine⟨_,_,ha,.inr ⟨k,c,rest,by simp,h1,?_,by simp [h3];omega⟩,by simp,fun j hj ho=>?_,fun j hj ho n c' h=>?_,fun l hl=>?_,rfl,rfl⟩
   ·rw [aw];congr 2;simp [aW]
   ·have hjk:j≠k:=fun e=>ho _ _ (by rw [e]);rw [ah hjk]
   ·injection h with h;injection h with h;injection h with h;subst h;exact ho _ _ rfl
   ·have:H.n<=l:=hl;rw [ah (by omega)];exact hdom l this
theorem Row.take (h:Row N H e v xs) (hu:P.underlying t=some (.slice e)) (hs:sz P e=some 1) {j:Int} {kd:IntKind} (h0:0<=j) (h1:j<xs.length): ∃v',dG P t v none (some (.int kd j))=some v'/\Row N H e v' (xs.take j.toNat)/\ ∀k,ay v k->ay v' k:=by
 rcases h with⟨rfl,rfl⟩|⟨k,c,rest,rfl,g1,g2,g3⟩
 ·simp at h1;omega
 ·refine⟨_,pS hu hs h0 (by omega),.inr ⟨k,c,xs.drop j.toNat++rest,?_,g1,?_,?_⟩,fun i hi n c' h=>?_⟩
  ·rw [List.length_take,Nat.min_eq_left (by omega)]
  ·rw [<-List.append_assoc,List.take_append_drop];exact g2
  ·simp;omega
  ·injection h with h;injection h with h;injection h with h;subst h;exact hi _ _ rfl
theorem Row.at (h:Row N H e v xs) (hu:P.underlying t=some (.slice e)) (hs:sz P e=some 1) (ha:aF P e=some false) {j:Int} {kd:IntKind} (h0:0<=j) (h1:j<xs.length) {d:Value} : ∃p,iu P t v (.int kd j) H'=some (p,H')/\gI P e p H=some (xs.getD j.toNat d):=by
 rcases h with⟨rfl,rfl⟩|⟨k,c,rest,rfl,g1,g2,g3⟩
 ·simp at h1;omega
 ·refine⟨_,sh hu hs h0 (by omega),?_⟩;rw [fk g2,ha];simp only [hZ,Nat.zero_add,Nat.mul_one];have hlt:j.toNat<xs.length:=by omega
  rw [List.getElem?_append,if_pos hlt,List.getD_eq_getElem?_getD,List.getElem?_eq_getElem hlt];rfl
end
section
variable {P:Program} {fr:Fr} {H H0:LH} {T:Callee} {L:Loud} {t s:TypeId} {x y i c:Operand}
@[simp ↓] theorem JP:bu P T (.move x) fr H0 H=aM P T (.move x) fr H:=rfl
@[simp ↓] theorem Ma:aN L (.move x)=false:=rfl
@[simp ↓] theorem ED:bu P T (.assign x) fr H0 H=aM P T (.assign x) fr H:=rfl
@[simp ↓] theorem Hv:aN L (.assign x)=false:=rfl
@[simp ↓] theorem JQ:bu P T (.pick c x y) fr H0 H=aM P T (.pick c x y) fr H:=rfl
@[simp ↓] theorem Mb:aN L (.pick c x y)=false:=rfl
@[simp ↓] theorem Mc:bu P T (.box t x) fr H0 H=aM P T (.box t x) fr H:=rfl
@[simp ↓] theorem NZ:aN L (.box t x)=false:=rfl
@[simp ↓] theorem Hw:bu P T (.alloc t) fr H0 H=aM P T (.alloc t) fr H:=rfl
@[simp ↓] theorem JR:aN L (.alloc t)=false:=rfl
@[simp ↓] theorem JS:bu P T (.load t x) fr H0 H=aM P T (.load t x) fr H:=rfl
@[simp ↓] theorem Md:aN L (.load t x)=false:=rfl
@[simp ↓] theorem Ar:bu P T (.nilCheck x) fr H0 H=aM P T (.nilCheck x) fr H:=rfl
@[simp ↓] theorem Db:aN L (.nilCheck x)=false:=rfl
@[simp ↓] theorem yG {f:Nat} :bu P T (.fieldAddr t x f) fr H0 H=aM P T (.fieldAddr t x f) fr H:=rfl
@[simp ↓] theorem As {f:Nat} :aN L (.fieldAddr t x f)=false:=rfl
@[simp ↓] theorem yH:bu P T (.indexAddr t x i) fr H0 H=aM P T (.indexAddr t x i) fr H:=rfl
@[simp ↓] theorem Au:aN L (.indexAddr t x i)=false:=rfl
@[simp ↓] theorem Hy {lo hi mx:Option Operand} :bu P T (.slice t x lo hi mx) fr H0 H=aM P T (.slice t x lo hi mx) fr H:=rfl
@[simp ↓] theorem JT {lo hi mx:Option Operand} :aN L (.slice t x lo hi mx)=false:=rfl
@[simp ↓] theorem Hz {f:Nat} :bu P T (.field t x f) fr H0 H=aM P T (.field t x f) fr H:=rfl
@[simp ↓] theorem JU {f:Nat} :aN L (.field t x f)=false:=rfl
@[simp ↓] theorem Dc {f:Nat} :bu P T (.extract x f) fr H0 H=aM P T (.extract x f) fr H:=rfl
@[simp ↓] theorem EE {f:Nat} :aN L (.extract x f)=false:=rfl
@[simp ↓] theorem HA {ps:Array (Nat×Operand)} :bu P T (.build t ps) fr H0 H=aM P T (.build t ps) fr H:=rfl
@[simp ↓] theorem JV {ps:Array (Nat×Operand)} :aN L (.build t ps)=false:=rfl
@[simp ↓] theorem xu {f:Nat} {ps:Array (Nat×Operand)} :bu P T (.buildSlice t f ps) fr H0 H=aM P T (.buildSlice t f ps) fr H:=rfl
@[simp ↓] theorem yI {f:Nat} {ps:Array (Nat×Operand)} :aN L (.buildSlice t f ps)=false:=rfl
@[simp ↓] theorem HB {op:BinOp} :bu P T (.binOp op t x y s) fr H0 H=aM P T (.binOp op t x y s) fr H:=rfl
@[simp ↓] theorem JW {op:BinOp} :aN L (.binOp op t x y s)=false:=rfl
@[simp ↓] theorem JX {uop:UnOp} :bu P T (.unOp uop t x) fr H0 H=aM P T (.unOp uop t x) fr H:=rfl
@[simp ↓] theorem Me {uop:UnOp} :aN L (.unOp uop t x)=false:=rfl
def mW (P:Program) (s d:TypeId) (v:Value) (H:LH):Option (Value×LH):=match bM P s d v H with
 |some r=>some r
 |none=>bI (cg P s d v H) H
@[simp ↓] theorem Dd:bu P T (.convert s t x) fr H0 H=mW P s t (ev fr x) H:=by
 show(match bM P s t (ev fr x) H with|some r=>some r|none=>aM P T (.convert s t x) fr H)=_;rw [ky];rfl
theorem lO {v:Value} (h: ∀bs,v≠.string bs):mW P s t v H=bI (cg P s t v H) H:=by
 unfold mW;rw [kz h]
@[simp] theorem N0 {kd:IntKind} {n:Int} :mW P s t (.int kd n) H=bI (cg P s t (.int kd n) H) H:=lO (fun _ h=>by cases h)
@[simp] theorem JY {kd:FloatKind} {n:Nat} :mW P s t (.float kd n) H=bI (cg P s t (.float kd n) H) H:=lO (fun _ h=>by cases h)
@[simp] theorem JZ {a:Option Addr} {n c:Nat} :mW P s t (.slice a n c) H=bI (cg P s t (.slice a n c) H) H:=lO (fun _ h=>by cases h)
@[simp] theorem J0:mW P s t undef H=bI (cg P s t undef H) H:=lO (fun _ h=>by cases h)
theorem su {l:List UInt8} :mW P s t (str l) H=jy P s t (str l) H:=by
 have e2:fB P s t (str l) H=none:=by
  unfold fB;split
  ·rename_i h;cases h
  ·rfl
 unfold mW jy db;rw [e2];cases bM P s t (str l) H<;>rfl
@[simp] theorem J4 {e:TypeId} {l:List UInt8} (hs:P.underlying s=some .string) (hd:P.underlying t=some (.slice e)) (he:P.underlying e=some (.int .u8)) (hz:sz P e=some 1):mW P s t (str l) H=some (.slice (some ⟨H.n,0,none⟩) l.length l.length,H.new ⟨l.map fun b=>Value.int .u8 b.toNat,MK P e,decide (l.length<=maxLen)⟩):=by
 rw [su];exact ue hs hd he hz
@[simp] theorem Mf {l:List UInt8} (hd:P.underlying t=some .string):mW P s t (str l) H=bI (cg P s t (str l) H) H:=by
 rw [su];exact xm hd
@[simp ↓] theorem yJ:bu P T (.makeSlice t x y) fr H0 H=aM P T (.makeSlice t x y) fr H:=rfl
@[simp ↓] theorem EF:aN L (.convert s t x)=false:=rfl
@[simp ↓] theorem HD:bu P T (.index t x i) fr H0 H=aM P T (.index t x i) fr H:=rfl
@[simp ↓] theorem J5:aN L (.index t x i)=false:=rfl
@[simp ↓] theorem Av {g:Fn} {c1 c2:Array Operand} :bu P T (.makeFunc g c1 c2) fr H0 H=aM P T (.makeFunc g c1 c2) fr H:=rfl
@[simp ↓] theorem De {g:Fn} {c1 c2:Array Operand} :aN L (.makeFunc g c1 c2)=false:=rfl
@[simp ↓] theorem J6:aN L (.store t x y)=true:=rfl
@[simp ↓] theorem HE {args:Array Operand} {ts:Array TypeId} :aN L (.call ⟨.builtin .append,args,ts⟩)=true:=rfl
@[simp ↓] theorem N1 {args:Array Operand} {ts:Array TypeId} :aN L (.call ⟨.builtin .len,args,ts⟩)=false:=rfl
@[simp ↓] theorem N2 {args:Array Operand} {ts:Array TypeId} :aN L (.call ⟨.builtin .min,args,ts⟩)=false:=rfl
@[simp ↓] theorem N3 {args:Array Operand} {ts:Array TypeId} :aN L (.call ⟨.builtin .max,args,ts⟩)=false:=rfl
@[simp ↓] theorem Mg {g:FuncId} {args:Array Operand} {ts:Array TypeId} :aN L (.call ⟨.value (.func g),args,ts⟩)=L g:=rfl
@[simp ↓] theorem J7 {g:Tmp} {args:Array Operand} {ts:Array TypeId} :aN L (.call ⟨.value (.tmp g),args,ts⟩)=false:=rfl
def sw (x:Option (Value×LH)) (H:LH):Option (Value×LH):=x.map fun r=>(r.1,H)
@[simp] theorem J8 {v:Value} {H1:LH} :sw (some (v,H1)) H=some (v,H):=rfl
@[simp] theorem J9:sw none H=none:=rfl
@[simp ↓] theorem Mh {args:List Operand} {ts:List TypeId} :bu P T (.call ⟨.builtin .len,⟨args⟩,⟨ts⟩⟩) fr H0 H=sw (aI P .len ts (args.map (ev fr)) H) H:=rfl
@[simp ↓] theorem Mj {args:List Operand} {ts:List TypeId} :bu P T (.call ⟨.builtin .min,⟨args⟩,⟨ts⟩⟩) fr H0 H=sw (aI P .min ts (args.map (ev fr)) H) H:=rfl
@[simp ↓] theorem Mk {args:List Operand} {ts:List TypeId} :bu P T (.call ⟨.builtin .max,⟨args⟩,⟨ts⟩⟩) fr H0 H=sw (aI P .max ts (args.map (ev fr)) H) H:=rfl
def mX (b:Bool) (x:Option (Value×LH)) (H:LH):Option (Value×LH):=match b,x with|true,some (v,_)=>if ao v then some (v,H)else none|_,_=>none
@[simp] theorem J_ {v:Value} {H1:LH} (h:ao v=true):mX true (some (v,H1)) H=some (v,H):=by simp [mX,h]
@[simp] theorem J' {b:Bool} :mX b none H=none:=by cases b<;>rfl
@[congr] theorem HG {b b':Bool} {x x':Option (Value×LH)} (h1:b=b') (h2:x=x'):mX b x H=mX b' x' H:=by rw [h1,h2]
def jC:List Value->Bool
 | []=>true
 |v::l=>ao v&&jC l
@[simp] theorem Ml:jC []=true:=rfl
@[simp] theorem Ka {v:Value} {l:List Value} :jC (v::l)=(ao v&&jC l):=rfl
theorem sx: ∀l:List Value,l.all ao=jC l
 | []=>rfl
 |v::l=>by simp only [List.all_cons,jC,sx l]
def xv (H0 H:LH) (f:Value) (args:List Value):Bool:=H.n==H0.n||(ao f&&jC args)
@[simp] theorem Mm {f:Value} {args:List Value} :xv H H f args=true:=by simp [xv]
@[simp] theorem Mn {f:Value} {args:List Value} (h1:ao f=true) (h2:jC args=true):xv H0 H f args=true:=by simp [xv,h1,h2]
@[simp] theorem P6 {g:FuncId} :ao (.func (.func g) #[] #[])=true:=rfl
@[simp ↓] theorem Kb {f:Operand} {args:List Operand} {ts:Array TypeId} :bu P T (.call ⟨.value f,⟨args⟩,ts⟩) fr H0 H=mX (xv H0 H (ev fr f) (args.map (ev fr))) (bE P T (ev fr f) (args.map (ev fr)) H0.ro) H:=by
 show(if(H.n==H0.n||(ao (ev fr f)&&(args.map (ev fr)).all ao))=true then(match bE P T (ev fr f) (args.map (ev fr)) H0.ro with|some (v,_)=>if ao v then some v else none|none=>none).map (fun v=>(v,H))else none)=_;rw [sx];unfold xv mX;cases (H.n==H0.n||(ao (ev fr f)&&jC (args.map (ev fr))))with
 |false=>rfl
 |true=>
  rw [if_pos rfl];cases bE P T (ev fr f) (args.map (ev fr)) H0.ro with
  |none=>rfl
  |some x=>
   obtain⟨v,H1⟩:=x;simp only;split<;>rfl
end
section
variable {P:Program} {H:LH} {t:TypeId} {a b:Bool}
theorem gy (hu:P.underlying t=some .bool):aU P (Op.equal t (.bool a) (.bool b))=some (a==b):=by
 unfold Op.equal;show aU P (Op.equalIn (9999+1) t (.bool a) (.bool b))=_;unfold Op.equalIn;simp only [b_,fj,hu,Option.bind_some,cf]
@[simp] theorem N4 (hu:P.underlying t=some .bool):bL P .eql t (.bool a) (.bool b)=some (.bool (a==b)):=vC (by simp only [binOp,b_,gy hu,Option.bind_some,cf]) rfl
@[simp] theorem N5 (hu:P.underlying t=some .bool):bL P .neq t (.bool a) (.bool b)=some (.bool (a !=b)):=vC (by simp only [binOp,b_,gy hu,Option.bind_some,cf];rfl) rfl
@[simp ↓] theorem P7 {fr:Fr} :ev fr (.const (.string ⟨#[]⟩))=str []:=rfl
@[simp ↓] theorem P8 {fr:Fr} :ev fr (.const (.string ByteArray.empty))=str []:=rfl
@[simp] theorem P9 {fr:Fr} {l:List UInt8} :ev fr (.const (str l))=str l:=by
 show(if ao (str l)then str l else tg)=_;rw [if_pos Ab]
@[simp] theorem uk {H:LH} {b:LB} {l:Nat} (h:l=H.n):(H.new b).get l=some b:=by subst h;exact ak
@[simp] theorem um {H:LH} {b c:LB} {l:Nat} (h:l=H.n):(H.new b).set l c=H.new c:=by subst h;exact vD
@[simp ↓] theorem Aw {T:Callee} {fr:Fr} {x y:Operand} :aM P T (.makeSlice t x y) fr H=gv P t (ev fr x) (ev fr y) H:=rfl
@[simp] theorem xw {e:TypeId} {z:Value} {l c:Int} {k k':IntKind} (hu:P.underlying t=some (.slice e)) (hs:ax P e=some 1) (hz:zr P e=some z) (hf:ao z=true) (hc:aC z=true) (h0:0<=l) (h1:l<=c) (h2:c<=1048576):
  gv P t (.int k l) (.int k' c) H=some (.slice (some ⟨H.n,0,none⟩) l.toNat c.toNat,H.new ⟨List.replicate c.toNat z,e,true⟩):=by
 unfold ax at hs;unfold zr at hz;unfold gv;simp only [hu];cases hi:P.info? e with
 |none=>simp [hi]at hs
 |some i=>
  simp only [hi,Option.bind_some]at hs hz;rw [hz]at hs;simp only at hs;split at hs
  ·rename_i hh;simp only [Option.some.injEq]at hs;simp only [hz];have hcs:z.cells=#[z]:=de hc
   rw [if_pos (by
    simp only [Bool.and_eq_true,decide_eq_true_eq,beq_iff_eq];refine⟨⟨⟨⟨⟨⟨hf,by omega⟩,h0⟩,h1⟩,by rw [hs];omega⟩,hh.2.2⟩,by rw [hcs,hs];rfl⟩)]
   congr 3;rw [hcs,hs,Nat.mul_one];congr 1;apply List.ext_getElem
   ·simp
   ·intro i h1 h2;simp [Nat.mod_one]
  ·cases hs
end
abbrev KF:=Fr->LH->Prop
def LX (P:Program) (T:Callee) (N:Nat) (all:Array Oper) (os:List Oper) (fr:Fr) (H:LH) (K:KF):Prop:= ∃fr' H',cL P T N all os fr H=some (fr',H')/\K fr' H'
def xx (cv:TypeId->TypeId->Bool) (P:Program) (T:Callee) (N:Nat) (all:Array Oper) (os:List Oper) (fr:Fr) (H:LH) (K:KF):Prop:= ∃fr' H',@fe ⟨cv⟩ P T N all os fr H=some (fr',H')/\K fr' H'
def MX (P:Program) (L:Loud) (T:Callee) (N:Nat) (all:Array Oper) (H0:LH) (os:List Oper) (fr:Fr) (H:LH) (K:KF):Prop:= ∃fr' H',cQ P L T N all H0 os fr H=some (fr',H')/\K fr' H'
def CX (cv:TypeId->TypeId->Bool) (P:Program) (T:Callee) (N:Nat) (all:Array Oper) (prs:List (Nat×Nat)) (j:Nat) (old:Nat->Fr×LH) (os:List Oper) (fr:Fr) (H:LH) (K:KF):Prop:= ∃fr' H',@aY ⟨cv⟩ P T N all prs j old os fr H=some (fr',H')/\K fr' H'
def Kc (P:Program) (L:Loud) (T:Callee) (N:Nat) (prs:List (Nat×Nat)) (l:List Oper) (fr:Fr) (H:LH) (K:KF):Prop:=CX L.cv P T N ⟨l⟩ prs 0 (fun _=>(fr,H)) l fr H K
def DX (P:Program) (L:Loud) (T:Callee) (N:Nat) (x:Option (List (Nat×Nat))) (p:List Nat) (l:List Oper) (fr:Fr) (H:LH) (K:KF):Prop:=
 match x with
 |none=>MX P L T N ⟨l⟩ H l fr H K
 |some prs=>Kc P L T N prs (dD p l) fr H K
def XS (x:Option (Value×LH)) (d N:Nat) (fr:Fr) (F:KF):Prop:=match x with|some (v,H)=>d<N/\F (upd fr d v) H|none=>False
def HI (x:Option (Value×LH)) (fr:Fr) (F:KF):Prop:=match x with|some (_,H)=>F fr H|none=>False
def XG (g:Option Bool) (x:Option (Value×LH)) (d N:Nat) (fr:Fr) (H:LH) (F:KF):Prop:=match g with|some true=>XS x d N fr F|some false=>d<N/\F (upd fr d undef) H|none=>False
def XC (P:Program) (x:Option (Value×LH)) (d N:Nat) (op:Op) (all:Array Oper) (prs:List (Nat×Nat)) (j:Nat) (old:Nat->Fr×LH) (fr:Fr) (F:KF):Prop:=match x with
 |some (v,H')=>d<N/\nR P j op fr old v prs/\j6 P j all old (upd fr d v) H' prs/\F (upd fr d v) H'
 |none=>False
def Mo (P:Program) (x:Option (Value×LH)) (op:Op) (all:Array Oper) (prs:List (Nat×Nat)) (j:Nat) (old:Nat->Fr×LH) (fr:Fr) (F:KF):Prop:=match x with
 |some (v,H')=>nR P j op fr old v prs/\j6 P j all old fr H' prs/\F fr H'
 |none=>False
def Mp (P:Program) (g:Option Bool) (x:Option (Value×LH)) (d N:Nat) (op:Op) (all:Array Oper) (prs:List (Nat×Nat)) (j:Nat) (old:Nat->Fr×LH) (fr:Fr) (H:LH) (F:KF):Prop:=match g with
 |some true=>XC P x d N op all prs j old fr F
 |some false=>d<N/\j6 P j all old (upd fr d undef) H prs/\F (upd fr d undef) H
 |none=>False
section
variable {cv:TypeId->TypeId->Bool} {P:Program} {E:PEnv} {Y:Option YC} {rd:Nat} {fn:Func} {k:List Item} {fr:Fr} {H H' H0:LH} {p:Option Code} {Q:PQ} {all:Array Oper} {os:List Oper} {d N:Nat} {op:Op} {ty:TypeId} {pos:String} {after:Array Edge} {v:Value} {T:Callee} {L:Loud} {K F:KF} {prs:List (Nat×Nat)} {j:Nat} {old:Nat->Fr×LH}
theorem EG (hrd:rd≠3) {id:Nat} {l:List Oper} :PR P E Y rd fn (.code (.region id ⟨l⟩ true)::k) fr H p Q↔DX P E.pl (LC P E.E) fn.ntmps (E.pl.ch fn.ntmps id l.length) (E.pl.pm fn.ntmps id l.length) l fr H (fun fr' H'=>PR P E Y rd fn k fr' H' p Q):=by
 have key:(∃fr1 H1,dO P E.pl (LC P E.E) fn.ntmps id ⟨l⟩ fr H=some (fr1,H1)/\PR P E Y rd fn k fr1 H1 p Q)↔DX P E.pl (LC P E.E) fn.ntmps (E.pl.ch fn.ntmps id l.length) (E.pl.pm fn.ntmps id l.length) l fr H (fun fr' H'=>PR P E Y rd fn k fr' H' p Q):=by
  unfold DX dO drawn Kc;rw [show(⟨l⟩:Array Oper).size=l.length from rfl];cases E.pl.ch fn.ntmps id l.length<;>exact Iff.rfl
 rw [<-key];constructor
 ·rintro⟨r,H',p',h,q⟩;cases h with
  |draw h1 h2=>exact⟨_,_,h1,_,_,_,h2,q⟩
  |drawc _ _ _ _=>exact absurd rfl hrd
 ·rintro⟨fr1,H1,h1,r,H',p',h2,q⟩;exact⟨_,_,_,.draw h1 h2,q⟩
theorem jD {id:Nat} {l:List Oper} (h:DX P E.pl (LC P E.E) fn.ntmps (E.pl.ch fn.ntmps id l.length) (E.pl.pm fn.ntmps id l.length) l fr H (fun fr' H'=>PR P E Y 3 fn k fr' H' p Q)):PR P E Y 3 fn (.code (.region id ⟨l⟩ true)::k) fr H p Q:=by
 have key: ∃fr1 H1,dO P E.pl (LC P E.E) fn.ntmps id ⟨l⟩ fr H=some (fr1,H1)/\PR P E Y 3 fn k fr1 H1 p Q:=by
  revert h;unfold DX dO drawn Kc;rw [show(⟨l⟩:Array Oper).size=l.length from rfl];cases E.pl.ch fn.ntmps id l.length<;>exact fun h=>h
 obtain⟨fr1,H1,h1,r,H',p',h2,q⟩:=key;exact⟨_,_,_,.draw h1 h2,q⟩
theorem mY {id:Nat} {l ll:List Oper} {o:Oper} (prs:List (Nat×Nat)) (hll:ll=l++ [o]) (hB:@kb ⟨E.pl.cv⟩ ⟨l⟩ prs=true) (hl:kZ l o=true)
  (h:CX E.pl.cv P (LC P E.E) fn.ntmps ⟨l⟩ prs 0 (fun _=>(fr,H)) l fr H (fun fr' H'=>PO P E Y 3 fn ⟨ll⟩ [o] k fr' H' p Q)):PR P E Y 3 fn (.code (.region id ⟨ll⟩ true)::k) fr H p Q:=by
 subst hll;obtain⟨fr1,H1,h1,r,H',p',h2,q⟩:=h;exact⟨_,_,_,.drawc hB hl h1 h2,q⟩
theorem ia {id:Nat} {a0 b0 c0 d0 e0:Oper} (prs:List (Nat×Nat)) (hB:@kb ⟨E.pl.cv⟩ ⟨[a0,b0,c0,d0]⟩ prs=true) (hl:kZ [a0,b0,c0,d0] e0=true)
  (h:CX E.pl.cv P (LC P E.E) fn.ntmps ⟨[a0,b0,c0,d0]⟩ prs 0 (fun _=>(fr,H)) [a0,b0,c0,d0] fr H (fun fr' H'=>PO P E Y 3 fn ⟨[a0,b0,c0,d0,e0]⟩ [e0] k fr' H' p Q)):PR P E Y 3 fn (.code (.region id ⟨[a0,b0,c0,d0,e0]⟩ true)::k) fr H p Q:=mY prs rfl hB hl h
theorem oI {id:Nat} {a0 b0 c0 d0 e0 f0:Oper} (prs:List (Nat×Nat)) (hB:@kb ⟨E.pl.cv⟩ ⟨[a0,b0,c0,d0,e0]⟩ prs=true) (hl:kZ [a0,b0,c0,d0,e0] f0=true)
  (h:CX E.pl.cv P (LC P E.E) fn.ntmps ⟨[a0,b0,c0,d0,e0]⟩ prs 0 (fun _=>(fr,H)) [a0,b0,c0,d0,e0] fr H (fun fr' H'=>PO P E Y 3 fn ⟨[a0,b0,c0,d0,e0,f0]⟩ [f0] k fr' H' p Q)):PR P E Y 3 fn (.code (.region id ⟨[a0,b0,c0,d0,e0,f0]⟩ true)::k) fr H p Q:=mY prs rfl hB hl h
theorem oJ {id:Nat} {a0 b0 c0 d0 e0 f0 g0:Oper} (prs:List (Nat×Nat)) (hB:@kb ⟨E.pl.cv⟩ ⟨[a0,b0,c0,d0,e0,f0]⟩ prs=true) (hl:kZ [a0,b0,c0,d0,e0,f0] g0=true)
  (h:CX E.pl.cv P (LC P E.E) fn.ntmps ⟨[a0,b0,c0,d0,e0,f0]⟩ prs 0 (fun _=>(fr,H)) [a0,b0,c0,d0,e0,f0] fr H (fun fr' H'=>PO P E Y 3 fn ⟨[a0,b0,c0,d0,e0,f0,g0]⟩ [g0] k fr' H' p Q)):PR P E Y 3 fn (.code (.region id ⟨[a0,b0,c0,d0,e0,f0,g0]⟩ true)::k) fr H p Q:=mY prs rfl hB hl h
theorem pY {a b:Type} {x:a} {y:b} {K:a->b->Prop} :(∃fr' H',(some (x,y):Option (a×b))=some (fr',H')/\K fr' H')↔K x y:=by
 constructor
 ·rintro⟨_,_,e,h⟩;injection e with e;injection e with e1 e2;subst e1 e2;exact h
 ·exact fun h=>⟨_,_,rfl,h⟩
theorem a8 {a b:Type} {K:a->b->Prop} :(∃fr' H',(none:Option (a×b))=some (fr',H')/\K fr' H')↔False:=by
 constructor
 ·rintro⟨_,_,e,h⟩;cases e
 ·exact False.elim
theorem Kd:LX P T N all [] fr H K↔K fr H:=by unfold LX;simp only [cL];exact pY
theorem EH:LX P T N all (⟨some d,op,ty,pos,after,none⟩::os) fr H K↔XS (ba P T op fr H) d N fr (fun fr' H'=>LX P T N all os fr' H' K):=by
 unfold LX XS;simp only [cL,aQ,gf];cases ba P T op fr H with
 |none=>exact a8
 |some x=>
  obtain⟨v,H1⟩:=x;simp only [bb];by_cases hd:d<N
  ·simp only [hd,if_true,true_and]
  ·simp only [hd,if_false,false_and];exact a8
theorem Ax:LX P T N all (⟨none,op,ty,pos,after,none⟩::os) fr H K↔HI (ba P T op fr H) fr (fun fr' H'=>LX P T N all os fr' H' K):=by
 unfold LX HI;simp only [cL,aQ,gf];cases ba P T op fr H with
 |none=>exact a8
 |some x=>obtain⟨v,H1⟩:=x;simp only [bb]
theorem Ay {i:Nat} {want:Bool} :LX P T N all (⟨some d,op,ty,pos,after,some (i,want)⟩::os) fr H K↔XG (bP all fr i want) (ba P T op fr H) d N fr H (fun fr' H'=>LX P T N all os fr' H' K):=by
 unfold LX XG;simp only [cL,cB,gf];cases bP all fr i want with
 |none=>exact a8
 |some b=>
  cases b with
  |true=>
   unfold XS;simp only;cases ba P T op fr H with
   |none=>exact a8
   |some x=>
    obtain⟨v,H1⟩:=x;simp only [bb];by_cases hd:d<N
    ·simp only [hd,if_true,true_and]
    ·simp only [hd,if_false,false_and];exact a8
  |false=>
   simp only [bb];by_cases hd:d<N
   ·simp only [hd,if_true,true_and]
   ·simp only [hd,if_false,false_and];exact a8
theorem EI:xx cv P T N all [] fr H K↔K fr H:=by unfold xx;simp only [fe];exact pY
theorem Az:xx cv P T N all (⟨some d,op,ty,pos,after,none⟩::os) fr H K↔XS (aR cv P T op fr H) d N fr (fun fr' H'=>xx cv P T N all os fr' H' K):=by
 unfold xx XS;simp only [fe,aQ,kt];cases aR cv P T op fr H with
 |none=>exact a8
 |some x=>
  obtain⟨v,H1⟩:=x;simp only [bb];by_cases hd:d<N
  ·simp only [hd,if_true,true_and]
  ·simp only [hd,if_false,false_and];exact a8
theorem xy:xx cv P T N all (⟨none,op,ty,pos,after,none⟩::os) fr H K↔HI (aR cv P T op fr H) fr (fun fr' H'=>xx cv P T N all os fr' H' K):=by
 unfold xx HI;simp only [fe,aQ,kt];cases aR cv P T op fr H with
 |none=>exact a8
 |some x=>obtain⟨v,H1⟩:=x;simp only [bb]
theorem xz {i:Nat} {want:Bool} :xx cv P T N all (⟨some d,op,ty,pos,after,some (i,want)⟩::os) fr H K↔XG (bP all fr i want) (aR cv P T op fr H) d N fr H (fun fr' H'=>xx cv P T N all os fr' H' K):=by
 unfold xx XG;simp only [fe,cB,kt];cases bP all fr i want with
 |none=>exact a8
 |some b=>
  cases b with
  |true=>
   unfold XS;simp only;cases aR cv P T op fr H with
   |none=>exact a8
   |some x=>
    obtain⟨v,H1⟩:=x;simp only [bb];by_cases hd:d<N
    ·simp only [hd,if_true,true_and]
    ·simp only [hd,if_false,false_and];exact a8
  |false=>
   simp only [bb];by_cases hd:d<N
   ·simp only [hd,if_true,true_and]
   ·simp only [hd,if_false,false_and];exact a8
theorem Ke:MX P L T N all H0 [] fr H K↔K fr H:=by unfold MX;simp only [cQ];exact pY
theorem EK:MX P L T N all H0 (⟨some d,op,ty,pos,after,none⟩::os) fr H K↔eU (aN L op) (LX P T N all (⟨some d,op,ty,pos,after,none⟩::os) fr H K) (XS (bu P T op fr H0 H) d N fr (fun fr' H'=>MX P L T N all H0 os fr' H' K)):=by
 unfold MX eU;cases hl:aN L op with
 |true=>unfold LX;simp only [cQ,hl,if_true]
 |false=>
  unfold XS;simp only [cQ,hl,Bool.false_eq_true,if_false,aQ,ju];by_cases hd:d<N
  ·simp only [if_pos hd];cases bu P T op fr H0 H with
   |none=>exact a8
   |some x=>obtain⟨v,H1⟩:=x;simp only [hd,true_and]
  ·simp only [if_neg hd];cases bu P T op fr H0 H with
   |none=>exact a8
   |some x=>obtain⟨v,H1⟩:=x;simp only [hd,false_and];exact a8
theorem AA:MX P L T N all H0 (⟨none,op,ty,pos,after,none⟩::os) fr H K↔eU (aN L op) (LX P T N all (⟨none,op,ty,pos,after,none⟩::os) fr H K) False:=by
 unfold MX eU;cases hl:aN L op with
 |true=>unfold LX;simp only [cQ,hl,if_true]
 |false=>simp [cQ,hl]
theorem AB {i:Nat} {want:Bool} :MX P L T N all H0 (⟨some d,op,ty,pos,after,some (i,want)⟩::os) fr H K↔eU (aN L op) (LX P T N all (⟨some d,op,ty,pos,after,some (i,want)⟩::os) fr H K) (XG (bP all fr i want) (bu P T op fr H0 H) d N fr H (fun fr' H'=>MX P L T N all H0 os fr' H' K)):=by
 unfold MX eU;cases hl:aN L op with
 |true=>unfold LX;simp only [cQ,hl,if_true]
 |false=>
  unfold XG;simp only [cQ,hl,Bool.false_eq_true,if_false,cB,ju];by_cases hd:d<N
  ·simp only [if_pos hd];cases bP all fr i want with
   |none=>exact a8
   |some b=>
    cases b with
    |true=>
     unfold XS;simp only;cases bu P T op fr H0 H with
     |none=>exact a8
     |some x=>obtain⟨v,H1⟩:=x;simp only [hd,true_and]
    |false=>simp only [hd,true_and]
  ·simp only [if_neg hd];cases bP all fr i want with
   |none=>exact a8
   |some b=>
    cases b with
    |true=>
     unfold XS;simp only;cases bu P T op fr H0 H with
     |none=>exact a8
     |some x=>obtain⟨v,H1⟩:=x;simp only [hd,false_and];exact a8
    |false=>simp only [hd,false_and];exact a8
theorem EL:CX cv P T N all [] j old os fr H K↔xx cv P T N all os fr H K:=by unfold CX xx;rw [gg (cv:=⟨cv⟩) (j:=j) (old:=old)]
theorem Kf:CX cv P T N all prs j old [] fr H K↔K fr H:=by unfold CX;simp only [aY];exact pY
theorem EM:CX cv P T N all prs j old (⟨some d,op,ty,pos,after,none⟩::os) fr H K↔XC P (aR cv P T op fr H) d N op all prs j old fr (fun fr' H'=>CX cv P T N all prs (j+1) (mK old j (fr,H)) os fr' H' K):=by
 unfold CX XC;simp only [aY,jw];rw [show aR cv P T op fr H=@cY ⟨cv⟩ P T ⟨some d,op,ty,pos,after,none⟩ fr H from rfl];cases @cY ⟨cv⟩ P T ⟨some d,op,ty,pos,after,none⟩ fr H with
 |none=>exact a8
 |some x=>
  obtain⟨v,H1⟩:=x;simp only [bb];by_cases hd:d<N
  ·simp only [hd,if_true,true_and];have e1:=gh (P:=P) (op:=op) (fr:=fr) (old:=old) (j:=j) (v:=v) (ty:=ty) (pos:=pos) (after:=after) (some d) none (prs:=prs);by_cases hc:nR P j op fr old v prs/\j6 P j all old (upd fr d v) H1 prs
   ·rw [if_pos (And.intro (e1.1 hc.1) (b9.1 hc.2))];simp only [hc,true_and];exact Iff.rfl
   ·rw [if_neg (fun h=>hc (And.intro (e1.2 (And.left h)) (b9.2 (And.right h))))];exact⟨fun h=>(a8.1 h).elim,fun⟨h1,h2,_⟩=>absurd ⟨h1,h2⟩ hc⟩
  ·simp only [hd,if_false,false_and];exact a8
theorem AD:CX cv P T N all prs j old (⟨none,op,ty,pos,after,none⟩::os) fr H K↔Mo P (aR cv P T op fr H) op all prs j old fr (fun fr' H'=>CX cv P T N all prs (j+1) (mK old j (fr,H)) os fr' H' K):=by
 unfold CX Mo;simp only [aY,jw];rw [show aR cv P T op fr H=@cY ⟨cv⟩ P T ⟨none,op,ty,pos,after,none⟩ fr H from rfl];cases @cY ⟨cv⟩ P T ⟨none,op,ty,pos,after,none⟩ fr H with
 |none=>exact a8
 |some x=>
  obtain⟨v,H1⟩:=x;simp only [bb];have e1:=gh (P:=P) (op:=op) (fr:=fr) (old:=old) (j:=j) (v:=v) (ty:=ty) (pos:=pos) (after:=after) none none (prs:=prs);by_cases hc:nR P j op fr old v prs/\j6 P j all old fr H1 prs
  ·rw [if_pos (And.intro (e1.1 hc.1) (b9.1 hc.2))];simp only [hc,true_and];exact Iff.rfl
  ·rw [if_neg (fun h=>hc (And.intro (e1.2 (And.left h)) (b9.2 (And.right h))))];exact⟨fun h=>(a8.1 h).elim,fun⟨h1,h2,_⟩=>absurd ⟨h1,h2⟩ hc⟩
theorem AE {g:Nat} {want:Bool} :CX cv P T N all prs j old (⟨some d,op,ty,pos,after,some (g,want)⟩::os) fr H K↔Mp P (bP all fr g want) (aR cv P T op fr H) d N op all prs j old fr H (fun fr' H'=>CX cv P T N all prs (j+1) (mK old j (fr,H)) os fr' H' K):=by
 unfold CX Mp;simp only [aY,cB];cases bP all fr g want with
 |none=>exact a8
 |some b=>
  cases b with
  |true=>
   simp only [XC];rw [show aR cv P T op fr H=@cY ⟨cv⟩ P T ⟨some d,op,ty,pos,after,some (g,want)⟩ fr H from rfl];cases @cY ⟨cv⟩ P T ⟨some d,op,ty,pos,after,some (g,want)⟩ fr H with
   |none=>exact a8
   |some x=>
    obtain⟨v,H1⟩:=x;simp only [bb];by_cases hd:d<N
    ·simp only [hd,if_true,true_and];have e1:=gh (P:=P) (op:=op) (fr:=fr) (old:=old) (j:=j) (v:=v) (ty:=ty) (pos:=pos) (after:=after) (some d) (some (g,want)) (prs:=prs);by_cases hc:nR P j op fr old v prs/\j6 P j all old (upd fr d v) H1 prs
     ·rw [if_pos (And.intro (e1.1 hc.1) (b9.1 hc.2))];simp only [hc,true_and];exact Iff.rfl
     ·rw [if_neg (fun h=>hc (And.intro (e1.2 (And.left h)) (b9.2 (And.right h))))];exact⟨fun h=>(a8.1 h).elim,fun⟨h1,h2,_⟩=>absurd ⟨h1,h2⟩ hc⟩
    ·simp only [hd,if_false,false_and];exact a8
  |false=>
   simp only [bb];by_cases hd:d<N
   ·simp only [hd,if_true,true_and];by_cases hc:j6 P j all old (upd fr d undef) H prs
    ·rw [if_pos (b9.1 hc)];simp only [hc,true_and];exact Iff.rfl
    ·rw [if_neg (fun h=>hc (b9.2 h))];exact⟨fun h=>(a8.1 h).elim,fun⟨h1,_⟩=>absurd h1 hc⟩
   ·simp only [hd,if_false,false_and];exact a8
theorem EN {p:List Nat} {l:List Oper} :DX P L T N none p l fr H K↔MX P L T N ⟨l⟩ H l fr H K:=Iff.rfl
theorem EO {l:List Oper} :DX P L T N (some prs) [] l fr H K↔CX L.cv P T N ⟨l⟩ prs 0 (fun _=>(fr,H)) l fr H K:=Iff.rfl
theorem EP {a:Nat} {p:List Nat} {l:List Oper} :DX P L T N (some prs) (a::p) l fr H K↔Kc P L T N prs (pmap (a::p) l (a::p)) fr H K:=Iff.rfl
theorem Kg {o:Oper} {l:List Oper} :Kc P L T N prs (o::l) fr H K↔CX L.cv P T N ⟨o::l⟩ prs 0 (fun _=>(fr,H)) (o::l) fr H K:=Iff.rfl
attribute [simp ↓] EG EN EO EP Kg Kd EH Ax Ay EI Az xy xz Ke EK AA AB EL Kf EM AD AE
@[congr] theorem N6 {x y:Option (List (Nat×Nat))} {p q:List Nat} {l:List Oper} (h:x=y) (g:p=q):DX P L T N x p l fr H K=DX P L T N y q l fr H K:=by rw [h,g]
@[congr] theorem Mq {l l':List Oper} (h:l=l'):Kc P L T N prs l fr H K=Kc P L T N prs l' fr H K:=by rw [h]
@[congr] theorem N7 {x y:Option (Value×LH)} (h:x=y):XS x d N fr F=XS y d N fr F:=by rw [h]
@[congr] theorem Mr {x y:Option (Value×LH)} (h:x=y):HI x fr F=HI y fr F:=by rw [h]
@[congr] theorem N8 {g g':Option Bool} {x:Option (Value×LH)} (h:g=g'):XG g x d N fr H F=XG g' x d N fr H F:=by rw [h]
@[congr] theorem N9 {x y:Option (Value×LH)} (h:x=y):XC P x d N op all prs j old fr F=XC P y d N op all prs j old fr F:=by rw [h]
@[congr] theorem Ms {x y:Option (Value×LH)} (h:x=y):Mo P x op all prs j old fr F=Mo P y op all prs j old fr F:=by rw [h]
@[congr] theorem Mt {g g':Option Bool} {x:Option (Value×LH)} (h:g=g'):Mp P g x d N op all prs j old fr H F=Mp P g' x d N op all prs j old fr H F:=by rw [h]
@[simp] theorem P_:XS (some (v,H)) d N fr F↔d<N/\F (upd fr d v) H:=Iff.rfl
@[simp] theorem P':XS none d N fr F↔False:=Iff.rfl
@[simp] theorem N_:HI (some (v,H)) fr F↔F fr H:=Iff.rfl
@[simp] theorem Oa:HI none fr F↔False:=Iff.rfl
@[simp] theorem Qa {x:Option (Value×LH)} :XG (some true) x d N fr H F↔XS x d N fr F:=Iff.rfl
@[simp] theorem Oc {x:Option (Value×LH)} :XG (some false) x d N fr H F↔d<N/\F (upd fr d undef) H:=Iff.rfl
@[simp] theorem Qb:XC P (some (v,H)) d N op all prs j old fr F↔d<N/\nR P j op fr old v prs/\j6 P j all old (upd fr d v) H prs/\F (upd fr d v) H:=Iff.rfl
@[simp] theorem Qc:XC P none d N op all prs j old fr F↔False:=Iff.rfl
@[simp] theorem Od:Mo P (some (v,H)) op all prs j old fr F↔nR P j op fr old v prs/\j6 P j all old fr H prs/\F fr H:=Iff.rfl
@[simp] theorem Oe:Mo P none op all prs j old fr F↔False:=Iff.rfl
@[simp] theorem Of {x:Option (Value×LH)} :Mp P (some true) x d N op all prs j old fr H F↔XC P x d N op all prs j old fr F:=Iff.rfl
@[simp] theorem Mu {x:Option (Value×LH)} :Mp P (some false) x d N op all prs j old fr H F↔d<N/\j6 P j all old (upd fr d undef) H prs/\F (upd fr d undef) H:=Iff.rfl
end
def cP (n:Nat):Value->Value
 |.pointer (some ⟨l,o,none⟩)=>if l<n then .pointer (some ⟨l,o,none⟩)else tg
 |.slice (some ⟨l,o,none⟩) k c=>if l<n/\k<=c then .slice (some ⟨l,o,none⟩) k c else if k=0/\c=0/\0<n then .slice (some ⟨0,0,none⟩) 0 0 else tg
 |.slice (some ⟨_,_,some _⟩) k c=>if k=0/\c=0/\0<n then .slice (some ⟨0,0,none⟩) 0 0 else tg
 |v=>if aA v then v else tg
def lf (n:Nat):Value->Value
 |.agg cs=>.agg (cs.map (cP n))
 |v=>cP n v
def jE (n:Nat):Option Obj->Option LB
 |some (.cells arr t _)=>some ⟨arr.toList.map (cP n),t,false⟩
 |_=>none
def LH.lift (w:World) (g:Nat):LH:=⟨w.heap.size,fun l=>jE w.heap.size w.heap[l]?,fun _=>False,w,g⟩
def lC:Ren:=fun l=>⟨l,0,0⟩
theorem xA {v:Value} (h:aA v=true):ao v=true:=by
 cases v<;>first|exact h|(simp [aA]at h)
section
variable {P:Program} {E:Ext} {H H':LH} {w w':World} {v v':Value} {g:Nat}
theorem pZ {l:Nat} :(LH.lift w g).D l↔l<w.heap.size:=⟨fun h=>h.1,fun h=>⟨h,fun h=>h⟩⟩
theorem mZ (v:Value):VR (LH.lift w g).D lC (cP w.heap.size v) v:=by
 unfold cP;split
 ·rename_i l o;split
  ·have:=VR.ptr (n:=(LH.lift w g).D) (ι:=lC) l o (pZ.2 ‹_›);simpa [lC]using this
  ·exact .any _
 ·rename_i l o k c;split
  ·rename_i h;have:=VR.slice (n:=(LH.lift w g).D) (ι:=lC) l o k c (pZ.2 h.1) h.2;simpa [lC]using this
  ·split
   ·rename_i h;obtain⟨rfl,rfl,h⟩:=h;exact .slice0 0 0 _ (pZ.2 h)
   ·exact .any _
 ·split
  ·rename_i h;obtain⟨rfl,rfl,h⟩:=h;exact .slice0 0 0 _ (pZ.2 h)
  ·exact .any _
 ·split
  ·exact .flat _ (xA ‹_›)
  ·exact .any _
theorem AF (v:Value):VR (LH.lift w g).D lC (lf w.heap.size v) v:=by
 unfold lf;split
 ·refine .agg _ _ (by simp) (fun i x y hx hy=>?_);rw [Array.getElem?_map,hy]at hx;simp only [Option.map_some,Option.some.injEq]at hx;subst hx;exact mZ y
 ·exact mZ _
theorem AG (hg:g<=w.heap.size):Rel P (LH.lift w g) lC w:=by
 have hno: ∀k,¬RW (LH.lift w g) lC k:=by
  rintro k ⟨l,b,hb,hr,_⟩;have hb':jE w.heap.size w.heap[l]?=some b:=hb;unfold jE at hb';split at hb'
  ·simp only [Option.some.injEq]at hb';subst hb';cases hr
  ·cases hb'
 refine⟨fun l hl=>?_,fun _ h=>h.elim,fun l b hb=>?_,fun l l' b b' hb _ hr=>?_,fun k hk=>⟨rfl,Nat.lt_of_lt_of_le hk hg,hno k⟩⟩
 ·show jE _ _=none;rw [Array.getElem?_eq_none hl];rfl
 ·have hb':jE w.heap.size w.heap[l]?=some b:=hb;unfold jE at hb';split at hb'
  ·rename_i arr t fr hw;simp only [Option.some.injEq]at hb';subst hb';refine⟨arr,t,fr,hw,by simp [lC],fun i x hx=>?_,fun h=>by cases h⟩;simp only [List.getElem?_map,Option.map_eq_some_iff]at hx;obtain⟨y,hy,rfl⟩:=hx;exact⟨y,by simpa [lC]using hy,mZ y⟩
  ·cases hb'
 ·exact absurd ⟨l,b,hb,hr,rfl⟩ (hno (lC l).blk)
theorem AH {f:FuncId} {args:Array Value} {ng:Nat} (hT:lz P (LC P E)) (hng:ng<=w.heap.size) (h:LC P E f (args.toList.map (lf w.heap.size)) (LH.lift w ng)=some (.bool true,H')) (he:cU P f:=by exact⟨_,rfl,rfl,by decide⟩):
  Calls P f args w fun e w'=>e=.returned (.bool true)/\Change (fun _=>False) w w':=by
 have hc:=(hT _ _ _ _ _ h).call he;refine(hc lC w args (AG hng) (by simp) (fun i x y hx hy=>?_)).mono ?_
 ·rw [List.getElem?_map,Array.getElem?_toList]at hx;rw [hy]at hx;simp only [Option.map_some,Option.some.injEq]at hx;subst hx;exact AF y
 ·rintro e w' ⟨ι',v',rfl,ho,hv⟩;rw [aE hv rfl];refine⟨rfl,ho.chg.mono ?_⟩;rintro k-⟨l,b,hb,hr,_⟩;have hb':jE w.heap.size w.heap[l]?=some b:=hb;unfold jE at hb';split at hb'
  ·simp only [Option.some.injEq]at hb';subst hb';cases hr
  ·cases hb'
@[simp] theorem Og {n:Nat} {s:ByteArray} :cP n (.string s)=.string s:=rfl
@[simp] theorem Oh {n:Nat} {k:IntKind} {i:Int} :cP n (.int k i)=.int k i:=rfl
@[simp] theorem Mv {n:Nat} {b:Bool} :cP n (.bool b)=.bool b:=rfl
def HJ {α:Type} (H:LH) (s:Nat) (El:α->List Value->Prop) (v:Value) (xs:List α):Prop:=
 (v=.slice none 0 0/\xs= [])\/ ∃l o c,v=.slice (some ⟨l,o,none⟩) xs.length c/\xs.length<=c/\l<H.n/\(xs≠ []-> ∃b,H.get l=some b/\o+xs.length*s<=b.cells.length/\ ∀i x,xs[i]?=some x->El x ((b.cells.drop (o+i*s)).take s))
variable {HH:Type} {enc:TypeId×Value->HH}
theorem iK {a:Addr} {k:Nat} {cs:List Value} {b0:Nat} (hk:0<k) (h:w.cells? b0 a k=some cs): ∃l o arr t f,a=⟨l,o,none⟩/\w.heap[l]?=some (.cells arr t f)/\cs=(arr.toList.drop o).take k/\o+k<=arr.size:=by
 unfold World.cells? at h;split at h
 ·have hlen:cs.length=k:=by simpa using Lib.mapM_length h
  have hi: ∀i,i<k->cs[i]?=w.cell? (a.add i):=fun i hi=>mR h i i (by simp [hi]);have e0:=hi 0 hk;have hsome: ∀i,i<k-> ∃x,cs[i]?=some x:=fun i hi=>⟨_,List.getElem?_eq_getElem (by omega)⟩
  obtain⟨x0,hx0⟩:=hsome 0 hk;obtain⟨l,o,sp⟩:=a;rw [hx0]at e0;simp only [Addr.add,if_pos,World.cell?]at e0;split at e0
  ·rename_i arr t f hw;split at e0
   ·cases e0
   ·rename_i hsp;have hsp':sp=none:=by cases sp with|none=>rfl|some x=>simp at hsp
    subst hsp'
    have hc: ∀i,i<k->cs[i]?=arr[o+i]?:=fun i h2=>by
     rw [hi i h2];unfold Addr.add;split
     ·rename_i h0;subst h0;simp [World.cell?,hw]
     ·simp [World.cell?,hw]
    have hsz:o+k<=arr.size:=by
     obtain⟨x,hx⟩:=hsome (k-1) (by omega);rw [hc (k-1) (by omega)]at hx;have:=(Array.getElem?_eq_some_iff.1 hx).1;omega
    refine⟨l,o,arr,t,f,rfl,hw,?_,hsz⟩;apply List.ext_getElem?;intro i;rw [List.getElem?_take];split
    ·rename_i h2;rw [hc i h2,List.getElem?_drop];simp
    ·rw [List.getElem?_eq_none (by omega)]
  ·cases e0
 ·cases h
theorem uo {l:Nat} {arr:Array Value} {t:TypeId} {f:Nat×Nat} (h:w.heap[l]?=some (.cells arr t f)):(LH.lift w g).get l=some ⟨arr.toList.map (cP w.heap.size),t,false⟩:=by
 show jE _ _=_;rw [h];rfl
theorem sy {α:Type} {El:α->List Value->Prop} {t e:TypeId} {base fuel s:Nat} {held:Bool} {cs:List Value} {x:DataW HH×List MemPlace} (ht:P.underlying t=some (.slice e)) (hs:P.cellsOf e=s) (h0:0<s) (hw0:0<w.heap.size)
  (hel: ∀fuel cs y,DataW.trod enc P w base (fun _=>true) held fuel e cs=some y-> ∃a,El a (cs.map (cP w.heap.size)))
  (h:DataW.trod enc P w base (fun _=>true) held fuel t cs=some x): ∃v xs,cs= [v]/\HJ (LH.lift w g) s El (cP w.heap.size v) xs/\xs.length<=maxLen:=by
 rcases DataW.trod_slice ht h with⟨rfl,rfl⟩|⟨a,len,cap,elems,rest,n,_,rfl,rfl,_,hl,hm,hlen,hat,hrest,_⟩
 ·exact⟨_,[],rfl,.inl ⟨rfl,rfl⟩,Nat.zero_le _⟩
 ·rw [hs]at hat hrest;obtain⟨hr1,hr2⟩:=hrest rfl
  have hcell: ∀i,i<len-> ∃cs' y,w.cells? base (a.add (i*s)) s=some cs'/\DataW.trod enc P w base (fun _=>true) held n e cs'=some y:=fun i hi=>by
   have:=hat i hi;rw [List.getElem?_eq_getElem (by omega)]at this;obtain⟨cs',h1,h2⟩:=Option.bind_eq_some_iff.1 this;exact⟨cs',_,h1,h2⟩
  have hmem: ∀i,i<cap-> ∃cs',w.cells? base (a.add (i*s)) s=some cs':=fun i hi=>by
   rcases Nat.lt_or_ge i len with h1|h1
   ·obtain⟨cs',_,h,_⟩:=hcell i h1;exact⟨cs',h⟩
   ·have:=hr2 (i-len) (by omega);rw [List.getElem?_eq_getElem (by omega),show len+(i-len)=i by omega]at this;obtain⟨cs',h1,h2⟩:=Option.bind_eq_some_iff.1 this;exact⟨cs',h1⟩
  have hex: ∀i:Fin len,∃x:α,∀cs',w.cells? base (a.add (i.1*s)) s=some cs'->El x (cs'.map (cP w.heap.size)):=fun i=>by
   obtain⟨cs',y,h1,h2⟩:=hcell i.1 i.2;obtain⟨x,hx⟩:=hel n cs' y h2;exact⟨x,fun cs2 h3=>by rw [h1]at h3;injection h3 with h3;subst h3;exact hx⟩
  refine⟨_,List.ofFn (fun i=>Classical.choose (hex i)),rfl,?_,by simp;omega⟩;rcases Nat.eq_zero_or_pos cap with hc|hc
  ·subst hc;obtain rfl:len=0:=by omega
   refine .inr ?_
   have: ∃l o,cP w.heap.size (.slice (some a) 0 0)=.slice (some ⟨l,o,none⟩) 0 0/\l<w.heap.size:=by
    obtain⟨l,o,sp⟩:=a;cases sp with
    |none=>
     simp only [cP];split
     ·exact⟨l,o,rfl,And.left ‹_›⟩
     ·rw [if_pos (by simp [hw0])];exact⟨0,0,rfl,hw0⟩
    |some q=>simp only [cP];rw [if_pos (by simp [hw0])];exact⟨0,0,rfl,hw0⟩
   obtain⟨l,o,e1,h1⟩:=this;exact⟨l,o,0,by simpa using e1,by simp,h1,fun hne=>by simp at hne⟩
  ·obtain⟨cs0,h00⟩:=hmem 0 hc;rw [Nat.zero_mul,show a.add 0=a from rfl]at h00;obtain⟨l,o,arr,t,f,rfl,hw,_,_⟩:=iK h0 h00;have hlt:l<w.heap.size:=(Array.getElem?_eq_some_iff.1 hw).1;refine .inr ⟨l,o,cap,by simp [cP,hlt,hl],by simpa using hl,hlt,fun hne=>⟨_,uo hw,?_,fun i y hy=>?_⟩⟩
   ·have hlen0:0<len:=by
     rcases Nat.eq_zero_or_pos len with h1|h1
     ·subst h1;simp at hne
     ·exact h1
    obtain⟨cs',y,h1,_⟩:=hcell (len-1) (by omega);obtain⟨l',o',arr',t',f',ea,hw',_,hsz⟩:=iK h0 h1
    have:l'=l/\o'=o+(len-1)*s:=by
     unfold Addr.add at ea;split at ea
     ·rename_i hz;injection ea with e1 e2;exact⟨e1.symm,by omega⟩
     ·injection ea with e1 e2;exact⟨e1.symm,e2.symm⟩
    obtain⟨rfl,rfl⟩:=this;rw [hw]at hw';injection hw' with hw';injection hw' with e1;subst e1
    have e2:len*s=(len-1)*s+s:=by
     obtain⟨m,rfl⟩: ∃m,len=m+1:=⟨len-1,by omega⟩
     rw [Nat.add_sub_cancel,Nat.succ_mul]
    simp;omega
   ·have hi:i<len:=by have:=(List.getElem?_eq_some_iff.1 hy).1;simpa using this
    obtain⟨cs',y',h1,_⟩:=hcell i hi;have hch:=Classical.choose_spec (hex ⟨i,hi⟩) cs' h1
    have hy':y=Classical.choose (hex ⟨i,hi⟩):=by
     rw [List.getElem?_ofFn]at hy;simpa [hi]using hy.symm
    rw [hy'];obtain⟨l',o',arr',t',f',ea,hw',hcs,hsz⟩:=iK h0 h1
    have:l'=l/\o'=o+i*s:=by
     unfold Addr.add at ea;split at ea
     ·rename_i hz;injection ea with e1 e2;exact⟨e1.symm,by omega⟩
     ·injection ea with e1 e2;exact⟨e1.symm,e2.symm⟩
    obtain⟨rfl,rfl⟩:=this;rw [hw]at hw';injection hw' with hw';injection hw' with e1;subst e1;subst hcs;rw [List.map_take,List.map_drop]at hch;exact hch
end
section
variable {P:Program} {E:PEnv} {Y:Option YC} {rd:Nat} {fn:Func} {k:List Item} {fr:Fr} {H H' H0:LH} {p:Option Code} {Q:PQ} {w:World}
theorem xB {x:Operand} {params:Array Tmp} {assign body:Code} {g:FuncId} {caps:Array Value} {gfn:Func} {gc:Code} (hx:ev fr x=.func (.func g) #[] caps) (hf:rF P E g gfn gc (tok H.n::caps.toList))
  (h:PR P E (some ⟨H.n,fn,fr,params.toList,assign,body⟩) 0 gfn [.code gc] (enter (tok H.n::caps.toList)) H.dead none (fun r H1 p1=>(∃v,r=.ret v)/\PR P E Y rd fn ((p1.map Item.code).toList++k) fr H1 p Q)):PR P E Y rd fn (.code (.rangeFunc x params assign body)::k) fr H p Q:=by
 obtain⟨r,H1,p1,h1,⟨v,rfl⟩,r2,H2,p2,h2,q⟩:=h;exact⟨_,_,_,.rangeF hx hf h1 h2,q⟩
theorem xC {x:Operand} {params:Array Tmp} {assign body:Code} {g:FuncId} {caps:Array Value} {gfn:Func} (hx:ev fr x=.func (.func g) #[] caps)
  (h: ∃gc,rF P E g gfn gc (tok H.n::caps.toList)/\PR P E (some ⟨H.n,fn,fr,params.toList,assign,body⟩) 0 gfn [.code gc] (enter (tok H.n::caps.toList)) H.dead none (fun r H1 p1=>(∃v,r=.ret v)/\PR P E Y rd fn ((p1.map Item.code).toList++k) fr H1 p Q)):PR P E Y rd fn (.code (.rangeFunc x params assign body)::k) fr H p Q:=by
 obtain⟨gc,hf,h⟩:=h;exact xB hx hf h
theorem AI (h:PR P E none 2 fn k fr H none (fun r H' p'=>p'=none/\Q r H' none)):PR P E none 1 fn (.beginRound::k) fr H none Q:=by
 obtain⟨r,H',p',h,rfl,q⟩:=h;exact⟨_,_,_,.beg h,q⟩
theorem AJ {Post:Option Code->LH->Prop} (h:PR P E none 1 fn k fr H none (fun r H1 p'=>p'=none/\ ∃j,r=.jump j/\Post j H1)): ∃j H1,R P E (.run none 1 fn k fr H none (.jump j) H1 none)/\Post j H1:=by
 obtain⟨r,H',p',h,rfl,j,rfl,q⟩:=h;exact⟨_,_,h,q⟩
@[simp] theorem Mw {T:Callee} {f:FuncId} {c:List Operand} :aM P T (.makeFunc (.func f) #[] ⟨c⟩) fr H=some (.func (.func f) #[] ⟨c.map (ev fr)⟩,H):=by
 show some (Value.func (.func f) ((#[]:Array Operand).map (ev fr)) ((⟨c⟩:Array Operand).map (ev fr)),H)=_;simp
@[simp] theorem Mx {T:Callee} {f:FuncId} {x:Operand} :aM P T (.makeFunc (.func f) ⟨[x]⟩ #[]) fr H=some (.func (.func f) ⟨[ev fr x]⟩ #[],H):=by
 show some (Value.func (.func f) ((⟨[x]⟩:Array Operand).map (ev fr)) ((#[]:Array Operand).map (ev fr)),H)=_;simp
@[simp] theorem Df {T:Callee} {g:FuncId} {a:Value} {args:List Value} :bE P T (.func (.func g) ⟨[a]⟩ #[]) args H=T g (a::args) H:=by
 show T g ([a]++args++(#[]:Array Value).toList) H=_;simp
@[simp] theorem ER {T:Callee} {g:FuncId} {a:Value} {c args:List Value} :bE P T (.func (.func g) #[] ⟨a::c⟩) args H=T g (args++a::c) H:=rfl
theorem dH {v:Value} (h:ao v=false):trunc H (v,H')=(v,H'):=by
 rcases cm v H H' with e|⟨_,e,_⟩
 ·exact e
 ·rw [h]at e;cases e
end
end Go.Lg
namespace Go.Proofs.YtbeoilidocfofaaGreatDoor
open Go.Lg
@[simp] theorem UH:sz Tryz.prog 0=some 1/\zr Tryz.prog 0=some (.tuple #[])/\ax Tryz.prog 0=some 1:=by and_intros<;>kernel_rfl
@[simp] theorem UI:sz Tryz.prog 2=some 1/\aF Tryz.prog 2=some false/\zr Tryz.prog 2=some (.int .i64 0)/\ax Tryz.prog 2=some 1:=by and_intros<;>kernel_rfl
@[simp] theorem UJ:sz Tryz.prog 3=some 1/\aF Tryz.prog 3=some false/\zr Tryz.prog 3=some (.int .i64 0)/\ax Tryz.prog 3=some 1:=by and_intros<;>kernel_rfl
@[simp] theorem UK:sz Tryz.prog 4=some 1/\aF Tryz.prog 4=some false/\zr Tryz.prog 4=some (.bool false)/\ax Tryz.prog 4=some 1:=by and_intros<;>kernel_rfl
@[simp] theorem UL:sz Tryz.prog 5=some 1/\aF Tryz.prog 5=some false/\zr Tryz.prog 5=some (.int .u8 0)/\ax Tryz.prog 5=some 1:=by and_intros<;>kernel_rfl
@[simp] theorem UM:sz Tryz.prog 6=some 1/\aF Tryz.prog 6=some false/\zr Tryz.prog 6=some (.int .u8 0)/\ax Tryz.prog 6=some 1:=by and_intros<;>kernel_rfl
@[simp] theorem UN:bd Tryz.prog 7=true/\aq Tryz.prog 7 0=some (0,1,false)/\aq Tryz.prog 7 1=some (1,1,false)/\aq Tryz.prog 7 2=some (2,1,false)/\aq Tryz.prog 7 3=some (3,1,false)/\sz Tryz.prog 7=some 4/\aF Tryz.prog 7=some true/\zr Tryz.prog 7=some (.agg #[.int .i64 0,.int .i64 0,.bool false,.int .u8 0])/\ax Tryz.prog 7=some 4:=by and_intros<;>kernel_rfl
@[simp] theorem UO:bd Tryz.prog 8=true/\aq Tryz.prog 8 0=some (0,1,false)/\aq Tryz.prog 8 1=some (1,1,false)/\aq Tryz.prog 8 2=some (2,1,false)/\aq Tryz.prog 8 3=some (3,1,false)/\sz Tryz.prog 8=some 4/\aF Tryz.prog 8=some true/\zr Tryz.prog 8=some (.agg #[.int .i64 0,.int .i64 0,.bool false,.int .u8 0])/\ax Tryz.prog 8=some 4:=by and_intros<;>kernel_rfl
@[simp] theorem UP:sz Tryz.prog 9=some 1/\aF Tryz.prog 9=some false/\zr Tryz.prog 9=some (.string ⟨#[]⟩)/\ax Tryz.prog 9=some 1:=by and_intros<;>kernel_rfl
@[simp] theorem Tp:sz Tryz.prog 10=some 1/\aF Tryz.prog 10=some false/\zr Tryz.prog 10=some (.string ⟨#[]⟩)/\ax Tryz.prog 10=some 1:=by and_intros<;>kernel_rfl
@[simp] theorem Tq:sz Tryz.prog 11=some 1/\aF Tryz.prog 11=some false/\zr Tryz.prog 11=some (.string ⟨#[]⟩)/\ax Tryz.prog 11=some 1:=by and_intros<;>kernel_rfl
@[simp] theorem Ts:sz Tryz.prog 12=some 1/\aF Tryz.prog 12=some false/\zr Tryz.prog 12=some (.int .u64 0)/\ax Tryz.prog 12=some 1:=by and_intros<;>kernel_rfl
@[simp] theorem Tt:bd Tryz.prog 13=true/\aq Tryz.prog 13 0=some (0,1,false)/\aq Tryz.prog 13 1=some (1,1,false)/\sz Tryz.prog 13=some 2/\aF Tryz.prog 13=some true/\zr Tryz.prog 13=some (.agg #[.string ⟨#[]⟩,.int .u64 0])/\ax Tryz.prog 13=some 2:=by and_intros<;>kernel_rfl
@[simp] theorem Tu:bd Tryz.prog 14=true/\aq Tryz.prog 14 0=some (0,1,false)/\aq Tryz.prog 14 1=some (1,1,false)/\sz Tryz.prog 14=some 2/\aF Tryz.prog 14=some true/\zr Tryz.prog 14=some (.agg #[.string ⟨#[]⟩,.int .u64 0])/\ax Tryz.prog 14=some 2:=by and_intros<;>kernel_rfl
@[simp] theorem Tv:sz Tryz.prog 15=some 1/\aF Tryz.prog 15=some false/\zr Tryz.prog 15=some (.pointer none)/\ax Tryz.prog 15=some 1:=by and_intros<;>kernel_rfl
@[simp] theorem Tw:sz Tryz.prog 16=some 1/\aF Tryz.prog 16=some false/\zr Tryz.prog 16=some (.pointer none)/\ax Tryz.prog 16=some 1:=by and_intros<;>kernel_rfl
@[simp] theorem Tx:sz Tryz.prog 17=some 1/\aF Tryz.prog 17=some false/\zr Tryz.prog 17=some (.pointer none)/\ax Tryz.prog 17=some 1:=by and_intros<;>kernel_rfl
@[simp] theorem Ty:bd Tryz.prog 18=true/\aq Tryz.prog 18 0=some (0,1,false)/\sz Tryz.prog 18=some 1/\aF Tryz.prog 18=some true/\zr Tryz.prog 18=some (.agg #[.pointer none])/\ax Tryz.prog 18=some 1:=by and_intros<;>kernel_rfl
@[simp] theorem Tz:bd Tryz.prog 19=true/\aq Tryz.prog 19 0=some (0,1,false)/\sz Tryz.prog 19=some 1/\aF Tryz.prog 19=some true/\zr Tryz.prog 19=some (.agg #[.pointer none])/\ax Tryz.prog 19=some 1:=by and_intros<;>kernel_rfl
@[simp] theorem TA:sz Tryz.prog 21=some 1/\aF Tryz.prog 21=some false/\zr Tryz.prog 21=some (.int .i32 0)/\ax Tryz.prog 21=some 1:=by and_intros<;>kernel_rfl
@[simp] theorem TB:bd Tryz.prog 22=true/\aq Tryz.prog 22 0=some (0,1,false)/\aq Tryz.prog 22 1=some (1,1,false)/\aq Tryz.prog 22 2=some (2,1,false)/\sz Tryz.prog 22=some 3/\aF Tryz.prog 22=some true/\zr Tryz.prog 22=some (.agg #[.bool false,.int .i64 0,.int .i64 0])/\ax Tryz.prog 22=some 3:=by and_intros<;>kernel_rfl
@[simp] theorem TD:bd Tryz.prog 23=true/\aq Tryz.prog 23 0=some (0,1,false)/\aq Tryz.prog 23 1=some (1,1,false)/\aq Tryz.prog 23 2=some (2,1,false)/\sz Tryz.prog 23=some 3/\aF Tryz.prog 23=some true/\zr Tryz.prog 23=some (.agg #[.bool false,.int .i64 0,.int .i64 0])/\ax Tryz.prog 23=some 3:=by and_intros<;>kernel_rfl
@[simp] theorem TE:bd Tryz.prog 24=true/\aq Tryz.prog 24 0=some (0,1,false)/\aq Tryz.prog 24 1=some (1,1,false)/\aq Tryz.prog 24 2=some (2,1,false)/\aq Tryz.prog 24 3=some (3,1,false)/\sz Tryz.prog 24=some 4/\aF Tryz.prog 24=some true/\zr Tryz.prog 24=some (.agg #[.string ⟨#[]⟩,.bool false,.bool false,.int .i64 0])/\ax Tryz.prog 24=some 4:=by and_intros<;>kernel_rfl
@[simp] theorem TF:bd Tryz.prog 25=true/\aq Tryz.prog 25 0=some (0,1,false)/\aq Tryz.prog 25 1=some (1,1,false)/\aq Tryz.prog 25 2=some (2,1,false)/\aq Tryz.prog 25 3=some (3,1,false)/\sz Tryz.prog 25=some 4/\aF Tryz.prog 25=some true/\zr Tryz.prog 25=some (.agg #[.string ⟨#[]⟩,.bool false,.bool false,.int .i64 0])/\ax Tryz.prog 25=some 4:=by and_intros<;>kernel_rfl
@[simp] theorem TG:sz Tryz.prog 26=some 1/\aF Tryz.prog 26=some false/\zr Tryz.prog 26=some (.slice none 0 0)/\ax Tryz.prog 26=some 1:=by and_intros<;>kernel_rfl
@[simp] theorem TH:bd Tryz.prog 27=true/\aq Tryz.prog 27 0=some (0,1,false)/\aq Tryz.prog 27 1=some (1,1,false)/\sz Tryz.prog 27=some 2/\aF Tryz.prog 27=some true/\zr Tryz.prog 27=some (.agg #[.int .i64 0,.slice none 0 0])/\ax Tryz.prog 27=some 2:=by and_intros<;>kernel_rfl
@[simp] theorem TI:bd Tryz.prog 28=true/\aq Tryz.prog 28 0=some (0,1,false)/\aq Tryz.prog 28 1=some (1,1,false)/\sz Tryz.prog 28=some 2/\aF Tryz.prog 28=some true/\zr Tryz.prog 28=some (.agg #[.int .i64 0,.slice none 0 0])/\ax Tryz.prog 28=some 2:=by and_intros<;>kernel_rfl
@[simp] theorem TJ:bd Tryz.prog 29=true/\aq Tryz.prog 29 0=some (0,3,true)/\aq Tryz.prog 29 1=some (3,4,true)/\aq Tryz.prog 29 2=some (7,2,true)/\aq Tryz.prog 29 3=some (9,1,false)/\sz Tryz.prog 29=some 10/\aF Tryz.prog 29=some true/\zr Tryz.prog 29=some (.agg #[.bool false,.int .i64 0,.int .i64 0,.string ⟨#[]⟩,.bool false,.bool false,.int .i64 0,.int .i64 0,.slice none 0 0,.bool false])/\ax Tryz.prog 29=some 10:=by and_intros<;>kernel_rfl
@[simp] theorem TK:bd Tryz.prog 30=true/\aq Tryz.prog 30 0=some (0,3,true)/\aq Tryz.prog 30 1=some (3,4,true)/\aq Tryz.prog 30 2=some (7,2,true)/\aq Tryz.prog 30 3=some (9,1,false)/\sz Tryz.prog 30=some 10/\aF Tryz.prog 30=some true/\zr Tryz.prog 30=some (.agg #[.bool false,.int .i64 0,.int .i64 0,.string ⟨#[]⟩,.bool false,.bool false,.int .i64 0,.int .i64 0,.slice none 0 0,.bool false])/\ax Tryz.prog 30=some 10:=by and_intros<;>kernel_rfl
@[simp] theorem TL:sz Tryz.prog 31=some 1/\aF Tryz.prog 31=some false/\zr Tryz.prog 31=some (.int .u16 0)/\ax Tryz.prog 31=some 1:=by and_intros<;>kernel_rfl
@[simp] theorem TM:bd Tryz.prog 32=true/\aq Tryz.prog 32 0=some (0,1,false)/\aq Tryz.prog 32 1=some (1,1,false)/\sz Tryz.prog 32=some 2/\aF Tryz.prog 32=some true/\zr Tryz.prog 32=some (.agg #[.int .u16 0,.string ⟨#[]⟩])/\ax Tryz.prog 32=some 2:=by and_intros<;>kernel_rfl
@[simp] theorem TN:bd Tryz.prog 33=true/\aq Tryz.prog 33 0=some (0,1,false)/\aq Tryz.prog 33 1=some (1,1,false)/\sz Tryz.prog 33=some 2/\aF Tryz.prog 33=some true/\zr Tryz.prog 33=some (.agg #[.int .u16 0,.string ⟨#[]⟩])/\ax Tryz.prog 33=some 2:=by and_intros<;>kernel_rfl
@[simp] theorem TO:bd Tryz.prog 37=true/\aq Tryz.prog 37 0=some (0,1,false)/\aq Tryz.prog 37 1=some (1,1,false)/\aq Tryz.prog 37 2=some (2,1,false)/\aq Tryz.prog 37 3=some (3,1,false)/\sz Tryz.prog 37=some 4/\aF Tryz.prog 37=some true/\zr Tryz.prog 37=some (.agg #[.int .i64 0,.string ⟨#[]⟩,.int .i64 0,.bool false])/\ax Tryz.prog 37=some 4:=by and_intros<;>kernel_rfl
@[simp] theorem TP:bd Tryz.prog 38=true/\aq Tryz.prog 38 0=some (0,1,false)/\aq Tryz.prog 38 1=some (1,1,false)/\aq Tryz.prog 38 2=some (2,1,false)/\aq Tryz.prog 38 3=some (3,1,false)/\sz Tryz.prog 38=some 4/\aF Tryz.prog 38=some true/\zr Tryz.prog 38=some (.agg #[.int .i64 0,.string ⟨#[]⟩,.int .i64 0,.bool false])/\ax Tryz.prog 38=some 4:=by and_intros<;>kernel_rfl
@[simp] theorem TQ:sz Tryz.prog 44=some 1/\zr Tryz.prog 44=some (.tuple #[.int .i64 0,.bool false])/\ax Tryz.prog 44=some 1:=by and_intros<;>kernel_rfl
@[simp] theorem TR:sz Tryz.prog 49=some 1/\aF Tryz.prog 49=some false/\zr Tryz.prog 49=some (.slice none 0 0)/\ax Tryz.prog 49=some 1:=by and_intros<;>kernel_rfl
@[simp] theorem TS:bd Tryz.prog 57=true/\aq Tryz.prog 57 0=some (0,1,false)/\aq Tryz.prog 57 1=some (1,1,false)/\sz Tryz.prog 57=some 2/\aF Tryz.prog 57=some true/\zr Tryz.prog 57=some (.agg #[.string ⟨#[]⟩,.string ⟨#[]⟩])/\ax Tryz.prog 57=some 2:=by and_intros<;>kernel_rfl
@[simp] theorem TT:bd Tryz.prog 58=true/\aq Tryz.prog 58 0=some (0,1,false)/\aq Tryz.prog 58 1=some (1,1,false)/\sz Tryz.prog 58=some 2/\aF Tryz.prog 58=some true/\zr Tryz.prog 58=some (.agg #[.string ⟨#[]⟩,.string ⟨#[]⟩])/\ax Tryz.prog 58=some 2:=by and_intros<;>kernel_rfl
@[simp] theorem TU:sz Tryz.prog 59=some 1/\aF Tryz.prog 59=some false/\zr Tryz.prog 59=some (.int .u64 0)/\ax Tryz.prog 59=some 1:=by and_intros<;>kernel_rfl
@[simp] theorem TV:sz Tryz.prog 68=some 1/\aF Tryz.prog 68=some false/\zr Tryz.prog 68=some (.slice none 0 0)/\ax Tryz.prog 68=some 1:=by and_intros<;>kernel_rfl
@[simp] theorem TW:bd Tryz.prog 69=true/\aq Tryz.prog 69 0=some (0,1,false)/\aq Tryz.prog 69 1=some (1,1,false)/\aq Tryz.prog 69 2=some (2,1,false)/\sz Tryz.prog 69=some 3/\aF Tryz.prog 69=some true/\zr Tryz.prog 69=some (.agg #[.string ⟨#[]⟩,.string ⟨#[]⟩,.slice none 0 0])/\ax Tryz.prog 69=some 3:=by and_intros<;>kernel_rfl
@[simp] theorem TX:bd Tryz.prog 70=true/\aq Tryz.prog 70 0=some (0,1,false)/\aq Tryz.prog 70 1=some (1,1,false)/\aq Tryz.prog 70 2=some (2,1,false)/\sz Tryz.prog 70=some 3/\aF Tryz.prog 70=some true/\zr Tryz.prog 70=some (.agg #[.string ⟨#[]⟩,.string ⟨#[]⟩,.slice none 0 0])/\ax Tryz.prog 70=some 3:=by and_intros<;>kernel_rfl
@[simp] theorem TY:bd Tryz.prog 71=true/\aq Tryz.prog 71 0=some (0,3,true)/\aq Tryz.prog 71 1=some (3,1,false)/\aq Tryz.prog 71 2=some (4,1,false)/\aq Tryz.prog 71 3=some (5,1,false)/\sz Tryz.prog 71=some 6/\aF Tryz.prog 71=some true/\zr Tryz.prog 71=some (.agg #[.string ⟨#[]⟩,.string ⟨#[]⟩,.slice none 0 0,.bool false,.bool false,.bool false])/\ax Tryz.prog 71=some 6:=by and_intros<;>kernel_rfl
@[simp] theorem TZ:bd Tryz.prog 72=true/\aq Tryz.prog 72 0=some (0,3,true)/\aq Tryz.prog 72 1=some (3,1,false)/\aq Tryz.prog 72 2=some (4,1,false)/\aq Tryz.prog 72 3=some (5,1,false)/\sz Tryz.prog 72=some 6/\aF Tryz.prog 72=some true/\zr Tryz.prog 72=some (.agg #[.string ⟨#[]⟩,.string ⟨#[]⟩,.slice none 0 0,.bool false,.bool false,.bool false])/\ax Tryz.prog 72=some 6:=by and_intros<;>kernel_rfl
@[simp] theorem T1:sz Tryz.prog 82=some 1/\zr Tryz.prog 82=some (.tuple #[.int .i64 0,.string ⟨#[]⟩])/\ax Tryz.prog 82=some 1:=by and_intros<;>kernel_rfl
@[simp] theorem T2:sz Tryz.prog 84=some 1/\aF Tryz.prog 84=some false/\zr Tryz.prog 84=some (.pointer none)/\ax Tryz.prog 84=some 1:=by and_intros<;>kernel_rfl
@[simp] theorem T3:sz Tryz.prog 85=some 1/\aF Tryz.prog 85=some false/\zr Tryz.prog 85=some (.int .i64 0)/\ax Tryz.prog 85=some 1:=by and_intros<;>kernel_rfl
@[simp] theorem T4:sz Tryz.prog 86=some 1/\zr Tryz.prog 86=some (.tuple #[.pointer none,.int .i64 0])/\ax Tryz.prog 86=some 1:=by and_intros<;>kernel_rfl
@[simp] theorem T5:sz Tryz.prog 90=some 1/\aF Tryz.prog 90=some false/\zr Tryz.prog 90=some (.pointer none)/\ax Tryz.prog 90=some 1:=by and_intros<;>kernel_rfl
@[simp] theorem T6:sz Tryz.prog 91=some 1/\aF Tryz.prog 91=some false/\zr Tryz.prog 91=some (.pointer none)/\ax Tryz.prog 91=some 1:=by and_intros<;>kernel_rfl
@[simp] theorem T7:bd Tryz.prog 92=true/\aq Tryz.prog 92 0=some (0,1,false)/\aq Tryz.prog 92 1=some (1,1,false)/\aq Tryz.prog 92 2=some (2,1,false)/\aq Tryz.prog 92 3=some (3,1,false)/\aq Tryz.prog 92 4=some (4,1,false)/\aq Tryz.prog 92 5=some (5,1,false)/\aq Tryz.prog 92 6=some (6,1,false)/\sz Tryz.prog 92=some 7/\aF Tryz.prog 92=some true/\zr Tryz.prog 92=some (.agg #[.pointer none,.pointer none,.int .i64 0,.string ⟨#[]⟩,.int .i64 0,.int .i64 0,.bool false])/\ax Tryz.prog 92=some 7:=by and_intros<;>kernel_rfl
@[simp] theorem T8:bd Tryz.prog 93=true/\aq Tryz.prog 93 0=some (0,1,false)/\aq Tryz.prog 93 1=some (1,1,false)/\aq Tryz.prog 93 2=some (2,1,false)/\aq Tryz.prog 93 3=some (3,1,false)/\aq Tryz.prog 93 4=some (4,1,false)/\aq Tryz.prog 93 5=some (5,1,false)/\aq Tryz.prog 93 6=some (6,1,false)/\sz Tryz.prog 93=some 7/\aF Tryz.prog 93=some true/\zr Tryz.prog 93=some (.agg #[.pointer none,.pointer none,.int .i64 0,.string ⟨#[]⟩,.int .i64 0,.int .i64 0,.bool false])/\ax Tryz.prog 93=some 7:=by and_intros<;>kernel_rfl
@[simp] theorem T9:sz Tryz.prog 94=some 1/\zr Tryz.prog 94=some (.tuple #[.agg #[.string ⟨#[]⟩,.string ⟨#[]⟩,.slice none 0 0],.bool false])/\ax Tryz.prog 94=some 1:=by and_intros<;>kernel_rfl
@[simp] theorem T_:sz Tryz.prog 96=some 1/\zr Tryz.prog 96=some (.tuple #[.string ⟨#[]⟩,.bool false])/\ax Tryz.prog 96=some 1:=by and_intros<;>kernel_rfl
@[simp] theorem RI:bd Tryz.prog 103=true/\aq Tryz.prog 103 0=some (0,1,false)/\aq Tryz.prog 103 1=some (1,1,false)/\aq Tryz.prog 103 2=some (2,1,false)/\sz Tryz.prog 103=some 3/\aF Tryz.prog 103=some true/\zr Tryz.prog 103=some (.agg #[.int .i64 0,.int .i64 0,.int .i64 0])/\ax Tryz.prog 103=some 3:=by and_intros<;>kernel_rfl
@[simp] theorem RJ:bd Tryz.prog 104=true/\aq Tryz.prog 104 0=some (0,1,false)/\aq Tryz.prog 104 1=some (1,1,false)/\aq Tryz.prog 104 2=some (2,1,false)/\sz Tryz.prog 104=some 3/\aF Tryz.prog 104=some true/\zr Tryz.prog 104=some (.agg #[.int .i64 0,.int .i64 0,.int .i64 0])/\ax Tryz.prog 104=some 3:=by and_intros<;>kernel_rfl
@[simp] theorem RL:sz Tryz.prog 105=some 1/\zr Tryz.prog 105=some (.tuple #[.agg #[.int .i64 0,.int .i64 0,.int .i64 0],.bool false])/\ax Tryz.prog 105=some 1:=by and_intros<;>kernel_rfl
@[simp] theorem RM:sz Tryz.prog 109=some 1/\zr Tryz.prog 109=some (.tuple #[.pointer none,.int .i64 0])/\ax Tryz.prog 109=some 1:=by and_intros<;>kernel_rfl
@[simp] theorem RN:sz Tryz.prog 111=some 1/\zr Tryz.prog 111=some (.tuple #[.pointer none,.int .i64 0])/\ax Tryz.prog 111=some 1:=by and_intros<;>kernel_rfl
@[simp] theorem RO:sz Tryz.prog 114=some 1/\zr Tryz.prog 114=some (.tuple #[.agg #[.string ⟨#[]⟩,.string ⟨#[]⟩,.slice none 0 0],.int .i64 0])/\ax Tryz.prog 114=some 1:=by and_intros<;>kernel_rfl
@[simp] theorem RP:sz Tryz.prog 116=some 1/\aF Tryz.prog 116=some false/\zr Tryz.prog 116=some (.slice none 0 0)/\ax Tryz.prog 116=some 1:=by and_intros<;>kernel_rfl
@[simp] theorem RQ:sz Tryz.prog 123=some 1/\zr Tryz.prog 123=some (.tuple #[.agg #[.int .i64 0,.int .i64 0,.int .i64 0],.int .i64 0])/\ax Tryz.prog 123=some 1:=by and_intros<;>kernel_rfl
@[simp] theorem RR:bd Tryz.prog 126=true/\aq Tryz.prog 126 0=some (0,1,false)/\aq Tryz.prog 126 1=some (1,1,false)/\sz Tryz.prog 126=some 2/\aF Tryz.prog 126=some true/\zr Tryz.prog 126=some (.agg #[.int .i64 0,.int .i64 0])/\ax Tryz.prog 126=some 2:=by and_intros<;>kernel_rfl
@[simp] theorem RS:bd Tryz.prog 127=true/\aq Tryz.prog 127 0=some (0,1,false)/\aq Tryz.prog 127 1=some (1,1,false)/\sz Tryz.prog 127=some 2/\aF Tryz.prog 127=some true/\zr Tryz.prog 127=some (.agg #[.int .i64 0,.int .i64 0])/\ax Tryz.prog 127=some 2:=by and_intros<;>kernel_rfl
@[simp] theorem RT:sz Tryz.prog 128=some 1/\zr Tryz.prog 128=some (.tuple #[.agg #[.int .i64 0,.int .i64 0],.bool false])/\ax Tryz.prog 128=some 1:=by and_intros<;>kernel_rfl
@[simp] theorem RU:sz Tryz.prog 130=some 1/\aF Tryz.prog 130=some false/\zr Tryz.prog 130=some (.pointer none)/\ax Tryz.prog 130=some 1:=by and_intros<;>kernel_rfl
@[simp] theorem RV:bd Tryz.prog 134=true/\aq Tryz.prog 134 0=some (0,1,false)/\aq Tryz.prog 134 1=some (1,1,false)/\aq Tryz.prog 134 2=some (2,1,false)/\aq Tryz.prog 134 3=some (3,1,false)/\aq Tryz.prog 134 4=some (4,1,false)/\aq Tryz.prog 134 5=some (5,1,false)/\aq Tryz.prog 134 6=some (6,1,false)/\aq Tryz.prog 134 7=some (7,1,false)/\aq Tryz.prog 134 8=some (8,1,false)/\aq Tryz.prog 134 9=some (9,1,false)/\sz Tryz.prog 134=some 10/\aF Tryz.prog 134=some true/\zr Tryz.prog 134=some (.agg #[.int .i64 0,.slice none 0 0,.int .i64 0,.bool false,.string ⟨#[]⟩,.int .i64 0,.bool false,.int .i64 0,.int .i64 0,.int .i64 0])/\ax Tryz.prog 134=some 10:=by and_intros<;>kernel_rfl
@[simp] theorem RX:bd Tryz.prog 135=true/\aq Tryz.prog 135 0=some (0,1,false)/\aq Tryz.prog 135 1=some (1,1,false)/\aq Tryz.prog 135 2=some (2,1,false)/\aq Tryz.prog 135 3=some (3,1,false)/\aq Tryz.prog 135 4=some (4,1,false)/\aq Tryz.prog 135 5=some (5,1,false)/\aq Tryz.prog 135 6=some (6,1,false)/\aq Tryz.prog 135 7=some (7,1,false)/\aq Tryz.prog 135 8=some (8,1,false)/\aq Tryz.prog 135 9=some (9,1,false)/\sz Tryz.prog 135=some 10/\aF Tryz.prog 135=some true/\zr Tryz.prog 135=some (.agg #[.int .i64 0,.slice none 0 0,.int .i64 0,.bool false,.string ⟨#[]⟩,.int .i64 0,.bool false,.int .i64 0,.int .i64 0,.int .i64 0])/\ax Tryz.prog 135=some 10:=by and_intros<;>kernel_rfl
@[simp] theorem RY:bd Tryz.prog 136=true/\aq Tryz.prog 136 0=some (0,1,false)/\aq Tryz.prog 136 1=some (1,1,false)/\aq Tryz.prog 136 2=some (2,1,false)/\aq Tryz.prog 136 3=some (3,1,false)/\aq Tryz.prog 136 4=some (4,1,false)/\aq Tryz.prog 136 5=some (5,1,false)/\aq Tryz.prog 136 6=some (6,1,false)/\aq Tryz.prog 136 7=some (7,1,false)/\aq Tryz.prog 136 8=some (8,1,false)/\aq Tryz.prog 136 9=some (9,1,false)/\aq Tryz.prog 136 10=some (10,1,false)/\aq Tryz.prog 136 11=some (11,1,false)/\aq Tryz.prog 136 12=some (12,1,false)/\sz Tryz.prog 136=some 13/\aF Tryz.prog 136=some true/\zr Tryz.prog 136=some (.agg #[.int .i64 0,.slice none 0 0,.int .i64 0,.int .u8 0,.bool false,.string ⟨#[]⟩,.int .i64 0,.bool false,.bool false,.int .i64 0,.int .i64 0,.int .i64 0,.int .i64 0])/\ax Tryz.prog 136=some 13:=by and_intros<;>kernel_rfl
@[simp] theorem RZ:bd Tryz.prog 137=true/\aq Tryz.prog 137 0=some (0,1,false)/\aq Tryz.prog 137 1=some (1,1,false)/\aq Tryz.prog 137 2=some (2,1,false)/\aq Tryz.prog 137 3=some (3,1,false)/\aq Tryz.prog 137 4=some (4,1,false)/\aq Tryz.prog 137 5=some (5,1,false)/\aq Tryz.prog 137 6=some (6,1,false)/\aq Tryz.prog 137 7=some (7,1,false)/\aq Tryz.prog 137 8=some (8,1,false)/\aq Tryz.prog 137 9=some (9,1,false)/\aq Tryz.prog 137 10=some (10,1,false)/\aq Tryz.prog 137 11=some (11,1,false)/\aq Tryz.prog 137 12=some (12,1,false)/\sz Tryz.prog 137=some 13/\aF Tryz.prog 137=some true/\zr Tryz.prog 137=some (.agg #[.int .i64 0,.slice none 0 0,.int .i64 0,.int .u8 0,.bool false,.string ⟨#[]⟩,.int .i64 0,.bool false,.bool false,.int .i64 0,.int .i64 0,.int .i64 0,.int .i64 0])/\ax Tryz.prog 137=some 13:=by and_intros<;>kernel_rfl
@[simp] theorem R0:sz Tryz.prog 144=some 256/\aF Tryz.prog 144=some true/\zr Tryz.prog 144=some (.agg #[.int .u8 0,.int .u8 0,.int .u8 0,.int .u8 0,.int .u8 0,.int .u8 0,.int .u8 0,.int .u8 0,.int .u8 0,.int .u8 0,.int .u8 0,.int .u8 0,.int .u8 0,.int .u8 0,.int .u8 0,.int .u8 0,.int .u8 0,.int .u8 0,.int .u8 0,.int .u8 0,.int .u8 0,.int .u8 0,.int .u8 0,.int .u8 0,.int .u8 0,.int .u8 0,.int .u8 0,.int .u8 0,.int .u8 0,.int .u8 0,.int .u8 0,.int .u8 0,.int .u8 0,.int .u8 0,.int .u8 0,.int .u8 0,.int .u8 0,.int .u8 0,.int .u8 0,.int .u8 0,.int .u8 0,.int .u8 0,.int .u8 0,.int .u8 0,.int .u8 0,.int .u8 0,.int .u8 0,.int .u8 0,.int .u8 0,.int .u8 0,.int .u8 0,.int .u8 0,.int .u8 0,.int .u8 0,.int .u8 0,.int .u8 0,.int .u8 0,.int .u8 0,.int .u8 0,.int .u8 0,.int .u8 0,.int .u8 0,.int .u8 0,.int .u8 0,.int .u8 0,.int .u8 0,.int .u8 0,.int .u8 0,.int .u8 0,.int .u8 0,.int .u8 0,.int .u8 0,.int .u8 0,.int .u8 0,.int .u8 0,.int .u8 0,.int .u8 0,.int .u8 0,.int .u8 0,.int .u8 0,.int .u8 0,.int .u8 0,.int .u8 0,.int .u8 0,.int .u8 0,.int .u8 0,.int .u8 0,.int .u8 0,.int .u8 0,.int .u8 0,.int .u8 0,.int .u8 0,.int .u8 0,.int .u8 0,.int .u8 0,.int .u8 0,.int .u8 0,.int .u8 0,.int .u8 0,.int .u8 0,.int .u8 0,.int .u8 0,.int .u8 0,.int .u8 0,.int .u8 0,.int .u8 0,.int .u8 0,.int .u8 0,.int .u8 0,.int .u8 0,.int .u8 0,.int .u8 0,.int .u8 0,.int .u8 0,.int .u8 0,.int .u8 0,.int .u8 0,.int .u8 0,.int .u8 0,.int .u8 0,.int .u8 0,.int .u8 0,.int .u8 0,.int .u8 0,.int .u8 0,.int .u8 0,.int .u8 0,.int .u8 0,.int .u8 0,.int .u8 0,.int .u8 0,.int .u8 0,.int .u8 0,.int .u8 0,.int .u8 0,.int .u8 0,.int .u8 0,.int .u8 0,.int .u8 0,.int .u8 0,.int .u8 0,.int .u8 0,.int .u8 0,.int .u8 0,.int .u8 0,.int .u8 0,.int .u8 0,.int .u8 0,.int .u8 0,.int .u8 0,.int .u8 0,.int .u8 0,.int .u8 0,.int .u8 0,.int .u8 0,.int .u8 0,.int .u8 0,.int .u8 0,.int .u8 0,.int .u8 0,.int .u8 0,.int .u8 0,.int .u8 0,.int .u8 0,.int .u8 0,.int .u8 0,.int .u8 0,.int .u8 0,.int .u8 0,.int .u8 0,.int .u8 0,.int .u8 0,.int .u8 0,.int .u8 0,.int .u8 0,.int .u8 0,.int .u8 0,.int .u8 0,.int .u8 0,.int .u8 0,.int .u8 0,.int .u8 0,.int .u8 0,.int .u8 0,.int .u8 0,.int .u8 0,.int .u8 0,.int .u8 0,.int .u8 0,.int .u8 0,.int .u8 0,.int .u8 0,.int .u8 0,.int .u8 0,.int .u8 0,.int .u8 0,.int .u8 0,.int .u8 0,.int .u8 0,.int .u8 0,.int .u8 0,.int .u8 0,.int .u8 0,.int .u8 0,.int .u8 0,.int .u8 0,.int .u8 0,.int .u8 0,.int .u8 0,.int .u8 0,.int .u8 0,.int .u8 0,.int .u8 0,.int .u8 0,.int .u8 0,.int .u8 0,.int .u8 0,.int .u8 0,.int .u8 0,.int .u8 0,.int .u8 0,.int .u8 0,.int .u8 0,.int .u8 0,.int .u8 0,.int .u8 0,.int .u8 0,.int .u8 0,.int .u8 0,.int .u8 0,.int .u8 0,.int .u8 0,.int .u8 0,.int .u8 0,.int .u8 0,.int .u8 0,.int .u8 0,.int .u8 0,.int .u8 0,.int .u8 0,.int .u8 0,.int .u8 0,.int .u8 0,.int .u8 0,.int .u8 0,.int .u8 0,.int .u8 0,.int .u8 0,.int .u8 0,.int .u8 0,.int .u8 0,.int .u8 0,.int .u8 0,.int .u8 0,.int .u8 0,.int .u8 0])/\ax Tryz.prog 144=some 256:=by and_intros<;>kernel_rfl
@[simp] theorem R1:bd Tryz.prog 148=true/\aq Tryz.prog 148 0=some (0,1,false)/\sz Tryz.prog 148=some 1/\aF Tryz.prog 148=some true/\zr Tryz.prog 148=some (.agg #[.pointer none])/\ax Tryz.prog 148=some 1:=by and_intros<;>kernel_rfl
@[simp] theorem R2:bd Tryz.prog 149=true/\aq Tryz.prog 149 0=some (0,1,false)/\sz Tryz.prog 149=some 1/\aF Tryz.prog 149=some true/\zr Tryz.prog 149=some (.agg #[.pointer none])/\ax Tryz.prog 149=some 1:=by and_intros<;>kernel_rfl
@[simp] theorem R4:sz Tryz.prog 152=some 1/\zr Tryz.prog 152=some (.tuple #[.int .i64 0,.int .i64 0])/\ax Tryz.prog 152=some 1:=by and_intros<;>kernel_rfl
@[simp] theorem R5:bd Tryz.prog 157=true/\aq Tryz.prog 157 0=some (0,1,false)/\aq Tryz.prog 157 1=some (1,1,false)/\aq Tryz.prog 157 2=some (2,1,false)/\aq Tryz.prog 157 3=some (3,1,false)/\sz Tryz.prog 157=some 4/\aF Tryz.prog 157=some true/\zr Tryz.prog 157=some (.agg #[.string ⟨#[]⟩,.string ⟨#[]⟩,.string ⟨#[]⟩,.string ⟨#[]⟩])/\ax Tryz.prog 157=some 4:=by and_intros<;>kernel_rfl
@[simp] theorem R6:bd Tryz.prog 158=true/\aq Tryz.prog 158 0=some (0,1,false)/\aq Tryz.prog 158 1=some (1,1,false)/\aq Tryz.prog 158 2=some (2,1,false)/\aq Tryz.prog 158 3=some (3,1,false)/\sz Tryz.prog 158=some 4/\aF Tryz.prog 158=some true/\zr Tryz.prog 158=some (.agg #[.string ⟨#[]⟩,.string ⟨#[]⟩,.string ⟨#[]⟩,.string ⟨#[]⟩])/\ax Tryz.prog 158=some 4:=by and_intros<;>kernel_rfl
@[simp] theorem R7:bd Tryz.prog 162=true/\aq Tryz.prog 162 0=some (0,1,false)/\aq Tryz.prog 162 1=some (1,1,false)/\sz Tryz.prog 162=some 2/\aF Tryz.prog 162=some true/\zr Tryz.prog 162=some (.agg #[.string ⟨#[]⟩,.int .i64 0])/\ax Tryz.prog 162=some 2:=by and_intros<;>kernel_rfl
@[simp] theorem R8:bd Tryz.prog 163=true/\aq Tryz.prog 163 0=some (0,1,false)/\aq Tryz.prog 163 1=some (1,1,false)/\sz Tryz.prog 163=some 2/\aF Tryz.prog 163=some true/\zr Tryz.prog 163=some (.agg #[.string ⟨#[]⟩,.int .i64 0])/\ax Tryz.prog 163=some 2:=by and_intros<;>kernel_rfl
@[simp] theorem R9:sz Tryz.prog 170=some 1/\aF Tryz.prog 170=some false/\zr Tryz.prog 170=some (.slice none 0 0)/\ax Tryz.prog 170=some 1:=by and_intros<;>kernel_rfl
@[simp] theorem R_:sz Tryz.prog 171=some 1/\aF Tryz.prog 171=some false/\zr Tryz.prog 171=some (.slice none 0 0)/\ax Tryz.prog 171=some 1:=by and_intros<;>kernel_rfl
@[simp] theorem R':sz Tryz.prog 173=some 1/\zr Tryz.prog 173=some (.tuple #[.agg #[.string ⟨#[]⟩,.string ⟨#[]⟩,.slice none 0 0],.string ⟨#[]⟩])/\ax Tryz.prog 173=some 1:=by and_intros<;>kernel_rfl
@[simp] theorem Sa:sz Tryz.prog 178=some 1/\aF Tryz.prog 178=some false/\zr Tryz.prog 178=some (.pointer none)/\ax Tryz.prog 178=some 1:=by and_intros<;>kernel_rfl
@[simp] theorem Sb:bd Tryz.prog 179=true/\aq Tryz.prog 179 0=some (0,1,false)/\aq Tryz.prog 179 1=some (1,1,false)/\sz Tryz.prog 179=some 2/\aF Tryz.prog 179=some true/\zr Tryz.prog 179=some (.agg #[.pointer none,.slice none 0 0])/\ax Tryz.prog 179=some 2:=by and_intros<;>kernel_rfl
@[simp] theorem Sc:bd Tryz.prog 180=true/\aq Tryz.prog 180 0=some (0,1,false)/\aq Tryz.prog 180 1=some (1,1,false)/\sz Tryz.prog 180=some 2/\aF Tryz.prog 180=some true/\zr Tryz.prog 180=some (.agg #[.pointer none,.slice none 0 0])/\ax Tryz.prog 180=some 2:=by and_intros<;>kernel_rfl
@[simp] theorem Sd:sz Tryz.prog 182=some 1/\aF Tryz.prog 182=some false/\zr Tryz.prog 182=some (.nilIface)/\ax Tryz.prog 182=some 1:=by and_intros<;>kernel_rfl
@[simp] theorem Se:sz Tryz.prog 183=some 1/\zr Tryz.prog 183=some (.tuple #[.int .i64 0,.nilIface])/\ax Tryz.prog 183=some 1:=by and_intros<;>kernel_rfl
@[simp] theorem Sf:sz Tryz.prog 185=some 1/\zr Tryz.prog 185=some (.tuple #[.int .u8 0,.bool false])/\ax Tryz.prog 185=some 1:=by and_intros<;>kernel_rfl
@[simp] theorem Sg:sz Tryz.prog 187=some 1/\zr Tryz.prog 187=some (.tuple #[.string ⟨#[]⟩,.string ⟨#[]⟩])/\ax Tryz.prog 187=some 1:=by and_intros<;>kernel_rfl
@[simp] theorem Sh:sz Tryz.prog 190=some 1/\aF Tryz.prog 190=some false/\zr Tryz.prog 190=some (.slice none 0 0)/\ax Tryz.prog 190=some 1:=by and_intros<;>kernel_rfl
@[simp] theorem Si:bd Tryz.prog 191=true/\aq Tryz.prog 191 0=some (0,1,false)/\aq Tryz.prog 191 1=some (1,1,false)/\sz Tryz.prog 191=some 2/\aF Tryz.prog 191=some true/\zr Tryz.prog 191=some (.agg #[.int .i64 0,.int .i64 0])/\ax Tryz.prog 191=some 2:=by and_intros<;>kernel_rfl
@[simp] theorem Sj:bd Tryz.prog 192=true/\aq Tryz.prog 192 0=some (0,1,false)/\aq Tryz.prog 192 1=some (1,1,false)/\sz Tryz.prog 192=some 2/\aF Tryz.prog 192=some true/\zr Tryz.prog 192=some (.agg #[.int .i64 0,.int .i64 0])/\ax Tryz.prog 192=some 2:=by and_intros<;>kernel_rfl
@[simp] theorem Sk:sz Tryz.prog 193=some 1/\aF Tryz.prog 193=some false/\zr Tryz.prog 193=some (.int .u32 0)/\ax Tryz.prog 193=some 1:=by and_intros<;>kernel_rfl
@[simp] theorem Sl:sz Tryz.prog 195=some 1/\aF Tryz.prog 195=some false/\zr Tryz.prog 195=some (.pointer none)/\ax Tryz.prog 195=some 1:=by and_intros<;>kernel_rfl
@[simp] theorem Sm:sz Tryz.prog 213=some 1/\aF Tryz.prog 213=some false/\zr Tryz.prog 213=some (.pointer none)/\ax Tryz.prog 213=some 1:=by and_intros<;>kernel_rfl
@[simp] theorem So:sz Tryz.prog 214=some 1/\aF Tryz.prog 214=some false/\zr Tryz.prog 214=some (.slice none 0 0)/\ax Tryz.prog 214=some 1:=by and_intros<;>kernel_rfl
@[simp] theorem Sp:sz Tryz.prog 215=some 1/\aF Tryz.prog 215=some false/\zr Tryz.prog 215=some (.slice none 0 0)/\ax Tryz.prog 215=some 1:=by and_intros<;>kernel_rfl
@[simp] theorem Sq:bd Tryz.prog 216=true/\aq Tryz.prog 216 0=some (0,1,false)/\aq Tryz.prog 216 1=some (1,1,false)/\aq Tryz.prog 216 2=some (2,1,false)/\sz Tryz.prog 216=some 3/\aF Tryz.prog 216=some true/\zr Tryz.prog 216=some (.agg #[.slice none 0 0,.slice none 0 0,.int .i64 0])/\ax Tryz.prog 216=some 3:=by and_intros<;>kernel_rfl
@[simp] theorem Sr:bd Tryz.prog 217=true/\aq Tryz.prog 217 0=some (0,1,false)/\aq Tryz.prog 217 1=some (1,1,false)/\aq Tryz.prog 217 2=some (2,1,false)/\sz Tryz.prog 217=some 3/\aF Tryz.prog 217=some true/\zr Tryz.prog 217=some (.agg #[.slice none 0 0,.slice none 0 0,.int .i64 0])/\ax Tryz.prog 217=some 3:=by and_intros<;>kernel_rfl
@[simp] theorem Ss:bd Tryz.prog 218=true/\aq Tryz.prog 218 0=some (0,1,false)/\aq Tryz.prog 218 1=some (1,1,false)/\aq Tryz.prog 218 2=some (2,1,false)/\sz Tryz.prog 218=some 3/\aF Tryz.prog 218=some true/\zr Tryz.prog 218=some (.agg #[.int .u16 0,.int .u16 0,.int .u16 0])/\ax Tryz.prog 218=some 3:=by and_intros<;>kernel_rfl
@[simp] theorem Su:bd Tryz.prog 219=true/\aq Tryz.prog 219 0=some (0,1,false)/\aq Tryz.prog 219 1=some (1,1,false)/\aq Tryz.prog 219 2=some (2,1,false)/\sz Tryz.prog 219=some 3/\aF Tryz.prog 219=some true/\zr Tryz.prog 219=some (.agg #[.int .u16 0,.int .u16 0,.int .u16 0])/\ax Tryz.prog 219=some 3:=by and_intros<;>kernel_rfl
@[simp] theorem Sv:bd Tryz.prog 221=true/\aq Tryz.prog 221 0=some (0,1,false)/\aq Tryz.prog 221 1=some (1,1,false)/\aq Tryz.prog 221 2=some (2,1,false)/\sz Tryz.prog 221=some 3/\aF Tryz.prog 221=some true/\zr Tryz.prog 221=some (.agg #[.int .u32 0,.int .u32 0,.int .u32 0])/\ax Tryz.prog 221=some 3:=by and_intros<;>kernel_rfl
@[simp] theorem Sw:bd Tryz.prog 222=true/\aq Tryz.prog 222 0=some (0,1,false)/\aq Tryz.prog 222 1=some (1,1,false)/\aq Tryz.prog 222 2=some (2,1,false)/\sz Tryz.prog 222=some 3/\aF Tryz.prog 222=some true/\zr Tryz.prog 222=some (.agg #[.int .u32 0,.int .u32 0,.int .u32 0])/\ax Tryz.prog 222=some 3:=by and_intros<;>kernel_rfl
@[simp] theorem Sx:sz Tryz.prog 227=some 1/\zr Tryz.prog 227=some (.tuple #[.int .u64 0,.int .u64 0])/\ax Tryz.prog 227=some 1:=by and_intros<;>kernel_rfl
@[simp] theorem Sy:bd Tryz.prog 229=true/\aq Tryz.prog 229 0=some (0,1,false)/\aq Tryz.prog 229 1=some (1,1,false)/\sz Tryz.prog 229=some 2/\aF Tryz.prog 229=some true/\zr Tryz.prog 229=some (.agg #[.string ⟨#[]⟩,.string ⟨#[]⟩])/\ax Tryz.prog 229=some 2:=by and_intros<;>kernel_rfl
@[simp] theorem Sz:sz Tryz.prog 230=some 1/\zr Tryz.prog 230=some (.tuple #[.agg #[.string ⟨#[]⟩,.string ⟨#[]⟩],.bool false])/\ax Tryz.prog 230=some 1:=by and_intros<;>kernel_rfl
@[simp] theorem SA:sz Tryz.prog 239=some 1/\aF Tryz.prog 239=some false/\zr Tryz.prog 239=some (.pointer none)/\ax Tryz.prog 239=some 1:=by and_intros<;>kernel_rfl
@[simp] theorem SB:sz Tryz.prog 240=some 1/\aF Tryz.prog 240=some false/\zr Tryz.prog 240=some (.pointer none)/\ax Tryz.prog 240=some 1:=by and_intros<;>kernel_rfl
@[simp] theorem SC:sz Tryz.prog 244=some 1/\zr Tryz.prog 244=some (.tuple #[.int .u32 0,.int .u32 0])/\ax Tryz.prog 244=some 1:=by and_intros<;>kernel_rfl
@[simp] theorem SD:sz Tryz.prog 246=some 1/\aF Tryz.prog 246=some false/\zr Tryz.prog 246=some (.int .u64 0)/\ax Tryz.prog 246=some 1:=by and_intros<;>kernel_rfl
@[simp] theorem SE:sz Tryz.prog 247=some 1/\zr Tryz.prog 247=some (.tuple #[.int .u64 0,.int .u64 0])/\ax Tryz.prog 247=some 1:=by and_intros<;>kernel_rfl
@[simp] theorem SF:sz Tryz.prog 251=some 1/\aF Tryz.prog 251=some false/\zr Tryz.prog 251=some (.slice none 0 0)/\ax Tryz.prog 251=some 1:=by and_intros<;>kernel_rfl
@[simp] theorem SG:sz Tryz.prog 256=some 1/\zr Tryz.prog 256=some (.tuple #[.int .i32 0,.int .i64 0])/\ax Tryz.prog 256=some 1:=by and_intros<;>kernel_rfl
@[simp] theorem SH:bd Tryz.prog 260=true/\aq Tryz.prog 260 0=some (0,1,false)/\aq Tryz.prog 260 1=some (1,1,false)/\aq Tryz.prog 260 2=some (2,1,false)/\aq Tryz.prog 260 3=some (3,1,false)/\aq Tryz.prog 260 4=some (4,1,false)/\sz Tryz.prog 260=some 5/\aF Tryz.prog 260=some true/\zr Tryz.prog 260=some (.agg #[.int .i64 0,.int .i64 0,.int .i64 0,.int .i64 0,.bool false])/\ax Tryz.prog 260=some 5:=by and_intros<;>kernel_rfl
@[simp] theorem SI:bd Tryz.prog 261=true/\aq Tryz.prog 261 0=some (0,1,false)/\aq Tryz.prog 261 1=some (1,1,false)/\aq Tryz.prog 261 2=some (2,1,false)/\aq Tryz.prog 261 3=some (3,1,false)/\aq Tryz.prog 261 4=some (4,1,false)/\sz Tryz.prog 261=some 5/\aF Tryz.prog 261=some true/\zr Tryz.prog 261=some (.agg #[.int .i64 0,.int .i64 0,.int .i64 0,.int .i64 0,.bool false])/\ax Tryz.prog 261=some 5:=by and_intros<;>kernel_rfl
@[simp] theorem SJ:sz Tryz.prog 262=some 1/\zr Tryz.prog 262=some (.tuple #[.agg #[.int .i64 0,.int .i64 0,.int .i64 0,.int .i64 0,.bool false],.int .i64 0,.bool false])/\ax Tryz.prog 262=some 1:=by and_intros<;>kernel_rfl
@[simp] theorem SK:sz Tryz.prog 264=some 1/\zr Tryz.prog 264=some (.tuple #[.agg #[.int .i64 0,.int .i64 0,.int .i64 0,.int .i64 0,.bool false],.bool false])/\ax Tryz.prog 264=some 1:=by and_intros<;>kernel_rfl
@[simp] theorem SL:sz Tryz.prog 270=some 1/\aF Tryz.prog 270=some false/\zr Tryz.prog 270=some (.nilFunc)/\ax Tryz.prog 270=some 1:=by and_intros<;>kernel_rfl
@[simp] theorem SM:bd Tryz.prog 277=true/\aq Tryz.prog 277 0=some (0,1,false)/\aq Tryz.prog 277 1=some (1,1,false)/\sz Tryz.prog 277=some 2/\aF Tryz.prog 277=some true/\zr Tryz.prog 277=some (.agg #[.int .u8 0,.int .u8 0])/\ax Tryz.prog 277=some 2:=by and_intros<;>kernel_rfl
@[simp] theorem SN:bd Tryz.prog 278=true/\aq Tryz.prog 278 0=some (0,1,false)/\aq Tryz.prog 278 1=some (1,1,false)/\sz Tryz.prog 278=some 2/\aF Tryz.prog 278=some true/\zr Tryz.prog 278=some (.agg #[.int .u8 0,.int .u8 0])/\ax Tryz.prog 278=some 2:=by and_intros<;>kernel_rfl
@[simp] theorem SO:sz Tryz.prog 279=some 32/\aF Tryz.prog 279=some true/\zr Tryz.prog 279=some (.agg #[.int .u8 0,.int .u8 0,.int .u8 0,.int .u8 0,.int .u8 0,.int .u8 0,.int .u8 0,.int .u8 0,.int .u8 0,.int .u8 0,.int .u8 0,.int .u8 0,.int .u8 0,.int .u8 0,.int .u8 0,.int .u8 0,.int .u8 0,.int .u8 0,.int .u8 0,.int .u8 0,.int .u8 0,.int .u8 0,.int .u8 0,.int .u8 0,.int .u8 0,.int .u8 0,.int .u8 0,.int .u8 0,.int .u8 0,.int .u8 0,.int .u8 0,.int .u8 0])/\ax Tryz.prog 279=some 32:=by and_intros<;>kernel_rfl
@[simp] theorem SP:sz Tryz.prog 281=some 1/\zr Tryz.prog 281=some (.tuple #[.int .u32 0,.agg #[.int .i64 0,.int .i64 0]])/\ax Tryz.prog 281=some 1:=by and_intros<;>kernel_rfl
@[simp] theorem SQ:bd Tryz.prog 286=true/\aq Tryz.prog 286 0=some (0,1,false)/\aq Tryz.prog 286 1=some (1,1,false)/\aq Tryz.prog 286 2=some (2,1,false)/\aq Tryz.prog 286 3=some (3,1,false)/\sz Tryz.prog 286=some 4/\aF Tryz.prog 286=some true/\zr Tryz.prog 286=some (.agg #[.pointer none,.pointer none,.pointer none,.string ⟨#[]⟩])/\ax Tryz.prog 286=some 4:=by and_intros<;>kernel_rfl
@[simp] theorem SR:bd Tryz.prog 287=true/\aq Tryz.prog 287 0=some (0,1,false)/\aq Tryz.prog 287 1=some (1,1,false)/\aq Tryz.prog 287 2=some (2,1,false)/\aq Tryz.prog 287 3=some (3,1,false)/\sz Tryz.prog 287=some 4/\aF Tryz.prog 287=some true/\zr Tryz.prog 287=some (.agg #[.pointer none,.pointer none,.pointer none,.string ⟨#[]⟩])/\ax Tryz.prog 287=some 4:=by and_intros<;>kernel_rfl
@[simp] theorem SS:sz Tryz.prog 288=some 0/\aF Tryz.prog 288=some true/\zr Tryz.prog 288=some (.agg #[]):=by and_intros<;>kernel_rfl
@[simp] theorem SU:bd Tryz.prog 289=true/\aq Tryz.prog 289 0=some (0,0,true)/\sz Tryz.prog 289=some 0/\aF Tryz.prog 289=some true/\zr Tryz.prog 289=some (.agg #[]):=by and_intros<;>kernel_rfl
@[simp] theorem SV:bd Tryz.prog 290=true/\aq Tryz.prog 290 0=some (0,0,true)/\sz Tryz.prog 290=some 0/\aF Tryz.prog 290=some true/\zr Tryz.prog 290=some (.agg #[]):=by and_intros<;>kernel_rfl
@[simp] theorem SW:sz Tryz.prog 291=some 1/\aF Tryz.prog 291=some false/\zr Tryz.prog 291=some (.int .u8 0)/\ax Tryz.prog 291=some 1:=by and_intros<;>kernel_rfl
@[simp] theorem SX:sz Tryz.prog 292=some 1/\aF Tryz.prog 292=some false/\zr Tryz.prog 292=some (.int .u8 0)/\ax Tryz.prog 292=some 1:=by and_intros<;>kernel_rfl
@[simp] theorem SY:sz Tryz.prog 294=some 1/\aF Tryz.prog 294=some false/\zr Tryz.prog 294=some (.int .i32 0)/\ax Tryz.prog 294=some 1:=by and_intros<;>kernel_rfl
@[simp] theorem SZ:sz Tryz.prog 295=some 1/\aF Tryz.prog 295=some false/\zr Tryz.prog 295=some (.int .i32 0)/\ax Tryz.prog 295=some 1:=by and_intros<;>kernel_rfl
@[simp] theorem S0:bd Tryz.prog 296=true/\aq Tryz.prog 296 0=some (0,1,false)/\aq Tryz.prog 296 1=some (1,1,false)/\aq Tryz.prog 296 2=some (2,1,false)/\aq Tryz.prog 296 3=some (3,1,false)/\aq Tryz.prog 296 4=some (4,1,false)/\aq Tryz.prog 296 5=some (5,1,false)/\aq Tryz.prog 296 6=some (6,1,false)/\aq Tryz.prog 296 7=some (7,1,false)/\aq Tryz.prog 296 8=some (8,1,false)/\aq Tryz.prog 296 9=some (9,1,false)/\aq Tryz.prog 296 10=some (10,1,false)/\sz Tryz.prog 296=some 11/\aF Tryz.prog 296=some true/\zr Tryz.prog 296=some (.agg #[.int .u64 0,.int .u64 0,.int .u32 0,.int .u8 0,.int .u8 0,.int .u8 0,.int .u8 0,.nilFunc,.pointer none,.int .i32 0,.int .i32 0])/\ax Tryz.prog 296=some 11:=by and_intros<;>kernel_rfl
@[simp] theorem S1:bd Tryz.prog 297=true/\aq Tryz.prog 297 0=some (0,1,false)/\aq Tryz.prog 297 1=some (1,1,false)/\aq Tryz.prog 297 2=some (2,1,false)/\aq Tryz.prog 297 3=some (3,1,false)/\aq Tryz.prog 297 4=some (4,1,false)/\aq Tryz.prog 297 5=some (5,1,false)/\aq Tryz.prog 297 6=some (6,1,false)/\aq Tryz.prog 297 7=some (7,1,false)/\aq Tryz.prog 297 8=some (8,1,false)/\aq Tryz.prog 297 9=some (9,1,false)/\aq Tryz.prog 297 10=some (10,1,false)/\sz Tryz.prog 297=some 11/\aF Tryz.prog 297=some true/\zr Tryz.prog 297=some (.agg #[.int .u64 0,.int .u64 0,.int .u32 0,.int .u8 0,.int .u8 0,.int .u8 0,.int .u8 0,.nilFunc,.pointer none,.int .i32 0,.int .i32 0])/\ax Tryz.prog 297=some 11:=by and_intros<;>kernel_rfl
attribute [simp] Tryz.underlying0 Tryz.underlying1 Tryz.underlying2 Tryz.underlying3 Tryz.underlying4 Tryz.underlying5 Tryz.underlying6 Tryz.underlying9 Tryz.underlying10 Tryz.underlying11 Tryz.underlying12 Tryz.underlying15 Tryz.underlying16 Tryz.underlying17 Tryz.underlying20 Tryz.underlying21 Tryz.underlying26 Tryz.underlying31 Tryz.underlying34 Tryz.underlying35 Tryz.underlying36 Tryz.underlying39 Tryz.underlying40 Tryz.underlying41 Tryz.underlying42 Tryz.underlying43 Tryz.underlying44 Tryz.underlying45 Tryz.underlying46 Tryz.underlying47 Tryz.underlying48 Tryz.underlying49 Tryz.underlying50 Tryz.underlying51 Tryz.underlying52 Tryz.underlying53 Tryz.underlying54 Tryz.underlying55 Tryz.underlying56 Tryz.underlying59
attribute [simp] Tryz.underlying60 Tryz.underlying61 Tryz.underlying62 Tryz.underlying63 Tryz.underlying64 Tryz.underlying65 Tryz.underlying66 Tryz.underlying67 Tryz.underlying68 Tryz.underlying73 Tryz.underlying74 Tryz.underlying75 Tryz.underlying76 Tryz.underlying77 Tryz.underlying78 Tryz.underlying79 Tryz.underlying80 Tryz.underlying81 Tryz.underlying82 Tryz.underlying83 Tryz.underlying84 Tryz.underlying85 Tryz.underlying86 Tryz.underlying87 Tryz.underlying88 Tryz.underlying89 Tryz.underlying90 Tryz.underlying91 Tryz.underlying94 Tryz.underlying95 Tryz.underlying96 Tryz.underlying97 Tryz.underlying98 Tryz.underlying99 Tryz.underlying100 Tryz.underlying101 Tryz.underlying102 Tryz.underlying105 Tryz.underlying106 Tryz.underlying107
attribute [simp] Tryz.underlying108 Tryz.underlying109 Tryz.underlying110 Tryz.underlying111 Tryz.underlying112 Tryz.underlying113 Tryz.underlying114 Tryz.underlying115 Tryz.underlying116 Tryz.underlying117 Tryz.underlying118 Tryz.underlying119 Tryz.underlying120 Tryz.underlying121 Tryz.underlying122 Tryz.underlying123 Tryz.underlying124 Tryz.underlying125 Tryz.underlying128 Tryz.underlying129 Tryz.underlying130 Tryz.underlying131 Tryz.underlying132 Tryz.underlying133 Tryz.underlying138 Tryz.underlying139 Tryz.underlying140 Tryz.underlying141 Tryz.underlying142 Tryz.underlying143 Tryz.underlying144 Tryz.underlying145 Tryz.underlying146 Tryz.underlying147 Tryz.underlying150 Tryz.underlying151 Tryz.underlying152 Tryz.underlying153 Tryz.underlying154 Tryz.underlying155
attribute [simp] Tryz.underlying156 Tryz.underlying159 Tryz.underlying160 Tryz.underlying161 Tryz.underlying164 Tryz.underlying165 Tryz.underlying166 Tryz.underlying167 Tryz.underlying168 Tryz.underlying169 Tryz.underlying170 Tryz.underlying171 Tryz.underlying172 Tryz.underlying173 Tryz.underlying174 Tryz.underlying175 Tryz.underlying176 Tryz.underlying177 Tryz.underlying178 Tryz.underlying181 Tryz.underlying182 Tryz.underlying183 Tryz.underlying184 Tryz.underlying185 Tryz.underlying186 Tryz.underlying187 Tryz.underlying188 Tryz.underlying189 Tryz.underlying190 Tryz.underlying193 Tryz.underlying194 Tryz.underlying195 Tryz.underlying196 Tryz.underlying197 Tryz.underlying198 Tryz.underlying199 Tryz.underlying200 Tryz.underlying201 Tryz.underlying202 Tryz.underlying203
attribute [simp] Tryz.underlying204 Tryz.underlying205 Tryz.underlying206 Tryz.underlying207 Tryz.underlying208 Tryz.underlying209 Tryz.underlying210 Tryz.underlying211 Tryz.underlying212 Tryz.underlying213 Tryz.underlying214 Tryz.underlying215 Tryz.underlying220 Tryz.underlying223 Tryz.underlying224 Tryz.underlying225 Tryz.underlying226 Tryz.underlying227 Tryz.underlying228 Tryz.underlying230 Tryz.underlying231 Tryz.underlying232 Tryz.underlying233 Tryz.underlying234 Tryz.underlying235 Tryz.underlying236 Tryz.underlying237 Tryz.underlying238 Tryz.underlying239 Tryz.underlying240 Tryz.underlying241 Tryz.underlying242 Tryz.underlying243 Tryz.underlying244 Tryz.underlying245 Tryz.underlying246 Tryz.underlying247 Tryz.underlying248 Tryz.underlying249 Tryz.underlying250
attribute [simp] Tryz.underlying251 Tryz.underlying252 Tryz.underlying253 Tryz.underlying254 Tryz.underlying255 Tryz.underlying256 Tryz.underlying257 Tryz.underlying258 Tryz.underlying259 Tryz.underlying262 Tryz.underlying263 Tryz.underlying264 Tryz.underlying265 Tryz.underlying266 Tryz.underlying267 Tryz.underlying268 Tryz.underlying269 Tryz.underlying270 Tryz.underlying271 Tryz.underlying272 Tryz.underlying273 Tryz.underlying274 Tryz.underlying275 Tryz.underlying276 Tryz.underlying279 Tryz.underlying280 Tryz.underlying281 Tryz.underlying282 Tryz.underlying283 Tryz.underlying284 Tryz.underlying285 Tryz.underlying288 Tryz.underlying291 Tryz.underlying292 Tryz.underlying293 Tryz.underlying294 Tryz.underlying295 Tryz.results0 Tryz.ntmps0 Tryz.results1
attribute [simp] Tryz.ntmps1 Tryz.results2 Tryz.ntmps2 Tryz.results3 Tryz.ntmps3 Tryz.results4 Tryz.ntmps4 Tryz.results5 Tryz.ntmps5 Tryz.results6 Tryz.ntmps6 Tryz.results7 Tryz.ntmps7 Tryz.results8 Tryz.ntmps8 Tryz.results9 Tryz.ntmps9 Tryz.results10 Tryz.ntmps10 Tryz.results11 Tryz.ntmps11 Tryz.results12 Tryz.ntmps12 Tryz.results13 Tryz.ntmps13 Tryz.results14 Tryz.ntmps14 Tryz.results15 Tryz.ntmps15 Tryz.results16 Tryz.ntmps16 Tryz.results17 Tryz.ntmps17 Tryz.results18 Tryz.ntmps18 Tryz.results19 Tryz.ntmps19 Tryz.results20 Tryz.ntmps20 Tryz.results21
attribute [simp] Tryz.ntmps21 Tryz.results22 Tryz.ntmps22 Tryz.results23 Tryz.ntmps23 Tryz.results24 Tryz.ntmps24 Tryz.results25 Tryz.ntmps25 Tryz.results26 Tryz.ntmps26 Tryz.results27 Tryz.ntmps27 Tryz.results28 Tryz.ntmps28 Tryz.results29 Tryz.ntmps29 Tryz.results30 Tryz.ntmps30 Tryz.results31 Tryz.ntmps31 Tryz.results32 Tryz.ntmps32 Tryz.results33 Tryz.ntmps33 Tryz.results34 Tryz.ntmps34 Tryz.results35 Tryz.ntmps35 Tryz.results36 Tryz.ntmps36 Tryz.results37 Tryz.ntmps37 Tryz.results38 Tryz.ntmps38 Tryz.results39 Tryz.ntmps39 Tryz.results40 Tryz.ntmps40 Tryz.results41
attribute [simp] Tryz.ntmps41 Tryz.results42 Tryz.ntmps42 Tryz.results43 Tryz.ntmps43 Tryz.results44 Tryz.ntmps44 Tryz.results45 Tryz.ntmps45 Tryz.results46 Tryz.ntmps46 Tryz.results47 Tryz.ntmps47 Tryz.results48 Tryz.ntmps48 Tryz.results49 Tryz.ntmps49 Tryz.results50 Tryz.ntmps50 Tryz.results51 Tryz.ntmps51 Tryz.results52 Tryz.ntmps52 Tryz.results53 Tryz.ntmps53 Tryz.results54 Tryz.ntmps54 Tryz.results55 Tryz.ntmps55 Tryz.results56 Tryz.ntmps56 Tryz.results57 Tryz.ntmps57 Tryz.results58 Tryz.ntmps58 Tryz.results59 Tryz.ntmps59 Tryz.results60 Tryz.ntmps60 Tryz.results61
attribute [simp] Tryz.ntmps61 Tryz.results62 Tryz.ntmps62 Tryz.results63 Tryz.ntmps63 Tryz.results64 Tryz.ntmps64 Tryz.results65 Tryz.ntmps65 Tryz.results66 Tryz.ntmps66 Tryz.results67 Tryz.ntmps67 Tryz.results68 Tryz.ntmps68 Tryz.results69 Tryz.ntmps69 Tryz.results70 Tryz.ntmps70 Tryz.results71 Tryz.ntmps71 Tryz.results72 Tryz.ntmps72 Tryz.results73 Tryz.ntmps73 Tryz.results74 Tryz.ntmps74 Tryz.results75 Tryz.ntmps75 Tryz.results76 Tryz.ntmps76 Tryz.results77 Tryz.ntmps77 Tryz.results78 Tryz.ntmps78 Tryz.results79 Tryz.ntmps79 Tryz.results80 Tryz.ntmps80 Tryz.results81
attribute [simp] Tryz.ntmps81 Tryz.results82 Tryz.ntmps82 Tryz.results83 Tryz.ntmps83 Tryz.results84 Tryz.ntmps84 Tryz.results85 Tryz.ntmps85 Tryz.results86 Tryz.ntmps86 Tryz.results87 Tryz.ntmps87 Tryz.results88 Tryz.ntmps88 Tryz.results89 Tryz.ntmps89 Tryz.results90 Tryz.ntmps90 Tryz.results91 Tryz.ntmps91 Tryz.results92 Tryz.ntmps92 Tryz.results93 Tryz.ntmps93 Tryz.results94 Tryz.ntmps94 Tryz.results95 Tryz.ntmps95 Tryz.results96 Tryz.ntmps96 Tryz.results97 Tryz.ntmps97 Tryz.results98 Tryz.ntmps98 Tryz.results99 Tryz.ntmps99 Tryz.results100 Tryz.ntmps100 Tryz.results101
attribute [simp] Tryz.ntmps101 Tryz.results102 Tryz.ntmps102 Tryz.results103 Tryz.ntmps103 Tryz.results104 Tryz.ntmps104 Tryz.results105 Tryz.ntmps105 Tryz.results106 Tryz.ntmps106 Tryz.results107 Tryz.ntmps107 Tryz.results108 Tryz.ntmps108 Tryz.results109 Tryz.ntmps109 Tryz.results110 Tryz.ntmps110 Tryz.results111 Tryz.ntmps111 Tryz.results112 Tryz.ntmps112 Tryz.results113 Tryz.ntmps113 Tryz.results114 Tryz.ntmps114 Tryz.results115 Tryz.ntmps115 Tryz.results116 Tryz.ntmps116 Tryz.results117 Tryz.ntmps117 Tryz.results118 Tryz.ntmps118 Tryz.results119 Tryz.ntmps119 Tryz.results120 Tryz.ntmps120 Tryz.results121
attribute [simp] Tryz.ntmps121 Tryz.results122 Tryz.ntmps122 Tryz.results123 Tryz.ntmps123 Tryz.results124 Tryz.ntmps124 Tryz.results125 Tryz.ntmps125 Tryz.results126 Tryz.ntmps126 Tryz.results127 Tryz.ntmps127 Tryz.results128 Tryz.ntmps128 Tryz.results129 Tryz.ntmps129 Tryz.results130 Tryz.ntmps130 Tryz.results131 Tryz.ntmps131 Tryz.results132 Tryz.ntmps132 Tryz.results133 Tryz.ntmps133 Tryz.results134 Tryz.ntmps134 Tryz.results135 Tryz.ntmps135 Tryz.results136 Tryz.ntmps136 Tryz.results137 Tryz.ntmps137 Tryz.results138 Tryz.ntmps138 Tryz.results139 Tryz.ntmps139 Tryz.results140 Tryz.ntmps140 Tryz.results141
attribute [simp] Tryz.ntmps141 Tryz.results142 Tryz.ntmps142 Tryz.results143 Tryz.ntmps143 Tryz.results144 Tryz.ntmps144 Tryz.results145 Tryz.ntmps145 Tryz.results146 Tryz.ntmps146 Tryz.results147 Tryz.ntmps147 Tryz.results148 Tryz.ntmps148 Tryz.results149 Tryz.ntmps149 Tryz.results150 Tryz.ntmps150 Tryz.results151 Tryz.ntmps151 Tryz.results152 Tryz.ntmps152 Tryz.results153 Tryz.ntmps153 Tryz.results154 Tryz.ntmps154 Tryz.results155 Tryz.ntmps155 Tryz.results156 Tryz.ntmps156 Tryz.results157 Tryz.ntmps157 Tryz.results158 Tryz.ntmps158 Tryz.results159 Tryz.ntmps159 Tryz.results160 Tryz.ntmps160 Tryz.results161
attribute [simp] Tryz.ntmps161 Tryz.results162 Tryz.ntmps162 Tryz.results163 Tryz.ntmps163 Tryz.results164 Tryz.ntmps164 Tryz.results165 Tryz.ntmps165 Tryz.results166 Tryz.ntmps166 Tryz.results167 Tryz.ntmps167 Tryz.results168 Tryz.ntmps168 Tryz.results169 Tryz.ntmps169 Tryz.results170 Tryz.ntmps170 Tryz.results171 Tryz.ntmps171 Tryz.results172 Tryz.ntmps172 Tryz.results173 Tryz.ntmps173 Tryz.results174 Tryz.ntmps174 Tryz.results175 Tryz.ntmps175 Tryz.results176 Tryz.ntmps176 Tryz.results177 Tryz.ntmps177 Tryz.results178 Tryz.ntmps178 Tryz.results179 Tryz.ntmps179 Tryz.results180 Tryz.ntmps180 Tryz.results181
attribute [simp] Tryz.ntmps181 Tryz.results182 Tryz.ntmps182 Tryz.results183 Tryz.ntmps183 Tryz.results184 Tryz.ntmps184 Tryz.results185 Tryz.ntmps185 Tryz.results186 Tryz.ntmps186 Tryz.results187 Tryz.ntmps187 Tryz.results188 Tryz.ntmps188 Tryz.results189 Tryz.ntmps189 Tryz.results190 Tryz.ntmps190 Tryz.results191 Tryz.ntmps191 Tryz.results192 Tryz.ntmps192 Tryz.results193 Tryz.ntmps193 Tryz.results194 Tryz.ntmps194 Tryz.results195 Tryz.ntmps195 Tryz.results196 Tryz.ntmps196 Tryz.results197 Tryz.ntmps197 Tryz.results198 Tryz.ntmps198 Tryz.results199 Tryz.ntmps199 Tryz.results200 Tryz.ntmps200 Tryz.results201
attribute [simp] Tryz.ntmps201 Tryz.results202 Tryz.ntmps202 Tryz.results203 Tryz.ntmps203 Tryz.results204 Tryz.ntmps204 Tryz.results205 Tryz.ntmps205 Tryz.results206 Tryz.ntmps206 Tryz.results207 Tryz.ntmps207 Tryz.results208 Tryz.ntmps208 Tryz.results209 Tryz.ntmps209 Tryz.results210 Tryz.ntmps210 Tryz.results211 Tryz.ntmps211 Tryz.results212 Tryz.ntmps212 Tryz.results213 Tryz.ntmps213 Tryz.results214 Tryz.ntmps214 Tryz.results215 Tryz.ntmps215 Tryz.results216 Tryz.ntmps216 Tryz.results217 Tryz.ntmps217 Tryz.results218 Tryz.ntmps218 Tryz.results219 Tryz.ntmps219 Tryz.results220 Tryz.ntmps220 Tryz.results221
attribute [simp] Tryz.ntmps221 Tryz.results222 Tryz.ntmps222 Tryz.results223 Tryz.ntmps223 Tryz.results224 Tryz.ntmps224 Tryz.results225 Tryz.ntmps225 Tryz.results226 Tryz.ntmps226 Tryz.results227 Tryz.ntmps227 Tryz.results228 Tryz.ntmps228 Tryz.results229 Tryz.ntmps229 Tryz.results230 Tryz.ntmps230 Tryz.results231 Tryz.ntmps231 Tryz.results232 Tryz.ntmps232 Tryz.results233 Tryz.ntmps233 Tryz.results234 Tryz.ntmps234 Tryz.results235 Tryz.ntmps235 Tryz.results236 Tryz.ntmps236 Tryz.results237 Tryz.ntmps237 Tryz.results238 Tryz.ntmps238 Tryz.results239 Tryz.ntmps239 Tryz.results240 Tryz.ntmps240 Tryz.results241
attribute [simp] Tryz.ntmps241 Tryz.results242 Tryz.ntmps242 Tryz.results243 Tryz.ntmps243 Tryz.results244 Tryz.ntmps244 Tryz.results245 Tryz.ntmps245 Tryz.results246 Tryz.ntmps246 Tryz.results247 Tryz.ntmps247 Tryz.results248 Tryz.ntmps248 Tryz.results249 Tryz.ntmps249 Tryz.results250 Tryz.ntmps250 Tryz.results251 Tryz.ntmps251 Tryz.results252 Tryz.ntmps252 Tryz.results253 Tryz.ntmps253 Tryz.results254 Tryz.ntmps254 Tryz.results255 Tryz.ntmps255 Tryz.results256 Tryz.ntmps256 Tryz.results257 Tryz.ntmps257 Tryz.results258 Tryz.ntmps258 Tryz.results259 Tryz.ntmps259 Tryz.results260 Tryz.ntmps260 Tryz.results261
attribute [simp] Tryz.ntmps261 Tryz.results262 Tryz.ntmps262 Tryz.results263 Tryz.ntmps263 Tryz.results264 Tryz.ntmps264 Tryz.results265 Tryz.ntmps265 Tryz.results266 Tryz.ntmps266 Tryz.results267 Tryz.ntmps267 Tryz.results268 Tryz.ntmps268 Tryz.results269 Tryz.ntmps269 Tryz.results270 Tryz.ntmps270 Tryz.results271 Tryz.ntmps271 Tryz.results272 Tryz.ntmps272 Tryz.results273 Tryz.ntmps273 Tryz.results274 Tryz.ntmps274 Tryz.results275 Tryz.ntmps275 Tryz.results276 Tryz.ntmps276 Tryz.results277 Tryz.ntmps277 Tryz.results278 Tryz.ntmps278 Tryz.results279 Tryz.ntmps279 Tryz.results280 Tryz.ntmps280 Tryz.results281
attribute [simp] Tryz.ntmps281 Tryz.results282 Tryz.ntmps282 Tryz.results283 Tryz.ntmps283 Tryz.results284 Tryz.ntmps284 Tryz.results285 Tryz.ntmps285 Tryz.results286 Tryz.ntmps286 Tryz.results287 Tryz.ntmps287 Tryz.results288 Tryz.ntmps288 Tryz.results289 Tryz.ntmps289 Tryz.results290 Tryz.ntmps290 Tryz.results291 Tryz.ntmps291 Tryz.results292 Tryz.ntmps292 Tryz.results293 Tryz.ntmps293 Tryz.results294 Tryz.ntmps294 Tryz.results295 Tryz.ntmps295 Tryz.results296 Tryz.ntmps296 Tryz.results297 Tryz.ntmps297 Tryz.results298 Tryz.ntmps298 Tryz.results299 Tryz.ntmps299 Tryz.results300 Tryz.ntmps300 Tryz.results301
attribute [simp] Tryz.ntmps301 Tryz.results302 Tryz.ntmps302 Tryz.results303 Tryz.ntmps303 Tryz.results304 Tryz.ntmps304 Tryz.results305 Tryz.ntmps305 Tryz.results306 Tryz.ntmps306 Tryz.results307 Tryz.ntmps307 Tryz.results308 Tryz.ntmps308 Tryz.results309 Tryz.ntmps309 Tryz.results310 Tryz.ntmps310 Tryz.results311 Tryz.ntmps311 Tryz.results312 Tryz.ntmps312 Tryz.results313 Tryz.ntmps313 Tryz.results314 Tryz.ntmps314 Tryz.results315 Tryz.ntmps315 Tryz.results316 Tryz.ntmps316 Tryz.results317 Tryz.ntmps317 Tryz.results318 Tryz.ntmps318 Tryz.results319 Tryz.ntmps319 Tryz.results320 Tryz.ntmps320 Tryz.results321
attribute [simp] Tryz.ntmps321 Tryz.results322 Tryz.ntmps322 Tryz.results323 Tryz.ntmps323 Tryz.results324 Tryz.ntmps324 Tryz.results325 Tryz.ntmps325 Tryz.results326 Tryz.ntmps326 Tryz.results327 Tryz.ntmps327 Tryz.results328 Tryz.ntmps328 Tryz.results329 Tryz.ntmps329 Tryz.results330 Tryz.ntmps330 Tryz.results331 Tryz.ntmps331 Tryz.results332 Tryz.ntmps332 Tryz.results333 Tryz.ntmps333 Tryz.results334 Tryz.ntmps334 Tryz.results335 Tryz.ntmps335 Tryz.results336 Tryz.ntmps336 Tryz.results337 Tryz.ntmps337 Tryz.results338 Tryz.ntmps338 Tryz.results339 Tryz.ntmps339 Tryz.results340 Tryz.ntmps340 Tryz.results341
attribute [simp] Tryz.ntmps341 Tryz.results342 Tryz.ntmps342 Tryz.results343 Tryz.ntmps343 Tryz.results344 Tryz.ntmps344 Tryz.results345 Tryz.ntmps345 Tryz.results346 Tryz.ntmps346 Tryz.results347 Tryz.ntmps347 Tryz.results348 Tryz.ntmps348 Tryz.results349 Tryz.ntmps349 Tryz.results350 Tryz.ntmps350 Tryz.results351 Tryz.ntmps351 Tryz.results352 Tryz.ntmps352 Tryz.results353 Tryz.ntmps353 Tryz.results354 Tryz.ntmps354 Tryz.results355 Tryz.ntmps355 Tryz.results356 Tryz.ntmps356
theorem mixed:Tryz.prog.follows .mixedOrders=true:=by kernel_rfl
end Go.Proofs.YtbeoilidocfofaaGreatDoor
namespace Go.Lg
open Go.Tg Go.RowKit
section
variable {P:Program} {H H':LH} {v x:Value} {xs new:List Value} {e t:TypeId} {N n m s:Nat} {b:LB}
def bA (N:Nat) (H:LH) (e:TypeId) (s:Nat) (v:Value) (n:Nat) (xs:List Value):Prop:=
 xs.length=n*s/\((v=.slice none 0 0/\n=0)\/ ∃k c rest,v=sl k n c/\N<=k/\k<H.n/\H.get k=some ⟨xs++rest,e,true⟩/\n<=c/\(xs++rest).length=c*s)
theorem bA.nil:bA N H e s (.slice none 0 0) 0 []:=⟨by simp,.inl ⟨rfl,rfl⟩⟩
theorem bA.lt (h:bA N H e s v n xs):xs.length=n*s:=h.1
theorem bA.len (h:bA N H e s v n xs) (hu:P.underlying t=some (.slice e)):aI P .len [t] [v] H'=some (.int .i64 n,H'):=by
 rcases h.2 with⟨rfl,rfl⟩|⟨k,c,rest,rfl,_⟩
 ·exact bf hu
 ·exact bf hu
theorem bA.cell (h:bA N H e s v n xs):aC v=true:=by
 rcases h.2 with⟨rfl,rfl⟩|⟨k,c,rest,rfl,_⟩<;>simp
theorem bA.keep (h:bA N H e s v n xs) (hn:H.n<=H'.n) (hk: ∀k,N<=k-> ¬ay v k->k<H.n->H'.get k=H.get k):bA N H' e s v n xs:=by
 refine⟨h.1,?_⟩;rcases h.2 with⟨rfl,rfl⟩|⟨k,c,rest,rfl,h1,h2,h3,h4,h5⟩
 ·exact .inl ⟨rfl,rfl⟩
 ·exact .inr ⟨k,c,rest,rfl,h1,by omega,by rw [hk k h1 (fun h=>h _ _ rfl) h2];exact h3,h4,h5⟩
theorem bA.off_of_elem (h:bA N H e s v n xs) {l:Nat} (hl:H.get l=some b) (hne:b.elem≠e):ay v l:=by
 rcases h.2 with⟨rfl,rfl⟩|⟨k,c,rest,rfl,_,_,h2,_⟩
 ·exact df
 ·intro n c h;injection h with h;injection h with h;injection h with h;subst h;rw [h2]at hl;injection hl with hl;subst hl;exact hne rfl
theorem bA.off_ge (h:bA N H e s v n xs) {l:Nat} (hl:H.n<=l):ay v l:=by
 rcases h.2 with⟨rfl,rfl⟩|⟨k,c,rest,rfl,_,h1,_⟩
 ·exact df
 ·intro n c h;injection h with h;injection h with h;injection h with h;omega
theorem bA.off_lt (h:bA N H e s v n xs) {l:Nat} (hl:l<N):ay v l:=by
 rcases h.2 with⟨rfl,rfl⟩|⟨k,c,rest,rfl,h1,_⟩
 ·exact df
 ·intro n c h;injection h with h;injection h with h;injection h with h;omega
def Full (v:Value):Prop:= ∀k n c,v=sl k n c->c=n
theorem jF {k n:Nat} :Full (sl k n n):=fun k' n' c' h=>by
 injection h with _ h1 h2;omega
structure Kept (H H':LH) (v v':Value):Prop where
 le:H.n<=H'.n
 get: ∀k,k<H.n->ay v k->H'.get k=H.get k
 off: ∀k,k<H.n->ay v k->ay v' k
 base:H'.base=H.base
 ng:H'.ng=H.ng
theorem bA.app (h:bA N H e s v n xs) (hu:P.underlying t=some (.slice e)) (hs:ax P e=some s) (hc:new.all aC=true) (hl:new.length=m*s) (hm:n+m<=aH) (hN:N<=H.n) (hf:m<=1\/Full v):
  ∃v' H',eJ P t v (some (m,new)) H=some (v',H')/\bA N H' e s v' (n+m) (xs++new)/\Kept H H' v v'/\(Full v->Full v'):=by
 have hlen:(xs++new).length=(n+m)*s:=by rw [List.length_append,h.1,hl,Nat.add_mul]
 by_cases h0:m=0
 ·subst h0;have hn0:new= []:=List.eq_nil_of_length_eq_zero (by rw [hl,Nat.zero_mul]);subst hn0;refine⟨v,H,?_,by simpa using h,⟨Nat.le_refl _,fun _ _ _=>rfl,fun _ _ h=>h,rfl,rfl⟩,fun h=>h⟩;rcases h.2 with⟨rfl,rfl⟩|⟨k,c,rest,rfl,_,_,h2,h3,h4⟩
  ·exact oD hu hs
  ·simp only [eJ,hu,hs,hc,h2,if_true];rw [if_pos ⟨trivial,trivial,trivial,h4,h3⟩]
 rcases h.2 with⟨rfl,rfl⟩|⟨k,c,rest,rfl,h1,h2,h3,h4,h5⟩
 ·have hx:xs= []:=List.eq_nil_of_length_eq_zero (by rw [h.1,Nat.zero_mul]);subst hx;refine⟨_,_,si hu hs hc h0 (by omega),⟨hlen,.inr ⟨H.n,m,[],by simp,hN,by simp,by simp,by omega,by simpa using hl⟩⟩,⟨by simp,fun k hk _=>aa (by omega),fun k hk _ n c h=>?_,rfl,rfl⟩,fun _=>jF⟩;injection h with h;injection h with h;injection h with h;omega
 ·rcases Nat.lt_or_ge c (n+m)with hroom|hroom
  ·by_cases hnc:n=c
   ·subst hnc;have hr:rest= []:=List.eq_nil_of_length_eq_zero (by rw [List.length_append,h.1]at h5;omega);subst hr;rw [List.append_nil]at h3;have ha:=oE (P:=P) (H:=H) (t:=t) (m:=m) (new:=new) (n:=n) (s:=s) hu hs hc h0 hm h3 rfl rfl h.1;refine⟨_,_,ha,⟨hlen,.inr ⟨H.n,n+m,[],by simp,hN,by simp,?_,Nat.le_refl _,by simpa using hlen⟩⟩,⟨by simp,fun j hj ho=>?_,fun j hj ho n c h=>?_,rfl,rfl⟩,fun _=>jF⟩
    ·rw [show H.n=(H.kill k).n from rfl,ak];simp
    ·have hjk:j≠k:=fun e=>ho _ _ (by rw [e]);rw [aa (by simp;omega),ck hjk]
    ·injection h with h;injection h with h;injection h with h;omega
   ·exfalso;rcases hf with hf|hf
    ·omega
    ·exact hnc (hf k n c rfl).symm
  ·have ha:=vE (P:=P) (H:=H) (t:=t) (m:=m) (new:=new) (n:=n) (cp:=c) (s:=s) hu hs hc h0 h3 rfl rfl h5 hroom
   have hrest:rest.length=(c-n)*s:=by
    rw [List.length_append,h.1]at h5;rw [Nat.sub_mul];omega
   have hmr:m*s<=(c-n)*s:=Nat.mul_le_mul_right _ (by omega);refine⟨_,_,ha,⟨hlen,.inr ⟨k,c,rest.drop (m*s),rfl,h1,h2,?_,hroom,?_⟩⟩,⟨Nat.le_refl _,fun j hj ho=>?_,fun j hj ho n c' h=>?_,rfl,rfl⟩,fun hf=>absurd (hf k n c rfl) (by omega)⟩
   ·rw [aw];congr 2;simp only [aW];rw [<-h.1,List.take_left',List.drop_append,hl]
    ·simp [List.drop_eq_nil_of_le]
    ·rfl
   ·rw [List.length_append,hlen,List.length_drop,hrest,<-Nat.sub_mul,<-Nat.add_mul];congr 1;omega
   ·have hjk:j≠k:=fun e=>ho _ _ (by rw [e]);rw [ah hjk]
   ·injection h with h;injection h with h;injection h with h;subst h;exact ho _ _ rfl
end
section
variable {P:Program} {H:LH} {t c:TypeId} {kd kd':IntKind} {a b:Int} {k:FloatKind} {x y r:Nat}
def bAnd (kd:IntKind) (a b:Int):Int:=kd.wrap ((BitVec.ofInt kd.bits a&&&BitVec.ofInt kd.bits b).toNat)
def bOr (kd:IntKind) (a b:Int):Int:=kd.wrap ((BitVec.ofInt kd.bits a|||BitVec.ofInt kd.bits b).toNat)
def Oi (kd:IntKind) (a b:Int):Int:=kd.wrap ((BitVec.ofInt kd.bits a^^^BitVec.ofInt kd.bits b).toNat)
def Oj (kd:IntKind) (a b:Int):Int:=kd.wrap ((BitVec.ofInt kd.bits a&&& ~~~ BitVec.ofInt kd.bits b).toNat)
@[simp] theorem Ol:bL P .and t (.int kd a) (.int kd b)=some (.int kd (bAnd kd a b)):=cM (by simp [binOp,Op.intBits,bAnd]) rfl
@[simp] theorem Qd:bL P .or t (.int kd a) (.int kd b)=some (.int kd (bOr kd a b)):=cM (by simp [binOp,Op.intBits,bOr]) rfl
@[simp] theorem Om:bL P .xor t (.int kd a) (.int kd b)=some (.int kd (Oi kd a b)):=cM (by simp [binOp,Op.intBits,Oi]) rfl
@[simp] theorem HK:bL P .andNot t (.int kd a) (.int kd b)=some (.int kd (Oj kd a b)):=cM (by simp [binOp,Op.intBits,Oj]) rfl
theorem vJ {op:BinOp} {v:Value} (h:aU P (binOp op t (.int kd a) (.int kd' b))=some v) (hv:ao v=true):bL P op t (.int kd a) (.int kd' b)=some v:=by
 have e:aU P (do eqGuard op t (.tmp 0) (.tmp 0) (.int kd a) (.int kd' b);binOp op t (.int kd a) (.int kd' b):Sem Value)=some v:=by
  rw [<-h];cases op<;>rfl
 show aO P (do eqGuard op t (.tmp 0) (.tmp 0) _ _;binOp op t _ _)=some v;unfold aO;rw [e];simp only [hv,if_true]
@[simp] theorem On (h:0<=b):bL P .shl t (.int kd a) (.int kd' b)=some (.int kd (kd.wrap (a*2^(min b.toNat kd.bits)))):=vJ (by
 have: ¬b<0:=by omega
 simp [binOp,Op.shift,this]) rfl
@[simp] theorem Oo (h:0<=b):bL P .shr t (.int kd a) (.int kd' b)=some (.int kd (a.fdiv (2^(min b.toNat kd.bits)))):=vJ (by
 have: ¬b<0:=by omega
 simp [binOp,Op.shift,this]) rfl
theorem ofInt_nat {n:Nat} {m:Nat} :(BitVec.ofInt n (m:Int)).toNat=m%2^n:=by
 rw [BitVec.toNat_ofInt];omega
@[simp ↓] theorem Oq {fr:Fr} :ev fr (.const (.float k x))=.float k x:=rfl
@[simp] theorem uq:ao (.float k x)=true:=by simp [ao,az,aA]
@[simp] theorem Kh:aC (.float k x)=true:=by simp only [aC]
theorem lP {op:BinOp} {v:Value} (h:aU P (binOp op t (.float k x) (.float k y))=some v) (hv:ao v=true):bL P op t (.float k x) (.float k y)=some v:=by
 have e:aU P (do eqGuard op t (.tmp 0) (.tmp 0) (.float k x) (.float k y);binOp op t (.float k x) (.float k y):Sem Value)=some v:=by
  rw [<-h];cases op<;>rfl
 show aO P (do eqGuard op t (.tmp 0) (.tmp 0) _ _;binOp op t _ _)=some v;unfold aO;rw [e];simp only [hv,if_true]
theorem AK:bL P .eql t (.float k x) (.float k y)=some (.bool (k.format.order x y==some .eq)):=lP (by
 simp only [binOp,Op.floatCmp,ne_eq,not_true_eq_false,if_false,cf]) rfl
theorem AL:bL P .neq t (.float k x) (.float k y)=some (.bool (k.format.order x y !=some .eq)):=lP (by
 simp only [binOp,Op.floatCmp,ne_eq,not_true_eq_false,if_false,cf]) rfl
theorem AM:bL P .lss t (.float k x) (.float k y)=some (.bool (k.format.order x y==some .lt)):=lP (by
 simp only [binOp,Op.floatCmp,ne_eq,not_true_eq_false,if_false,cf]) rfl
theorem AN:bL P .gtr t (.float k x) (.float k y)=some (.bool (k.format.order x y==some .gt)):=lP (by
 simp only [binOp,Op.floatCmp,ne_eq,not_true_eq_false,if_false,cf]) rfl
theorem AO {n:Int} (h1:P.underlying t=some (.int kd)) (h2:P.underlying c=some (.float k)):cg P t c (.int kd n) H=some (.float k (k.nearest n)):=by
 have e:aU P (convert t c (.int kd n))=some (.float k (k.nearest n)):=by
  simp only [convert,b_,fj,h1,h2,Option.bind_some];rfl
 unfold cg;simp only [rZ,if_true,aO,e,uq]
attribute [simp] AK AL AM AN AO
end
def bN (g:List Value->Option Value):Lg.Spec:=fun args H=>(g args).map fun v=>(v,H)
theorem ei {P:Program} {f:FuncId} {g:List Value->Option Value} (he:cU P f)
  (h: ∀args v,g args=some v->(∀x∈args,ao x=true)/\ao v=true/\ ∀w,Calls P f args.toArray w fun e w'=>e=.returned v/\Change (fun _=>False) w w'):cr P f (bN g):=by
 intro args H v H' hs;unfold bN at hs;obtain⟨u,hu,e⟩:=Option.map_eq_some_iff.1 hs;simp only [Prod.mk.injEq]at e;obtain⟨rfl,rfl⟩:=e;obtain⟨h1,h2,h3⟩:=h args u hu;exact .inl ⟨he,pX h1 h2 h3⟩
theorem gz {w w':World} (h:Below w.heap.size w w'):Change (fun _=>False) w w':=⟨h.os,h.tape,h.output,h.size,fun k hk _=>h.block k hk⟩
theorem kI {P:Program} {f:FuncId} {args:Array Value} {w:World} {v:Value} (h:Calls P f args w fun e w'=>e=.returned v/\w'=w):Calls P f args w fun e w'=>e=.returned v/\Change (fun _=>False) w w':=
 h.mono fun e w' ⟨h1,h2⟩=>⟨h1,by rw [h2];exact Change.refl _ _⟩
theorem ur {P:Program} {f:FuncId} {args:Array Value} {w:World} {v:Value} (h:Calls P f args w fun e w'=>e=.returned v/\Below w.heap.size w w'):Calls P f args w fun e w'=>e=.returned v/\Change (fun _=>False) w w':=
 h.mono fun e w' ⟨h1,h2⟩=>⟨h1,gz h2⟩
theorem m_ {x y:Value} (hx:ao x=true) (hy:ao y=true): ∀z∈ [x,y],ao z=true:=by
 intro z hz;rcases List.mem_cons.1 hz with rfl|hz
 ·exact hx
 ·rcases List.mem_cons.1 hz with rfl|hz
  ·exact hy
  ·cases hz
theorem AP {x:Value} (hx:ao x=true): ∀z∈ [x],ao z=true:=by
 intro z hz;rcases List.mem_cons.1 hz with rfl|hz
 ·exact hx
 ·cases hz
theorem jG {P:Program} {E:Ext} {f:FuncId} {g:List Value->Option Value} {args:List Value} {v:Value} {H:LH} (he:E f=some (bN g)) (hg:g args=some v):LC P E f args H=some (v,H):=dj he (by simp [bN,hg])
end Go.Lg
namespace Go.Proofs.YtbeoilidocfofaaGreatDoor
open Go.Lg Go.Tg
def eV:List Value->Option Value
 | [.string s,.int .u8 c]=>some (.int .i64 (Lib.indexByte s.data.toList c.toNat.toUInt8))
 |_=>none
theorem p7:cr Tryz.prog 201 (bN eV):=ei ⟨_,Tryz.func201,rfl,by decide⟩ fun args v h=>by
 unfold eV at h;split at h
 ·injection h with h;subst h;exact⟨m_ rfl rfl,rfl,fun w=>kI (Tryz.strings_IndexByte _ _ w)⟩
 ·cases h
end Go.Proofs.YtbeoilidocfofaaGreatDoor
set_option maxRecDepth 100000
namespace Go.Lg
open Go.Tg Go.RowKit
section
variable {P:Program} {H H':LH} {ι:Ren} {w w':World}
theorem Rel.cell0 (h:Rel P H ι w) {l i:Nat} {b:LB} {v:Value} (hb:H.get l=some b) (hv:b.cells[i]?=some v): ∃v',w.cell? ⟨(ι l).blk,(ι l).off+i,none⟩=some v'/\VR H.D ι v v':=by
 obtain⟨arr,t,f,hw,_,h1,_⟩:=h.blk l b hb;obtain⟨v',h2,h3⟩:=h1 i v hv;exact⟨v',by simp [World.cell?,hw,h2],h3⟩
theorem Rel.row (h:Rel P H ι w) {l:Nat} {b:LB} (hb:H.get l=some b) (hrw:b.rw=true):(ι l).off=0:=by
 obtain⟨arr,t,f,hw,_,_,h1⟩:=h.blk l b hb;exact(h1 hrw).1
theorem AQ {D:Nat->Prop} {g o n c:Nat} {v':Value} (h:VR D ι (.slice (some ⟨g,o,none⟩) n c) v') (h0:n≠0):v'=.slice (some ⟨(ι g).blk,(ι g).off+o,none⟩) n (c+(ι g).slack):=by
 cases h with
 |flat _ hv=>simp [ao,az,aA]at hv
 |slice _ _ _ _ _ _=>rfl
 |slice0 _ _ _ _=>exact absurd rfl h0
theorem AR (h:Rel P H ι w) {l:Nat} {b:LB} (hb:H.get l=some b) (hrw:b.rw=true) (hc:Change (fun k=>k=(ι l).blk) w w'):Out P H ι w (H.kill l) ι w':=by
 have hRW:RW H ι (ι l).blk:=⟨l,b,hb,hrw,rfl⟩
 refine⟨g_ (eg h l) hc ?_,Nat.le_refl _,fun _ h=>h,fun _ _=>rfl,hc.mono (fun k _ e=>by rw [e];exact hRW),?_,?_,rfl⟩
 ·rintro k rfl;refine⟨?_,fun hk=>(h.pin _ hk).2.2 hRW⟩;rintro⟨l',b',hb',e⟩;have hb2:(H.kill l).get l'=some b':=hb';have hne:l'≠l:=by rintro rfl;simp at hb2
  rw [ck hne]at hb2;exact h.sep l l' b b' hb hb2 hrw (Ne.symm hne) e.symm
 ·rintro k ⟨l',b',hb',hr,e⟩;have hb2:(H.kill l).get l'=some b':=hb';have hne:l'≠l:=by rintro rfl;simp at hb2
  rw [ck hne]at hb2;exact .inl ⟨l',b',hb2,hr,e⟩
 ·rintro k ⟨l',b',hb',e⟩;have hb2:(H.kill l).get l'=some b':=hb';have hne:l'≠l:=by rintro rfl;simp at hb2
  rw [ck hne]at hb2;exact .inl ⟨l',b',hb2,e⟩
end
end Go.Lg
namespace Go.Proofs.YtbeoilidocfofaaGreatDoor
open Go.Lg Go.Tg
theorem lQ {P:Program} {H:LH} {ι:Ren} {b:Nat} {args':Array Value} (hl: [Value.pointer (some ⟨b,0,none⟩)].length=args'.size) (h: ∀(i:Nat) (x y:Value),[Value.pointer (some ⟨b,0,none⟩)][i]?=some x->args'[i]?=some y->VR H.D ι x y):args'=#[.pointer (some ⟨(ι b).blk,(ι b).off,none⟩)]:=by
 have h1:args'.size=1:=hl.symm;have hv:=h 0 _ _ rfl (Array.getElem?_eq_getElem (by omega));obtain⟨_,e⟩:=iC hv;apply Array.ext
 ·simp [h1]
 ·intro i h2 h3;obtain rfl:i=0:=by omega
  rw [e];simp
def dI:Lg.Spec:=fun args H=>match args with
 | [.pointer (some ⟨b,0,none⟩)]=>match H.get b with
  |some ⟨[.pointer none,v],e,true⟩=>if e=180 then some (.tuple #[],H.set b ⟨[ptr b 0,v],e,true⟩)else none
  |some ⟨[.pointer (some ⟨b',0,none⟩),v],e,true⟩=>if b'=b then some (.tuple #[],H)else none
  |_=>none
 |_=>none
theorem ES:cr Tryz.prog 226 dI:=by
 intro args H v H' hs;refine .inl ⟨⟨_,Tryz.func226,rfl,by decide⟩,?_⟩;unfold dI at hs;split at hs
 ·rename_i b;split at hs
  ·rename_i x e hg;split at hs
   ·rename_i he;subst he;simp only [Option.some.injEq,Prod.mk.injEq]at hs;obtain⟨rfl,rfl⟩:=hs;intro ι w args' hrel hl ha;obtain rfl:=lQ (P:=Tryz.prog) hl ha;have hoff:=hrel.row hg rfl;rw [hoff];obtain⟨arr,t,f,hw,hsz,hcells,hrw⟩:=hrel.blk b _ hg;obtain⟨_,hel,s,hs1,hs2,hs3⟩:=hrw rfl;obtain⟨rfl,rfl⟩:=kc.plain hel (show sz Tryz.prog 180=some 2 by kernel_rfl);have hs1':s=2:=Option.some.inj (hs1.symm.trans (show sz Tryz.prog 180=some 2 by kernel_rfl));subst hs1'
    have hc0:w.cell? ⟨(ι b).blk,0,none⟩=some (.pointer none):=by
     obtain⟨v',h1,h2⟩:=hrel.cell0 (i:=0) hg rfl;rw [hoff]at h1;rw [h1,aE h2 rfl]
    refine(wq (ι b).blk (ι b).slack w hc0 (by simp [World.shape?,hw,hs2]) (by simp [World.frozen?,hw])).mono ?_;rintro e w' ⟨rfl,rfl⟩;refine⟨ι,_,rfl,?_,.flat _ rfl⟩;refine vg hrel (b:=⟨[.pointer none,x],180,true⟩) (b':=⟨[ptr b 0,x],180,true⟩) hg rfl rfl rfl rfl hw (arr':=arr.setIfInBounds 0 (.pointer (some ⟨(ι b).blk,0,none⟩))) (by simp) ?_ ?_ ?_
    ·intro i y hy;cases i with
     |zero=>
      simp only [List.getElem?_cons_zero,Option.some.injEq]at hy;subst hy;refine⟨.pointer (some ⟨(ι b).blk,0,none⟩),?_,?_⟩
      ·rw [Array.getElem?_setIfInBounds_self_of_lt (by rw [hs2];simp;omega)]
      ·have:=VR.ptr (n:=H.D) (ι:=ι) b 0 (hrel.live hg);rw [hoff]at this;exact this
     |succ i=>
      obtain⟨y',h1,h2⟩:=hcells (i+1) y hy;rw [hoff,Nat.zero_add]at h1;exact⟨y',by rw [Array.getElem?_setIfInBounds_ne (by omega)];exact h1,h2⟩
    ·simp [World.setCell,Array.getElem?_modify,hw]
    ·refine⟨rfl,rfl,rfl,by simp [World.setCell],fun k hk hn=>?_⟩;simp only [World.setCell,Array.getElem?_modify];rw [if_neg (fun e=>hn e.symm)]
   ·cases hs
  ·rename_i b' x e hg;split at hs
   ·rename_i he;subst he;simp only [Option.some.injEq,Prod.mk.injEq]at hs;obtain⟨rfl,rfl⟩:=hs;intro ι w args' hrel hl ha;obtain rfl:=lQ (P:=Tryz.prog) hl ha;have hoff:=hrel.row hg rfl
    have hc0:w.cell? ⟨(ι b').blk,0,none⟩=some (.pointer (some ⟨(ι b').blk,0,none⟩)):=by
     obtain⟨v',h1,h2⟩:=hrel.cell0 (i:=0) hg rfl;rw [hoff]at h1;rw [h1,(iC h2).2,hoff]
    rw [hoff];refine(yN (ι b').blk w hc0).mono ?_;rintro e w' ⟨rfl,rfl⟩;exact⟨ι,_,rfl,Out.refl hrel,.flat _ rfl⟩
   ·cases hs
  ·cases hs
 ·cases hs
open Classical in
noncomputable def dJ:Lg.Spec:=fun args H=>match args with
 | [.pointer (some ⟨b,0,none⟩)]=>match H.get b with
  |some ⟨[_,.slice none 0 0],_,true⟩=>some (str [],H)
  |some ⟨[_,.slice (some ⟨g,0,none⟩) n c],_,true⟩=>match H.get g with
   |some ⟨cs,e,true⟩=>if∃l:List UInt8,l≠ []/\cs.take n=l.map bv/\l.length=n/\n<=c/\n<=maxLen/\e=5 then(vF (cs.take n)).map fun l=>(str l,H.kill g)else none
   |_=>none
  |_=>none
 |_=>none
theorem ET:cr Tryz.prog 179 dJ:=by
 intro args H v H' hs;refine .inl ⟨⟨_,Tryz.func179,rfl,by decide⟩,?_⟩;unfold dJ at hs;split at hs
 ·rename_i b;split at hs
  ·rename_i p e hg;simp only [Option.some.injEq,Prod.mk.injEq]at hs;obtain⟨rfl,rfl⟩:=hs;intro ι w args' hrel hl ha;obtain rfl:=lQ (P:=Tryz.prog) hl ha;have hoff:=hrel.row hg rfl
   have hc1:w.cell? ⟨(ι b).blk,1,none⟩=some (.slice none 0 0):=by
    obtain⟨v',h1,h2⟩:=hrel.cell0 (i:=1) hg rfl;rw [hoff]at h1;rw [h1,aE h2 rfl]
   rw [hoff];refine(lY (ι b).blk w hc1).mono ?_;rintro e w' ⟨rfl,hc⟩;exact⟨ι,_,rfl,c_ hrel hc,.flat _ rfl⟩
  ·rename_i p g n c e hg;split at hs
   ·rename_i cs e2 hgg;split at hs
    ·rename_i hex;obtain⟨l,h0,htk,hln,hnc,hnm,rfl⟩:=hex;rw [htk,pT]at hs;simp only [Option.map_some,Option.some.injEq,Prod.mk.injEq]at hs;obtain⟨rfl,rfl⟩:=hs;intro ι w args' hrel hl ha;obtain rfl:=lQ (P:=Tryz.prog) hl ha;have hoff:=hrel.row hg rfl;have hoffg:=hrel.row hgg rfl;subst hln;have hne:l.length≠0:=by simpa using h0
     have hc1:w.cell? ⟨(ι b).blk,1,none⟩=some (.slice (some ⟨(ι g).blk,0,none⟩) l.length (c+(ι g).slack)):=by
      obtain⟨v',h1,h2⟩:=hrel.cell0 (i:=1) hg rfl;rw [hoff]at h1;rw [h1];rw [AQ h2 hne,hoffg]
     obtain⟨arr,t,f,hw,hsz,hcells,hrw⟩:=hrel.blk g _ hgg;obtain⟨_,hel,s,hs1,hs2,hs3⟩:=hrw rfl;obtain⟨rfl,rfl⟩:=kc.plain hel (show sz Tryz.prog 5=some 1 by kernel_rfl)
     have hlen:l.length<=cs.length:=by
      have:=congrArg List.length htk;simp at this;omega
     rw [hoff];refine(ti (ι b).blk (ι g).blk (c+(ι g).slack) l arr w h0 hc1 hw (by omega) (by rw [hs2];simp;omega) hnm (fun j x hx=>?_)).mono ?_
     ·have hj:j<l.length:=(List.getElem?_eq_some_iff.1 hx).1
      have h1:cs[j]?=some (bv x):=by
       have:(cs.take l.length)[j]?=some (bv x):=by rw [htk,List.getElem?_map,hx];rfl
       rwa [List.getElem?_take,if_pos hj]at this
      obtain⟨y,h2,h3⟩:=hcells j _ h1;rw [hoffg,Nat.zero_add]at h2;rw [h2,aE h3 rfl];rfl
     ·rintro e w' ⟨rfl,hc⟩;exact⟨ι,_,rfl,AR hrel hgg rfl hc,.flat _ rfl⟩
    ·cases hs
   ·cases hs
  ·cases hs
 ·cases hs
def dU (H:LH):Prop:=2<H.ng/\ ∃m,H.base.cell? ⟨2,0,none⟩=some (.int .i64 m)
theorem AS {P:Program} {H:LH} {ι:Ren} {w:World} (hrel:Rel P H ι w) (h:dU H): ∃m,w.cell? ⟨2,0,none⟩=some (.int .i64 m):=by
 obtain⟨h1,m,h2⟩:=h;refine⟨m,?_⟩;unfold World.cell? at h2⊢;rw [kH hrel h1];exact h2
theorem p9 {P:Program} {H:LH} {ι:Ren} {args':Array Value} {vs:List Value} (hf: ∀x∈vs,ao x=true) (hl:vs.length=args'.size) (h: ∀(i:Nat) (x y:Value),vs[i]?=some x->args'[i]?=some y->VR H.D ι x y):args'=vs.toArray:=by
 apply Array.ext
 ·simp [hl]
 ·intro i h3 h4;have hx:vs[i]?=some (vs[i]'(by simpa using h4)):=List.getElem?_eq_getElem _;have:=aE (h i _ _ hx (Array.getElem?_eq_getElem h3)) (hf _ (List.getElem_mem _));rw [this];simp
open Classical in
noncomputable def dV:Lg.Spec:=fun args H=>match args with
 | [.string s,.string sep]=>if s.size<4294967281/\1<=sep.size/\dU H/\Lib.countB s sep+1<=maxLen/\(Lib.splitB sep 0 (Lib.countB s sep) s).length=Lib.countB s sep+1 then
   some (sl H.n (Lib.countB s sep+1) (Lib.countB s sep+1),H.new ⟨(Lib.splitB sep 0 (Lib.countB s sep) s).map Value.string,9,true⟩)
  else none
 |_=>none
theorem AT:cr Tryz.prog 191 dV:=by
 intro args H v H' h;refine .inl ⟨⟨_,Tryz.func191,rfl,by decide⟩,?_⟩;unfold dV at h;split at h
 ·rename_i s sep;split at h
  ·rename_i hc;obtain⟨h1,h2,h3,h4,h5⟩:=hc;simp only [Option.some.injEq,Prod.mk.injEq]at h;obtain⟨rfl,rfl⟩:=h
   exact iJ (m_ rfl rfl) (fun x hx=>by
     obtain⟨l,_,rfl⟩:=List.mem_map.1 hx
     rfl) (by kernel_rfl) (by simpa using h5) h4 (fun ι w hrel=>by
      obtain⟨m,hm⟩:=AS hrel h3;exact Tryz.strings_Split s sep m w h1 hm h2)
  ·cases h
 ·cases h
open Classical in
noncomputable def ek:Lg.Spec:=fun args H=>match args with
 | [.slice none 0 0,.string sep]=>some (str [],H)
 | [.slice (some ⟨l,o,none⟩) n c,.string sep]=>if h: ∃(b:LB) (xs:List (List UInt8)),H.get l=some b/\n≠0/\n<=c/\n<=140737488355328/\xs.length=n/\(b.cells.drop o).take n=xs.map str/\(Lib.join xs sep.data.toList).length<=140737488355328 then
   some (str (Lib.join (Classical.choose (Classical.choose_spec h)) sep.data.toList),H)else none
 |_=>none
theorem str_inj {a b:List UInt8} (h:str a=str b):a=b:=by
 unfold str at h;injection h with h;injection h with h;injection h
theorem lh: ∀ {xs ys:List (List UInt8)},xs.map str=ys.map str->xs=ys
 | [],[],_=>rfl
 | [],y::ys,h=>by simp at h
 |x::xs,[],h=>by simp at h
 |x::xs,y::ys,h=>by
  simp only [List.map_cons,List.cons.injEq]at h;rw [str_inj h.1,lh h.2]
theorem EU:cr Tryz.prog 259 ek:=by
 intro args H v H' hs;refine .inl ⟨⟨_,Tryz.func259,rfl,by decide⟩,?_⟩;unfold ek at hs;split at hs
 ·rename_i sep;simp only [Option.some.injEq,Prod.mk.injEq]at hs;obtain⟨rfl,rfl⟩:=hs;intro ι w args' hrel hl ha;obtain rfl:=p9 (P:=Tryz.prog) (m_ (by simp) (by simp)) hl ha;refine(Tryz.strings_Join_none none 0 sep w).mono ?_;rintro e w' ⟨rfl,rfl⟩;exact⟨ι,_,rfl,Out.refl hrel,.flat _ rfl⟩
 ·rename_i l o n c sep;split at hs
  ·rename_i hex;have hspec:=Classical.choose_spec (Classical.choose_spec hex);obtain⟨hb,h0,hnc,hn,hxl,hcells,hlen⟩:=hspec;generalize Classical.choose (Classical.choose_spec hex)=xs at*;generalize Classical.choose hex=b at*;simp only [Option.some.injEq,Prod.mk.injEq]at hs;obtain⟨rfl,rfl⟩:=hs;intro ι w args' hrel hl ha;have h2:args'.size=2:=hl.symm;have v0:=ha 0 _ _ rfl (Array.getElem?_eq_getElem (show 0<args'.size by omega));have v1:=ha 1 _ _ rfl (Array.getElem?_eq_getElem (show 1<args'.size by omega));have e0:=AQ v0 h0;have e1:=aE v1 rfl
   obtain rfl:args'=#[.slice (some ⟨(ι l).blk,(ι l).off+o,none⟩) n (c+(ι l).slack),.string sep]:=by
    apply Array.ext
    ·simp [h2]
    ·intro i h3 h4;have:i=0\/i=1:=by omega
     rcases this with rfl|rfl
     ·rw [e0];simp
     ·rw [e1];simp
   have hmap:xs.map (fun x=>(⟨x.toArray⟩:ByteArray).data.toList)=xs:=by simp
   have hj:(List.map (fun x=>x.data.toList) (xs.map fun x=>(⟨x.toArray⟩:ByteArray)))=xs:=by simp [Function.comp_def]
   have:=Tryz.strings_Join (ι l).blk ((ι l).off+o) (c+(ι l).slack) (xs.map fun x=>(⟨x.toArray⟩:ByteArray)) sep w (fun j x hx=>?_) (tn hrel hb) (by simp;omega) (by simp;omega) (by rw [hj];exact hlen)
   ·rw [hj]at this;rw [List.length_map,hxl]at this;refine this.mono ?_;rintro e w' ⟨rfl,hbl⟩;exact⟨ι,_,rfl,c_ hrel (gz hbl),.flat _ rfl⟩
   ·rw [List.getElem?_map]at hx;obtain⟨y,hy,rfl⟩:=Option.map_eq_some_iff.1 hx;have hjn:j<n:=by rw [<-hxl];exact(List.getElem?_eq_some_iff.1 hy).1
    have hc:b.cells[o+j]?=some (str y):=by
     have:((b.cells.drop o).take n)[j]?=some (str y):=by rw [hcells,List.getElem?_map,hy];rfl
     rw [List.getElem?_take,if_pos hjn,List.getElem?_drop]at this;exact this
    obtain⟨v',g1,g2⟩:=hrel.cell0 (i:=o+j) hb hc;rw [show(ι l).off+o+j=(ι l).off+(o+j) by omega,g1,aE g2 rfl];rfl
  ·cases hs
 ·cases hs
def eW:List Value->Option Value
 | [.string s,.string p]=>some (.bool (Lib.hasPrefix s.data.toList p.data.toList))
 |_=>none
theorem p_:cr Tryz.prog 95 (bN eW):=ei ⟨_,Tryz.func95,rfl,by decide⟩ fun args v h=>by
 unfold eW at h;split at h
 ·injection h with h;subst h;exact⟨m_ rfl rfl,rfl,fun w=>kI (Tryz.strings_HasPrefix _ _ w)⟩
 ·cases h
open Classical in
noncomputable def dt:Lg.Spec:=fun args H=>match args with
 | [.string s,.string ⟨⟨[c]⟩⟩]=>some (.int .i64 (Lib.indexByte s.data.toList c),H)
 | [.string s,.string sub]=>if s.size<4294967281/\dU H then some (.int .i64 (Lib.index s.data.toList sub.data.toList),H)else none
 |_=>none
theorem AU:cr Tryz.prog 291 dt:=by
 intro args H v H' hs;refine .inl ⟨⟨_,Tryz.func291,rfl,by decide⟩,?_⟩;unfold dt at hs;split at hs
 ·rename_i s c;simp only [Option.some.injEq,Prod.mk.injEq]at hs;obtain⟨rfl,rfl⟩:=hs;intro ι w args' hrel hl ha;obtain rfl:=p9 (P:=Tryz.prog) (m_ (by simp) (by simp)) hl ha;refine(Tryz.stringslite_Index_one s c w).mono ?_;rintro e w' ⟨rfl,rfl⟩;exact⟨ι,_,rfl,Out.refl hrel,.flat _ rfl⟩
 ·rename_i s sub _;split at hs
  ·rename_i hc;simp only [Option.some.injEq,Prod.mk.injEq]at hs;obtain⟨rfl,rfl⟩:=hs;intro ι w args' hrel hl ha;obtain rfl:=p9 (P:=Tryz.prog) (m_ (by simp) (by simp)) hl ha;obtain⟨m,hm⟩:=AS hrel hc.2;refine(Tryz.stringslite_Index s sub m w hc.1 hm).mono ?_;rintro e w' ⟨rfl,rfl⟩;exact⟨ι,_,rfl,Out.refl hrel,.flat _ rfl⟩
  ·cases hs
 ·cases hs
def nc:List Value->Option Value
 | [.string s]=>if s.size<=maxLen then some (.string ⟨(Tg.Lo.lower s.data.toList).toArray⟩)else none
 |_=>none
theorem AV:cr Tryz.prog 281 (bN nc):=ei ⟨_,Tryz.func281,rfl,by decide⟩ fun args v h=>by
 unfold nc at h;split at h
 ·split at h
  ·rename_i hs;injection h with h;subst h;exact⟨AP rfl,rfl,fun w=>Dj _ w hs⟩
  ·cases h
 ·cases h
def jH:List Value->Option Value
 | [.string s,.int .i64 c]=>if 0<=c/\c<=9223372036854775807/\s.size*c.toNat<=140737488355328 then some (.string ⟨(Lib.repeatL s.data.toList c.toNat).toArray⟩)else none
 |_=>none
theorem xD:cr Tryz.prog 194 (bN jH):=ei ⟨_,Tryz.func194,rfl,by decide⟩ fun args v h=>by
 unfold jH at h;split at h
 ·rename_i s c;split at h
  ·rename_i hs;obtain⟨h0,h1,h2⟩:=hs;injection h with h;subst h;obtain⟨k,rfl⟩:=Int.eq_ofNat_of_zero_le h0;exact⟨m_ rfl rfl,rfl,fun w=>ur (Tryz.strings_Repeat s k w (by omega) h2)⟩
  ·cases h
 ·cases h
def AW:List Value->Option Value
 | [.int .u8 x]=>if 0<=x/\x<=255 then some (.int .i64 (8-(Lib.bitLen x.toNat:Int)))else none
 |_=>none
theorem Ki:cr Tryz.prog 312 (bN AW):=ei ⟨_,Tryz.func312,rfl,by decide⟩ fun args v h=>by
 unfold AW at h;split at h
 ·split at h
  ·rename_i hs;injection h with h;subst h;exact⟨AP rfl,rfl,fun w=>kI (Tryz.bits_LeadingZeros8 _ w hs.1 hs.2)⟩
  ·cases h
 ·cases h
noncomputable def fM:List (FuncId×Lg.Spec):= [
 (194,bN jH),
 (312,bN AW),
 (281,bN nc),
 (191,dV),
 (259,ek),
 (226,dI),
 (179,dJ),
 (201,bN eV),
 (95,bN eW),
 (291,dt),
 ]
theorem Kj: ∀p∈fM,cr Tryz.prog p.1 p.2:=by
 intro p hp;unfold fM at hp;rcases List.mem_cons.1 hp with rfl|hp
 ·exact xD
 rcases List.mem_cons.1 hp with rfl|hp
 ·exact Ki
 rcases List.mem_cons.1 hp with rfl|hp
 ·exact AV
 rcases List.mem_cons.1 hp with rfl|hp
 ·exact AT
 rcases List.mem_cons.1 hp with rfl|hp
 ·exact EU
 rcases List.mem_cons.1 hp with rfl|hp
 ·exact ES
 rcases List.mem_cons.1 hp with rfl|hp
 ·exact ET
 rcases List.mem_cons.1 hp with rfl|hp
 ·exact p7
 rcases List.mem_cons.1 hp with rfl|hp
 ·exact p_
 rcases List.mem_cons.1 hp with rfl|hp
 ·exact AU
 cases hp
noncomputable def EJ:Ext:=iA fM [76,77]
@[simp] theorem HM {n id k:Nat} :EJ.loud.ch n id k=L' n id k:=rfl
@[simp] theorem HN {s d:TypeId} :EJ.loud.cv s d=false:=rfl
@[simp] theorem HO {n id k:Nat} :EJ.loud.pm n id k= []:=rfl
@[simp] theorem vK {g:FuncId} :EJ.loud g=(decide (g=76)||decide (g=77)):=by
 unfold EJ iA;simp only [List.contains_cons,List.contains_nil,Bool.or_false];rw [Bool.eq_iff_iff];simp
theorem extOk:ow Tryz.prog EJ:=pW Kj
theorem tOk:lz Tryz.prog (LC Tryz.prog EJ):=vu extOk mixed
section
variable {H:LH} {s t p:List UInt8}
@[simp] theorem lj {c:UInt8} :LC Tryz.prog EJ 201 [str s,.int .u8 c.toNat] H=some (.int .i64 (Lib.indexByte s c),H):=jG (g:=eV) rfl (by simp [eV,str])
@[simp] theorem HP:LC Tryz.prog EJ 95 [str s,str p] H=some (.bool (Lib.hasPrefix s p),H):=jG (g:=eW) rfl (by simp [eW,str])
@[simp] theorem Ot {c:UInt8} :LC Tryz.prog EJ 291 [str s,str [c]] H=some (.int .i64 (Lib.indexByte s c),H):=dj (s:=dt) rfl (by unfold dt str;rfl)
theorem EV (h:s.length<4294967281) (h1:1<=p.length) (hm:dU H) (h2:Lib.countB ⟨s.toArray⟩ ⟨p.toArray⟩+1<=maxLen) (h3:(Lib.splitB ⟨p.toArray⟩ 0 (Lib.countB ⟨s.toArray⟩ ⟨p.toArray⟩) ⟨s.toArray⟩).length=Lib.countB ⟨s.toArray⟩ ⟨p.toArray⟩+1):
  LC Tryz.prog EJ 191 [str s,str p] H=some (sl H.n (Lib.countB ⟨s.toArray⟩ ⟨p.toArray⟩+1) (Lib.countB ⟨s.toArray⟩ ⟨p.toArray⟩+1),H.new ⟨(Lib.splitB ⟨p.toArray⟩ 0 (Lib.countB ⟨s.toArray⟩ ⟨p.toArray⟩) ⟨s.toArray⟩).map Value.string,9,true⟩):=dj (s:=dV) rfl (by
 unfold dV str;dsimp only;rw [if_pos ⟨by rw [cN];exact h,by rw [cN];exact h1,hm,h2,h3⟩])
theorem AX {l o n c:Nat} {b:LB} {xs:List (List UInt8)} (hb:H.get l=some b) (h0:n≠0) (hc:n<=c) (hn:n<=140737488355328) (hx:xs.length=n) (hcs:(b.cells.drop o).take n=xs.map str) (hl:(Lib.join xs p).length<=140737488355328):
  LC Tryz.prog EJ 259 [.slice (some ⟨l,o,none⟩) n c,str p] H=some (str (Lib.join xs p),H):=dj (s:=ek) rfl (by
 have hex: ∃(b:LB) (xs:List (List UInt8)),H.get l=some b/\n≠0/\n<=c/\n<=140737488355328/\xs.length=n/\(b.cells.drop o).take n=xs.map str/\(Lib.join xs (⟨p.toArray⟩:ByteArray).data.toList).length<=140737488355328:=⟨b,xs,hb,h0,hc,hn,hx,hcs,hl⟩
 have e:Classical.choose (Classical.choose_spec hex)=xs:=by
  obtain⟨g1,_,_,_,_,g6,_⟩:=Classical.choose_spec (Classical.choose_spec hex);have hbe:=congrArg LB.cells (Option.some.inj (hb.symm.trans g1));exact(lh (hcs.symm.trans ((congrArg (fun z=>(z.drop o).take n) hbe).trans g6))).symm
 show ek [.slice (some ⟨l,o,none⟩) n c,.string ⟨p.toArray⟩] H=_;unfold ek;simp only;rw [dif_pos hex,e])
theorem EW (h:s.length<=maxLen):LC Tryz.prog EJ 281 [str s] H=some (str (Tg.Lo.lower s),H):=jG (g:=nc) rfl (by
 unfold nc str;dsimp only;rw [if_pos (by rw [cN];exact h)])
theorem nd {c:Int} (h0:0<=c) (h1:c<=1048576) (h2:s.length<=1048576):LC Tryz.prog EJ 194 [str s,.int .i64 c] H=some (str (Lib.repeatL s c.toNat),H):=jG (g:=jH) rfl (by
 unfold jH str;dsimp only;have h3:s.length*c.toNat<=1048576*1048576:=Nat.mul_le_mul h2 (by omega);rw [if_pos ⟨h0,by omega,by rw [cN];omega⟩])
theorem Ou {c:UInt8} :LC Tryz.prog EJ 312 [.int .u8 c.toNat] H=some (.int .i64 (8-(Lib.bitLen c.toNat:Int)),H):=jG (g:=AW) rfl (by
 have h:=c.toNat_lt;unfold AW;dsimp only;rw [if_pos ⟨by omega,by omega⟩];simp)
end
end Go.Proofs.YtbeoilidocfofaaGreatDoor
namespace Go.Lg
end Go.Lg
